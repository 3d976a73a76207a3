/- Contracts: what is an evening, on both sides. And what follows. -/
import Derived.Test.YtgkmdfjjlghecaaM2
section
set_option linter.unusedSimpArgs false
set_option linter.unusedVariables false
set_option maxRecDepth 100000
set_option maxHeartbeats 2000000
namespace Go.Proofs.Ytgkmdfjjlghecaa.A
open Go Go.Abs Go.RowKit

theorem areDistinct_c (n : Nat) (v : Value) (y : List Int) (H : AH) (hv : Rd 1 H v y.length y) (hy : y.length ≤ 4194304) :
    ACalls Try.prog 126 [v, .int .i64 n] H (is (.bool (distB n y)) H) := by
  refine acalls_up rfl (ACalls.wf (by kernel_rfl) fun hs => acalls_of_awp [.tmp 4] Try.func126 (by kernel_rfl) rfl rfl (Nat.le_of_ble_eq_true rfl) (by kernel_rfl) ?_)
  try simp (disch := first | omega | (simp only [ints_length, List.length_replicate, List.length_set] <;> omega)) only [Sall,evalOp,init,binE,binI,unE,convE,okNil,builtE,gv,TD.isAgg,resV,↓reduceIte,Nat.reduceEqDiff,reduceCtorEq,Nat.reduceAdd,Nat.reduceMul,Nat.reduceLeDiff,quietOp,blindOp,Int.reduceEq,Int.reduceLT,Int.reduceLE,Nat.reduceLT,tiA, true_and]
  refine (values_c v H hv.one).to ?_
  try simp (disch := first | omega | (simp only [ints_length, List.length_replicate, List.length_set] <;> omega)) only [Sall,evalOp,init,binE,binI,unE,convE,okNil,builtE,gv,TD.isAgg,resV,↓reduceIte,Nat.reduceEqDiff,reduceCtorEq,Nat.reduceAdd,Nat.reduceMul,Nat.reduceLeDiff,quietOp,blindOp,Int.reduceEq,Int.reduceLT,Int.reduceLE,Nat.reduceLT,tiA, true_and]
  have up : Up H.next H (H.push ⟨38, true, [v]⟩) := (Up.refl _ H).push (Nat.le_refl _) _
  have e1 : (H.push ⟨38, true, [v]⟩).row H.next = some ⟨38, true, [v]⟩ := by rw [AH.push_row, if_pos rfl]
  have n1 : (H.push ⟨38, true, [v]⟩).next = H.next + 1 := rfl
  revert up e1 n1
  generalize H.push ⟨38, true, [v]⟩ = H1
  intro up e1 n1
  refine (sorted_c H.next v y H1 e1 (hv.same (up.le hs).row) (by omega)).mono ?_
  rintro u H2 ⟨up2, hf⟩
  have hl2 := sortedL_length y
  have n2 := up2.next
  have u2 : Up H.next H H2 := up.trans up2 (by omega)
  have hf' : Fr 1 2 H1.next H2.next H2 u (sortedL y).length (sortedL y) := by rw [hl2]; exact hf
  have hul := hf'.rd.len
  rw [hl2] at hul
  refine Holds.mp ?_
  by_cases h0 : y.length = 0
  · have e0 : ((y.length : Int) == 0) = true := by rw [h0]; rfl
    have hy0 : y = [] := List.eq_nil_of_length_eq_zero h0
    have hd : distB n y = true := by rw [hy0]; rfl
    rw [hd]
    try simp (disch := first | omega | (simp only [ints_length, List.length_replicate, List.length_set] <;> omega)) only [Sall,evalOp,init,binE,binI,unE,convE,okNil,builtE,gv,TD.isAgg,resV,↓reduceIte,Nat.reduceEqDiff,reduceCtorEq,Nat.reduceAdd,Nat.reduceMul,Nat.reduceLeDiff,quietOp,blindOp,Int.reduceEq,Int.reduceLT,Int.reduceLE,Nat.reduceLT,tiA, builtE, hul, e0]
    exact u2
  · have e0 : ((y.length : Int) == 0) = false := by rw [beq_eq_false_iff_ne]; omega
    have hd := distB_sorted (n := n) (y := y) (by omega)
    have hcs := compact_sorted y
    obtain ⟨i, o, uu, cc, r, eu, hr, _, hg, _⟩ := hf'.rd.get (by omega)
    rw [hl2] at eu
    have g0 := hg 0 (by omega)
    rw [Nat.add_zero] at g0
    have g1 := hg (y.length - 1) (by omega)
    have i0 : (0 : Int).toNat = 0 := rfl
    have i1 : ((y.length : Int) - 1).toNat = y.length - 1 := by omega
    have k0 : (0 : Int) < (y.length : Int) := by omega
    rw [hd]
    revert g0 g1
    generalize (sortedL y).getD 0 0 = x0
    generalize (sortedL y).getD (y.length - 1) 0 = x1
    intro g0 g1
    by_cases c0 : 0 ≤ x0
    · rw [decide_eq_true c0]
      by_cases c1 : x1 < (n : Int)
      · rw [decide_eq_true c1]
        try simp (disch := first | omega | (simp only [ints_length, List.length_replicate, List.length_set] <;> omega)) only [Sall,evalOp,init,binE,binI,unE,convE,okNil,builtE,gv,TD.isAgg,resV,↓reduceIte,Nat.reduceEqDiff,reduceCtorEq,Nat.reduceAdd,Nat.reduceMul,Nat.reduceLeDiff,quietOp,blindOp,Int.reduceEq,Int.reduceLT,Int.reduceLE,Nat.reduceLT,tiA, builtE, hul, e0, eu, hr, g0, g1, i0, i1, k0, c0, c1, decide_true, w64]
        (repeat refine And.intro (by omega) ?_)
        have hclone := cloneI_c u (sortedL y) H2 (Cp.of_fr hf') (by omega)
        rw [eu] at hclone
        refine hclone.mono ?_
        rintro w H3 ⟨up3, hw⟩
        have n3 := up3.next
        refine Holds.mp ?_
        try simp (disch := first | omega | (simp only [ints_length, List.length_replicate, List.length_set] <;> omega)) only [Sall,evalOp,init,binE,binI,unE,convE,okNil,builtE,gv,TD.isAgg,resV,↓reduceIte,Nat.reduceEqDiff,reduceCtorEq,Nat.reduceAdd,Nat.reduceMul,Nat.reduceLeDiff,quietOp,blindOp,Int.reduceEq,Int.reduceLT,Int.reduceLE,Nat.reduceLT,tiA, true_and]
        refine (compact_c w (sortedL y) H2.next H3.next H3 hw (by omega)).mono ?_
        rintro z H4 ⟨hzl, n4, r4⟩
        refine Holds.mp ?_
        try simp (disch := first | omega | (simp only [ints_length, List.length_replicate, List.length_set] <;> omega)) only [Sall,evalOp,init,binE,binI,unE,convE,okNil,builtE,gv,TD.isAgg,resV,↓reduceIte,Nat.reduceEqDiff,reduceCtorEq,Nat.reduceAdd,Nat.reduceMul,Nat.reduceLeDiff,quietOp,blindOp,Int.reduceEq,Int.reduceLT,Int.reduceLE,Nat.reduceLT,tiA, builtE, hzl, hcs, Bool.true_and]
        exact ⟨by omega, fun i hi => by rw [r4 i (by omega), up3.row i (by omega), u2.row i hi]⟩
      · rw [decide_eq_false c1]
        try simp (disch := first | omega | (simp only [ints_length, List.length_replicate, List.length_set] <;> omega)) only [Sall,evalOp,init,binE,binI,unE,convE,okNil,builtE,gv,TD.isAgg,resV,↓reduceIte,Nat.reduceEqDiff,reduceCtorEq,Nat.reduceAdd,Nat.reduceMul,Nat.reduceLeDiff,quietOp,blindOp,Int.reduceEq,Int.reduceLT,Int.reduceLE,Nat.reduceLT,tiA, builtE, hul, e0, eu, hr, g0, g1, i0, i1, k0, c0, c1, decide_true, decide_false, Bool.and_false, Bool.false_and, w64]
        first | exact u2 | exact ⟨⟨by omega, by omega⟩, u2⟩
    · rw [decide_eq_false c0]
      try simp (disch := first | omega | (simp only [ints_length, List.length_replicate, List.length_set] <;> omega)) only [Sall,evalOp,init,binE,binI,unE,convE,okNil,builtE,gv,TD.isAgg,resV,↓reduceIte,Nat.reduceEqDiff,reduceCtorEq,Nat.reduceAdd,Nat.reduceMul,Nat.reduceLeDiff,quietOp,blindOp,Int.reduceEq,Int.reduceLT,Int.reduceLE,Nat.reduceLT,tiA, builtE, hul, e0, eu, hr, g0, g1, i0, i1, k0, c0, decide_false, Bool.false_and, w64]
      exact u2

theorem l06Round_c (n : Nat) (hn : n ≤ 1024) (v : Value) (y : List Int) (H : AH) (hv : Rd 1 H v y.length y) (hy : y.length ≤ 4294967296) :
    ACalls Try.prog 185 [.int .i64 n, v] H (is (.bool (evRow n y)) H) := by
  refine acalls_up rfl (ACalls.wf (by kernel_rfl) fun hs => acalls_of_awp [.tmp 4] Try.func185 (by kernel_rfl) rfl rfl (Nat.le_of_ble_eq_true rfl) (by kernel_rfl) ?_)
  unfold evRow
  try simp (disch := first | omega | (simp only [ints_length, List.length_replicate, List.length_set] <;> omega)) only [Sall,evalOp,init,binE,binI,unE,convE,okNil,builtE,gv,TD.isAgg,resV,↓reduceIte,Nat.reduceEqDiff,reduceCtorEq,Nat.reduceAdd,Nat.reduceMul,Nat.reduceLeDiff,quietOp,blindOp,Int.reduceEq,Int.reduceLT,Int.reduceLE,Nat.reduceLT,tiA, zeros_bools, ← metL_nil]
  (repeat refine And.intro (by omega) ?_)
  have hml := metL_length n []
  refine awp_loop (fun m t H' => ∃ a : Nat, m = y.length - a ∧ a ≤ y.length ∧ t 6 = .int .i64 a ∧ t 5 = .slice (some ⟨H.next, 0, some 1⟩) n n ∧ t 1 = v ∧ t 0 = .int .i64 n ∧ H.next < H'.next ∧ (∀ i, i < H.next → H'.row i = H.row i) ∧ H'.row H.next = some ⟨4, true, bools (metL n (y.take a))⟩ ∧ goodTo n y a) y.length ?_ ?_
  · refine ⟨0, by omega, by omega, ?_⟩
    try simp (disch := first | omega | (simp only [ints_length, List.length_replicate, List.length_set] <;> omega)) only [Sall,evalOp,init,binE,binI,unE,convE,okNil,builtE,gv,TD.isAgg,resV,↓reduceIte,Nat.reduceEqDiff,reduceCtorEq,Nat.reduceAdd,Nat.reduceMul,Nat.reduceLeDiff,quietOp,blindOp,Int.reduceEq,Int.reduceLT,Int.reduceLE,Nat.reduceLT,tiA, Int.natCast_zero, List.take_zero]
    refine ⟨by omega, fun i hi => by rw [if_neg (by omega)], goodTo_zero n y⟩
  · rintro m t H' ⟨a, hm, han, h6, h5, h1, h0, hnx, hrows, hrow, hgood⟩
    have hv' : Rd 1 H' v y.length y := hv.same fun i r hr => by rw [hrows i (hs _ _ hr)]; exact hr
    have up : Up H.next H H' := ⟨by omega, hrows⟩
    try simp (disch := first | omega | (simp only [ints_length, List.length_replicate, List.length_set] <;> omega)) only [Sall,evalOp,init,binE,binI,unE,convE,okNil,builtE,gv,TD.isAgg,resV,↓reduceIte,Nat.reduceEqDiff,reduceCtorEq,Nat.reduceAdd,Nat.reduceMul,Nat.reduceLeDiff,quietOp,blindOp,Int.reduceEq,Int.reduceLT,Int.reduceLE,Nat.reduceLT,tiA, h6, h1, builtE, hv'.len]
    refine condC_dec (fun h => ?_) (fun h => ?_)
    · obtain ⟨i, o, uu, cc, r, rfl, hr, hc, hg, _⟩ := hv'.get (by omega)
      have g1 := hg a (by omega)
      obtain ⟨x, hx⟩ : ∃ x, x = y.getD a 0 := ⟨_, rfl⟩
      rw [← hx] at g1
      by_cases hin : 0 ≤ x ∧ x ≤ (n : Int) - 1
      · have hin' : 0 ≤ x ∧ x < (n : Int) := by omega
        have g2 := metL_get? n (y.take a) x hin'
        have g3 := metL_put n (y.take a) x hin'
        try simp (disch := first | omega | (simp only [ints_length, List.length_replicate, List.length_set] <;> omega)) only [Sall,evalOp,init,binE,binI,unE,convE,okNil,builtE,gv,TD.isAgg,resV,↓reduceIte,Nat.reduceEqDiff,reduceCtorEq,Nat.reduceAdd,Nat.reduceMul,Nat.reduceLeDiff,quietOp,blindOp,Int.reduceEq,Int.reduceLT,Int.reduceLE,Nat.reduceLT,tiA, h6, h0, h1, hr, g1, w64]
        (repeat refine And.intro (by omega) ?_)
        refine (l01In_c _ _ _ _).to ?_
        rw [decide_eq_true hin]
        cases hct : (y.take a).contains x with
        | true =>
          rw [hct] at g2
          try simp (disch := first | omega | (simp only [ints_length, List.length_replicate, List.length_set] <;> omega)) only [Sall,evalOp,init,binE,binI,unE,convE,okNil,builtE,gv,TD.isAgg,resV,↓reduceIte,Nat.reduceEqDiff,reduceCtorEq,Nat.reduceAdd,Nat.reduceMul,Nat.reduceLeDiff,quietOp,blindOp,Int.reduceEq,Int.reduceLT,Int.reduceLE,Nat.reduceLT,tiA, Bool.not_true, h6, h5, h0, h1, hr, g1, hrow, g2, w64]
          (repeat refine And.intro (by omega) ?_)
          rw [distB_bad (i := a) (by omega) (.inr (by rw [← hx]; exact hct)), Bool.and_false]
          exact ⟨rfl, up⟩
        | false =>
          rw [hct] at g2
          have ne : ¬ i = H.next := by
            rintro rfl
            rw [hrow] at hr
            cases hr
            rcases hv.2 with ⟨h9, _⟩ | ⟨i9, o9, u9, c9, r9, e9, hr9, _⟩
            · omega
            · cases e9
              have := hs _ _ hr9
              omega
          try simp (disch := first | omega | (simp only [ints_length, List.length_replicate, List.length_set] <;> omega)) only [Sall,evalOp,init,binE,binI,unE,convE,okNil,builtE,gv,TD.isAgg,resV,↓reduceIte,Nat.reduceEqDiff,reduceCtorEq,Nat.reduceAdd,Nat.reduceMul,Nat.reduceLeDiff,quietOp,blindOp,Int.reduceEq,Int.reduceLT,Int.reduceLE,Nat.reduceLT,tiA, Bool.not_true, h6, h5, h0, h1, hr, g1, hrow, g2, g3, ne, w64]
          (repeat refine And.intro (by omega) ?_)
          refine ⟨by rw [bools_length, metL_length]; omega, y.length - (a + 1), by omega, a + 1, rfl, by omega, rfl, hnx, fun i hi => by rw [if_neg (by omega)]; exact hrows i hi, by rw [take_snoc y 0 a (by omega), ← hx], goodTo_succ (by omega) hgood (by rw [← hx]; exact hin') (by rw [← hx]; exact hct)⟩
      · try simp (disch := first | omega | (simp only [ints_length, List.length_replicate, List.length_set] <;> omega)) only [Sall,evalOp,init,binE,binI,unE,convE,okNil,builtE,gv,TD.isAgg,resV,↓reduceIte,Nat.reduceEqDiff,reduceCtorEq,Nat.reduceAdd,Nat.reduceMul,Nat.reduceLeDiff,quietOp,blindOp,Int.reduceEq,Int.reduceLT,Int.reduceLE,Nat.reduceLT,tiA, h6, h0, h1, hr, g1, w64]
        (repeat refine And.intro (by omega) ?_)
        refine (l01In_c _ _ _ _).to ?_
        rw [decide_eq_false hin]
        try simp (disch := first | omega | (simp only [ints_length, List.length_replicate, List.length_set] <;> omega)) only [Sall,evalOp,init,binE,binI,unE,convE,okNil,builtE,gv,TD.isAgg,resV,↓reduceIte,Nat.reduceEqDiff,reduceCtorEq,Nat.reduceAdd,Nat.reduceMul,Nat.reduceLeDiff,quietOp,blindOp,Int.reduceEq,Int.reduceLT,Int.reduceLE,Nat.reduceLT,tiA, Bool.not_false]
        rw [distB_bad (i := a) (by omega) (.inl (by rw [← hx]; omega)), Bool.and_false]
        exact ⟨rfl, up⟩
    · have ha : a = y.length := by omega
      subst ha
      have em : Int.tmod (y.length : Int) 4 = ((y.length % 4 : Nat) : Int) := rfl
      try simp (disch := first | omega | (simp only [ints_length, List.length_replicate, List.length_set] <;> omega)) only [Sall,evalOp,init,binE,binI,unE,convE,okNil,builtE,gv,TD.isAgg,resV,↓reduceIte,Nat.reduceEqDiff,reduceCtorEq,Nat.reduceAdd,Nat.reduceMul,Nat.reduceLeDiff,quietOp,blindOp,Int.reduceEq,Int.reduceLT,Int.reduceLE,Nat.reduceLT,tiA, h0, h1, builtE, hv'.len, em, w64]
      rw [distB_all hgood, Bool.and_true]
      refine ⟨?_, up⟩
      by_cases e : y.length % 4 = 0
      · rw [decide_eq_true e, e]; rfl
      · rw [decide_eq_false e, beq_eq_false_iff_ne]; omega

theorem IsEveningC_c (n : Nat) (u : Value) (y : Value) (l : List Int) (c0 : Nat) (H : AH) (h0 : H.row c0 = some ⟨65, true, [.int .i64 n, u]⟩) (hy : Rd 1 H y l.length l) (hl : l.length ≤ 4194304) :
    ACalls Try.prog 125 [y, .pointer (some ⟨c0, 0, none⟩)] H (is (.bool (!evRow n l)) H) := by
  refine acalls_of_awp [.tmp 3] Try.func125 (by kernel_rfl) rfl rfl (Nat.le_of_ble_eq_true rfl) (by kernel_rfl) ?_
  have em : Int.tmod (l.length : Int) 4 = ((l.length % 4 : Nat) : Int) := rfl
  unfold evRow
  by_cases h4 : l.length % 4 = 0
  · have e0 : (Int.tmod (l.length : Int) 4 != 0) = false := by rw [em, h4]; rfl
    rw [decide_eq_true h4]
    try simp (disch := first | omega | (simp only [ints_length, List.length_replicate, List.length_set] <;> omega)) only [Sall,evalOp,init,binE,binI,unE,convE,okNil,builtE,gv,TD.isAgg,resV,↓reduceIte,Nat.reduceEqDiff,reduceCtorEq,Nat.reduceAdd,Nat.reduceMul,Nat.reduceLeDiff,quietOp,blindOp,Int.reduceEq,Int.reduceLT,Int.reduceLE,Nat.reduceLT,tiA, builtE, hy.len, e0, h0, w64]
    refine (areDistinct_c n y l H hy hl).to ?_
    try simp (disch := first | omega | (simp only [ints_length, List.length_replicate, List.length_set] <;> omega)) only [Sall,evalOp,init,binE,binI,unE,convE,okNil,builtE,gv,TD.isAgg,resV,↓reduceIte,Nat.reduceEqDiff,reduceCtorEq,Nat.reduceAdd,Nat.reduceMul,Nat.reduceLeDiff,quietOp,blindOp,Int.reduceEq,Int.reduceLT,Int.reduceLE,Nat.reduceLT,tiA, is, Bool.true_and]
  · have e0 : (Int.tmod (l.length : Int) 4 != 0) = true := by rw [em, bne_iff_ne]; omega
    rw [decide_eq_false h4]
    try simp (disch := first | omega | (simp only [ints_length, List.length_replicate, List.length_set] <;> omega)) only [Sall,evalOp,init,binE,binI,unE,convE,okNil,builtE,gv,TD.isAgg,resV,↓reduceIte,Nat.reduceEqDiff,reduceCtorEq,Nat.reduceAdd,Nat.reduceMul,Nat.reduceLeDiff,quietOp,blindOp,Int.reduceEq,Int.reduceLT,Int.reduceLE,Nat.reduceLT,tiA, builtE, hy.len, e0, h0, w64, is, Bool.false_and, Bool.not_false]

theorem IsEvening_c (q : Int) (v : Value) (R : List (List Int)) (H : AH) (hv : Rd2 1 H v R) (hl : R.length ≤ 4194304) (hl2 : ∀ r ∈ R, r.length ≤ 4194304) :
    ACalls Try.prog 49 [.agg #[.int .i64 q, v]] H (is (.bool (evB q R)) H) := by
  refine acalls_up rfl (ACalls.wf (by kernel_rfl) fun hs => acalls_of_awp [.tmp 2] Try.func49 (by kernel_rfl) rfl rfl (Nat.le_of_ble_eq_true rfl) (by kernel_rfl) ?_)
  have hone := hv.one
  have up : Up H.next H (H.push ⟨65, true, [.int .i64 q, v]⟩) := (Up.refl _ H).push (Nat.le_refl _) _
  have e1 : (H.push ⟨65, true, [.int .i64 q, v]⟩).row H.next = some ⟨65, true, [.int .i64 q, v]⟩ := by rw [AH.push_row, if_pos rfl]
  try simp (disch := first | omega | (simp only [ints_length, List.length_replicate, List.length_set] <;> omega)) only [Sall,evalOp,init,binE,binI,unE,convE,okNil,builtE,gv,TD.isAgg,resV,↓reduceIte,Nat.reduceEqDiff,reduceCtorEq,Nat.reduceAdd,Nat.reduceMul,Nat.reduceLeDiff,quietOp,blindOp,Int.reduceEq,Int.reduceLT,Int.reduceLE,Nat.reduceLT,tiA, hone]
  revert up e1
  generalize H.push ⟨65, true, [.int .i64 q, v]⟩ = H1
  intro up e1
  have hv1 := hv.same (up.le hs).row
  try simp (disch := first | omega | (simp only [ints_length, List.length_replicate, List.length_set] <;> omega)) only [Sall,evalOp,init,binE,binI,unE,convE,okNil,builtE,gv,TD.isAgg,resV,↓reduceIte,Nat.reduceEqDiff,reduceCtorEq,Nat.reduceAdd,Nat.reduceMul,Nat.reduceLeDiff,quietOp,blindOp,Int.reduceEq,Int.reduceLT,Int.reduceLE,Nat.reduceLT,tiA, e1]
  refine (between_c _ _ _ _).to ?_
  unfold evB
  by_cases hq : 4 ≤ q ∧ q ≤ 16
  · obtain ⟨n, rfl⟩ : ∃ n : Nat, q = n := ⟨q.toNat, by omega⟩
    rw [decide_eq_true hq, Int.toNat_natCast]
    by_cases h20 : R.length ≤ 20
    · have k : (R.length : Int) ≤ 20 := by omega
      rw [decide_eq_true h20]
      try simp (disch := first | omega | (simp only [ints_length, List.length_replicate, List.length_set] <;> omega)) only [Sall,evalOp,init,binE,binI,unE,convE,okNil,builtE,gv,TD.isAgg,resV,↓reduceIte,Nat.reduceEqDiff,reduceCtorEq,Nat.reduceAdd,Nat.reduceMul,Nat.reduceLeDiff,quietOp,blindOp,Int.reduceEq,Int.reduceLT,Int.reduceLE,Nat.reduceLT,tiA, e1, builtE, hv1.len, k, decide_true, List.mem_cons, List.not_mem_nil, or_false, forall_eq_or_imp, forall_eq, Array.size_empty]
      refine (containsFuncLL_c 125 [.pointer (some ⟨H.next, 0, none⟩)] (fun l => !evRow n l) v R H1 hv1 (by omega) fun y r hr hy => IsEveningC_c n v y r H.next H1 e1 hy (hl2 r hr)).to ?_
      have hany : ((List.range R.length).any fun i => !evRow n (R.getD i [])) = !((List.range R.length).all fun i => evRow n (R.getD i [])) := by rw [List.not_all_eq_any_not]
      rw [hany]
      try simp (disch := first | omega | (simp only [ints_length, List.length_replicate, List.length_set] <;> omega)) only [Sall,evalOp,init,binE,binI,unE,convE,okNil,builtE,gv,TD.isAgg,resV,↓reduceIte,Nat.reduceEqDiff,reduceCtorEq,Nat.reduceAdd,Nat.reduceMul,Nat.reduceLeDiff,quietOp,blindOp,Int.reduceEq,Int.reduceLT,Int.reduceLE,Nat.reduceLT,tiA, Bool.not_not, Bool.true_and]
      first | exact up | exact ⟨rfl, up⟩
    · have k : ¬ (R.length : Int) ≤ 20 := by omega
      rw [decide_eq_false h20]
      try simp (disch := first | omega | (simp only [ints_length, List.length_replicate, List.length_set] <;> omega)) only [Sall,evalOp,init,binE,binI,unE,convE,okNil,builtE,gv,TD.isAgg,resV,↓reduceIte,Nat.reduceEqDiff,reduceCtorEq,Nat.reduceAdd,Nat.reduceMul,Nat.reduceLeDiff,quietOp,blindOp,Int.reduceEq,Int.reduceLT,Int.reduceLE,Nat.reduceLT,tiA, e1, builtE, hv1.len, k, decide_false, Bool.false_and, Bool.and_false]
      exact up
  · rw [decide_eq_false hq]
    try simp (disch := first | omega | (simp only [ints_length, List.length_replicate, List.length_set] <;> omega)) only [Sall,evalOp,init,binE,binI,unE,convE,okNil,builtE,gv,TD.isAgg,resV,↓reduceIte,Nat.reduceEqDiff,reduceCtorEq,Nat.reduceAdd,Nat.reduceMul,Nat.reduceLeDiff,quietOp,blindOp,Int.reduceEq,Int.reduceLT,Int.reduceLE,Nat.reduceLT,tiA, Bool.false_and]
    exact up

theorem l06Is_c (q : Int) (v : Value) (R : List (List Int)) (H : AH) (hv : Rd2 1 H v R) (hl : R.length ≤ 4194304) (hl2 : ∀ r ∈ R, r.length ≤ 4194304) :
    ACalls Try.prog 118 [.agg #[.int .i64 q, v]] H (is (.bool (evB q R)) H) := by
  refine acalls_up rfl (ACalls.wf (by kernel_rfl) fun hs => acalls_of_awp [.tmp 2] Try.func118 (by kernel_rfl) rfl rfl (Nat.le_of_ble_eq_true rfl) (by kernel_rfl) ?_)
  have hone := hv.one
  have up : Up H.next H (H.push ⟨65, true, [.int .i64 q, v]⟩) := (Up.refl _ H).push (Nat.le_refl _) _
  have e1 : (H.push ⟨65, true, [.int .i64 q, v]⟩).row H.next = some ⟨65, true, [.int .i64 q, v]⟩ := by rw [AH.push_row, if_pos rfl]
  try simp (disch := first | omega | (simp only [ints_length, List.length_replicate, List.length_set] <;> omega)) only [Sall,evalOp,init,binE,binI,unE,convE,okNil,builtE,gv,TD.isAgg,resV,↓reduceIte,Nat.reduceEqDiff,reduceCtorEq,Nat.reduceAdd,Nat.reduceMul,Nat.reduceLeDiff,quietOp,blindOp,Int.reduceEq,Int.reduceLT,Int.reduceLE,Nat.reduceLT,tiA, hone]
  revert up e1
  generalize H.push ⟨65, true, [.int .i64 q, v]⟩ = H1
  intro up e1
  have hv1 := hv.same (up.le hs).row
  have hvl := hv1.len
  try simp (disch := first | omega | (simp only [ints_length, List.length_replicate, List.length_set] <;> omega)) only [Sall,evalOp,init,binE,binI,unE,convE,okNil,builtE,gv,TD.isAgg,resV,↓reduceIte,Nat.reduceEqDiff,reduceCtorEq,Nat.reduceAdd,Nat.reduceMul,Nat.reduceLeDiff,quietOp,blindOp,Int.reduceEq,Int.reduceLT,Int.reduceLE,Nat.reduceLT,tiA, e1]
  refine (l01In_c _ _ _ _).to ?_
  unfold evB
  by_cases hq : 4 ≤ q ∧ q ≤ 16
  · obtain ⟨n, rfl⟩ : ∃ n : Nat, q = n := ⟨q.toNat, by omega⟩
    rw [decide_eq_true hq, Int.toNat_natCast]
    by_cases h20 : R.length ≤ 20
    · have k : ¬ (20 : Int) < (R.length : Int) := by omega
      rw [decide_eq_true h20]
      try simp (disch := first | omega | (simp only [ints_length, List.length_replicate, List.length_set] <;> omega)) only [Sall,evalOp,init,binE,binI,unE,convE,okNil,builtE,gv,TD.isAgg,resV,↓reduceIte,Nat.reduceEqDiff,reduceCtorEq,Nat.reduceAdd,Nat.reduceMul,Nat.reduceLeDiff,quietOp,blindOp,Int.reduceEq,Int.reduceLT,Int.reduceLE,Nat.reduceLT,tiA, e1, builtE, hvl, k, decide_false, Bool.not_true]
      refine awp_loop (fun m t H' => ∃ a : Nat, m = R.length - a ∧ a ≤ R.length ∧ t 3 = .int .i64 a ∧ t 1 = .pointer (some ⟨H.next, 0, none⟩) ∧ H' = H1 ∧ (∀ i, i < a → evRow n (R.getD i []) = true)) R.length ?_ ?_
      · refine ⟨0, by omega, by omega, ?_⟩
        try simp (disch := first | omega | (simp only [ints_length, List.length_replicate, List.length_set] <;> omega)) only [Sall,evalOp,init,binE,binI,unE,convE,okNil,builtE,gv,TD.isAgg,resV,↓reduceIte,Nat.reduceEqDiff,reduceCtorEq,Nat.reduceAdd,Nat.reduceMul,Nat.reduceLeDiff,quietOp,blindOp,Int.reduceEq,Int.reduceLT,Int.reduceLE,Nat.reduceLT,tiA, Int.natCast_zero, Nat.not_lt_zero, false_implies]
      · rintro m t H' ⟨a, hm, ha, h3, h1, rfl, hall⟩
        try simp (disch := first | omega | (simp only [ints_length, List.length_replicate, List.length_set] <;> omega)) only [Sall,evalOp,init,binE,binI,unE,convE,okNil,builtE,gv,TD.isAgg,resV,↓reduceIte,Nat.reduceEqDiff,reduceCtorEq,Nat.reduceAdd,Nat.reduceMul,Nat.reduceLeDiff,quietOp,blindOp,Int.reduceEq,Int.reduceLT,Int.reduceLE,Nat.reduceLT,tiA, h3, h1, e1, builtE, hvl]
        refine condC_dec (fun h => ?_) (fun h => ?_)
        · obtain ⟨xi, xo, xuu, xc, xr, y, my, ex, hxr, hy, hsx, hok⟩ := hv1.get (j := a) (by omega)
          have hmm := hsx.lenK1
          subst hmm
          have hll := hl2 (R.getD a []) (by rw [List.getD_eq_getElem?_getD, List.getElem?_eq_getElem (by omega)]; exact List.getElem_mem _)
          refine draw_id (by kernel_rfl) (by kernel_rfl) ?_
          try simp (disch := first | omega | (simp only [ints_length, List.length_replicate, List.length_set] <;> omega)) only [Sall,evalOp,init,binE,binI,unE,convE,okNil,builtE,gv,TD.isAgg,resV,↓reduceIte,Nat.reduceEqDiff,reduceCtorEq,Nat.reduceAdd,Nat.reduceMul,Nat.reduceLeDiff,quietOp,blindOp,Int.reduceEq,Int.reduceLT,Int.reduceLE,Nat.reduceLT,tiA, h3, h1, e1, ex, hxr, hy, hok]
          (repeat refine And.intro (by omega) ?_)
          refine (l06Round_c n (by omega) y _ H' hsx (by omega)).to ?_
          refine ⟨.inr (.inr (LE.refl _)), ?_⟩
          cases hr : evRow n (R.getD a []) with
          | true =>
            try simp (disch := first | omega | (simp only [ints_length, List.length_replicate, List.length_set] <;> omega)) only [Sall,evalOp,init,binE,binI,unE,convE,okNil,builtE,gv,TD.isAgg,resV,↓reduceIte,Nat.reduceEqDiff,reduceCtorEq,Nat.reduceAdd,Nat.reduceMul,Nat.reduceLeDiff,quietOp,blindOp,Int.reduceEq,Int.reduceLT,Int.reduceLE,Nat.reduceLT,tiA, Bool.not_true, h3, h1, w64]
            refine ⟨R.length - (a + 1), by omega, a + 1, rfl, by omega, by omega, fun i hi => ?_⟩
            by_cases e : i = a
            · rw [e]; exact hr
            · exact hall i (by omega)
          | false =>
            try simp (disch := first | omega | (simp only [ints_length, List.length_replicate, List.length_set] <;> omega)) only [Sall,evalOp,init,binE,binI,unE,convE,okNil,builtE,gv,TD.isAgg,resV,↓reduceIte,Nat.reduceEqDiff,reduceCtorEq,Nat.reduceAdd,Nat.reduceMul,Nat.reduceLeDiff,quietOp,blindOp,Int.reduceEq,Int.reduceLT,Int.reduceLE,Nat.reduceLT,tiA, Bool.not_false]
            rw [all_false_of (i := a) (by omega) hr]
            exact ⟨rfl, up⟩
        · try simp (disch := first | omega | (simp only [ints_length, List.length_replicate, List.length_set] <;> omega)) only [Sall,evalOp,init,binE,binI,unE,convE,okNil,builtE,gv,TD.isAgg,resV,↓reduceIte,Nat.reduceEqDiff,reduceCtorEq,Nat.reduceAdd,Nat.reduceMul,Nat.reduceLeDiff,quietOp,blindOp,Int.reduceEq,Int.reduceLT,Int.reduceLE,Nat.reduceLT,tiA, true_and]
          have ha2 : a = R.length := by omega
          subst ha2
          rw [all_true_of hall]
          exact ⟨rfl, up⟩
    · have k : (20 : Int) < (R.length : Int) := by omega
      rw [decide_eq_false h20]
      try simp (disch := first | omega | (simp only [ints_length, List.length_replicate, List.length_set] <;> omega)) only [Sall,evalOp,init,binE,binI,unE,convE,okNil,builtE,gv,TD.isAgg,resV,↓reduceIte,Nat.reduceEqDiff,reduceCtorEq,Nat.reduceAdd,Nat.reduceMul,Nat.reduceLeDiff,quietOp,blindOp,Int.reduceEq,Int.reduceLT,Int.reduceLE,Nat.reduceLT,tiA, e1, builtE, hvl, k, decide_true, Bool.not_true, Bool.false_and, Bool.and_false]
      exact up
  · rw [decide_eq_false hq]
    try simp (disch := first | omega | (simp only [ints_length, List.length_replicate, List.length_set] <;> omega)) only [Sall,evalOp,init,binE,binI,unE,convE,okNil,builtE,gv,TD.isAgg,resV,↓reduceIte,Nat.reduceEqDiff,reduceCtorEq,Nat.reduceAdd,Nat.reduceMul,Nat.reduceLeDiff,quietOp,blindOp,Int.reduceEq,Int.reduceLT,Int.reduceLE,Nat.reduceLT,tiA, Bool.not_false, Bool.false_and]
    exact up

theorem eveningCode_c (q : Int) (v : Value) (R : List (List Int)) (b : Bool) (H : AH) (hv : Rd2 1 H v R) (hl : R.length ≤ 4194304) (hl2 : ∀ r ∈ R, r.length ≤ 4194304) :
    ACalls Try.prog 115 [.agg #[.int .i64 q, v], .bool b] H (is (.int .i64 (if evB q R = true then (if b = true then 0 else 2) else 1)) H) := by
  refine acalls_up rfl (ACalls.wf (by kernel_rfl) fun hs => acalls_of_awp [.tmp 4] Try.func115 (by kernel_rfl) rfl rfl (Nat.le_of_ble_eq_true rfl) (by kernel_rfl) ?_)
  have hone := hv.one
  have up : Up H.next H (H.push ⟨65, true, [.int .i64 q, v]⟩) := (Up.refl _ H).push (Nat.le_refl _) _
  try simp (disch := first | omega | (simp only [ints_length, List.length_replicate, List.length_set] <;> omega)) only [Sall,evalOp,init,binE,binI,unE,convE,okNil,builtE,gv,TD.isAgg,resV,↓reduceIte,Nat.reduceEqDiff,reduceCtorEq,Nat.reduceAdd,Nat.reduceMul,Nat.reduceLeDiff,quietOp,blindOp,Int.reduceEq,Int.reduceLT,Int.reduceLE,Nat.reduceLT,tiA, hone]
  refine (IsEvening_c q v R _ (hv.same (up.le hs).row) hl hl2).to ?_
  obtain hE | hE : evB q R = true ∨ evB q R = false := by cases evB q R <;> simp
  · rw [hE, if_pos rfl]
    obtain hb | hb : b = true ∨ b = false := by cases b <;> simp
    · rw [hb, if_pos rfl]
      try simp (disch := first | omega | (simp only [ints_length, List.length_replicate, List.length_set] <;> omega)) only [Sall,evalOp,init,binE,binI,unE,convE,okNil,builtE,gv,TD.isAgg,resV,↓reduceIte,Nat.reduceEqDiff,reduceCtorEq,Nat.reduceAdd,Nat.reduceMul,Nat.reduceLeDiff,quietOp,blindOp,Int.reduceEq,Int.reduceLT,Int.reduceLE,Nat.reduceLT,tiA, Bool.not_true]
      exact up
    · rw [hb, if_neg (by simp)]
      try simp (disch := first | omega | (simp only [ints_length, List.length_replicate, List.length_set] <;> omega)) only [Sall,evalOp,init,binE,binI,unE,convE,okNil,builtE,gv,TD.isAgg,resV,↓reduceIte,Nat.reduceEqDiff,reduceCtorEq,Nat.reduceAdd,Nat.reduceMul,Nat.reduceLeDiff,quietOp,blindOp,Int.reduceEq,Int.reduceLT,Int.reduceLE,Nat.reduceLT,tiA, Bool.not_true, Bool.not_false]
      exact up
  · rw [hE, if_neg (by simp)]
    try simp (disch := first | omega | (simp only [ints_length, List.length_replicate, List.length_set] <;> omega)) only [Sall,evalOp,init,binE,binI,unE,convE,okNil,builtE,gv,TD.isAgg,resV,↓reduceIte,Nat.reduceEqDiff,reduceCtorEq,Nat.reduceAdd,Nat.reduceMul,Nat.reduceLeDiff,quietOp,blindOp,Int.reduceEq,Int.reduceLT,Int.reduceLE,Nat.reduceLT,tiA, Bool.not_false]
    exact up
end Go.Proofs.Ytgkmdfjjlghecaa.A
end

section
set_option linter.unusedSimpArgs false
set_option linter.unusedVariables false
set_option maxRecDepth 100000
set_option maxHeartbeats 2000000
namespace Go.Proofs.Ytgkmdfjjlghecaa.A
open Go Go.Abs Go.RowKit

theorem opponents1_c (n : Nat) (hn : 1 ≤ n ∧ n ≤ 16) (u : Value) (R : List (List Int)) (H : AH) (hu : Rd2 1 H u R) (hR : EvOk n R) :
    ACalls Try.prog 117 [.agg #[.int .i64 n, u], .int .i64 1] H (fun r H' => Up H.next H H' ∧ Fr2 1 38 2 H.next H'.next H' r (tabM n w1L R)) := by
  have hone := hu.one
  have zz : zeros 4 [.int .i64 0, .int .i64 0] = [.int .i64 0, .int .i64 0, .int .i64 0, .int .i64 0, .int .i64 0, .int .i64 0, .int .i64 0, .int .i64 0] := rfl
  have sp0 : splice ([.int .i64 0, .int .i64 0, .int .i64 0, .int .i64 0, .int .i64 0, .int .i64 0, .int .i64 0, .int .i64 0] : List Value) 0 [.int .i64 0, .int .i64 2] = [.int .i64 0, .int .i64 2, .int .i64 0, .int .i64 0, .int .i64 0, .int .i64 0, .int .i64 0, .int .i64 0] := rfl
  have sp1 : splice ([.int .i64 0, .int .i64 2, .int .i64 0, .int .i64 0, .int .i64 0, .int .i64 0, .int .i64 0, .int .i64 0] : List Value) 2 [.int .i64 1, .int .i64 3] = [.int .i64 0, .int .i64 2, .int .i64 1, .int .i64 3, .int .i64 0, .int .i64 0, .int .i64 0, .int .i64 0] := rfl
  have sp2 : splice ([.int .i64 0, .int .i64 2, .int .i64 1, .int .i64 3, .int .i64 0, .int .i64 0, .int .i64 0, .int .i64 0] : List Value) 4 [.int .i64 0, .int .i64 3] = [.int .i64 0, .int .i64 2, .int .i64 1, .int .i64 3, .int .i64 0, .int .i64 3, .int .i64 0, .int .i64 0] := rfl
  have sp3 : splice ([.int .i64 0, .int .i64 2, .int .i64 1, .int .i64 3, .int .i64 0, .int .i64 3, .int .i64 0, .int .i64 0] : List Value) 6 [.int .i64 1, .int .i64 2] = [.int .i64 0, .int .i64 2, .int .i64 1, .int .i64 3, .int .i64 0, .int .i64 3, .int .i64 1, .int .i64 2] := rfl
  refine ACalls.wf (by kernel_rfl) fun hs => acalls_of_awp [.tmp 4] Try.func117 (by kernel_rfl) rfl rfl (Nat.le_of_ble_eq_true rfl) (by kernel_rfl) ?_
  have e1 : ((1 : Int) == 1) = true := rfl
  try simp (disch := first | omega | (simp only [ints_length, List.length_replicate, List.length_set] <;> omega)) only [Sall,evalOp,init,binE,binI,unE,convE,okNil,builtE,gv,TD.isAgg,resV,↓reduceIte,Nat.reduceEqDiff,reduceCtorEq,Nat.reduceAdd,Nat.reduceMul,Nat.reduceLeDiff,quietOp,blindOp,Int.reduceEq,Int.reduceLT,Int.reduceLE,Nat.reduceLT,tiA, hone, slCells, zz, sp0, sp1, sp2, sp3, e1, sliceE, Option.getD_none, Option.getD_some, Option.isSome_none, Option.isSome_some]
  obtain ⟨H2, e2⟩ : ∃ H2, H2 = (H.push ⟨65, true, [.int .i64 n, u]⟩).push ⟨165, true, [.int .i64 0, .int .i64 2, .int .i64 1, .int .i64 3, .int .i64 0, .int .i64 3, .int .i64 1, .int .i64 2]⟩ := ⟨_, rfl⟩
  have up2 : Up H.next H H2 := by rw [e2]; exact ((Up.refl _ H).push (Nat.le_refl _) _).push (by simp only [AH.push_next]; omega) _
  have r2 : H2.row (H.next + 1) = some ⟨165, true, [.int .i64 0, .int .i64 2, .int .i64 1, .int .i64 3, .int .i64 0, .int .i64 3, .int .i64 1, .int .i64 2]⟩ := by rw [e2, AH.push_row, AH.push_next, if_pos rfl]
  have n2 : H2.next = H.next + 2 := by rw [e2]; rfl
  rw [← e2]
  clear e2
  refine ⟨by decide, ?_⟩
  refine (together_c n hn u R (.slice (some ⟨H.next + 1, 0, some 2⟩) 2 2) w1L H2 (hu.same (up2.le hs).row) ⟨rfl, .inr ⟨H.next + 1, 0, _, _, _, rfl, r2, by decide, rfl⟩⟩ (by decide) (by decide) hR.1 hR.2).mono ?_
  rintro r H3 ⟨up3, f3⟩
  have n3 := up3.next
  have ho := f3.rd.one
  refine Holds.mp ?_
  try simp (disch := first | omega | (simp only [ints_length, List.length_replicate, List.length_set] <;> omega)) only [Sall,evalOp,init,binE,binI,unE,convE,okNil,builtE,gv,TD.isAgg,resV,↓reduceIte,Nat.reduceEqDiff,reduceCtorEq,Nat.reduceAdd,Nat.reduceMul,Nat.reduceLeDiff,quietOp,blindOp,Int.reduceEq,Int.reduceLT,Int.reduceLE,Nat.reduceLT,tiA, ho]
  exact ⟨up2.trans up3 (by omega), f3.wide (by omega) (Nat.le_refl _)⟩


theorem PartnersOf_c (q : Int) (v : Value) (R : List (List Int)) (H : AH) (hv : Rd2 1 H v R) (hl : R.length ≤ 4194304) (hl2 : ∀ r ∈ R, r.length ≤ 4194304) :
    ACalls Try.prog 43 [.agg #[.int .i64 q, v]] H (fun r H' => ∃ u, r = .tuple #[u, .int .i64 (evC q R)] ∧ Up H.next H H' ∧ Fr2 1 38 2 H.next H'.next H' u (poL q R)) := by
  refine ACalls.wf (by kernel_rfl) fun hs => acalls_of_awp [.tmp 2, .tmp 3] Try.func43 (by kernel_rfl) rfl rfl (Nat.le_of_ble_eq_true rfl) (by kernel_rfl) ?_
  have hone := hv.one
  have up : Up H.next H (H.push ⟨65, true, [.int .i64 q, v]⟩) := (Up.refl _ H).push (Nat.le_refl _) _
  have e1 : (H.push ⟨65, true, [.int .i64 q, v]⟩).row H.next = some ⟨65, true, [.int .i64 q, v]⟩ := by rw [AH.push_row, if_pos rfl]
  have n1 : (H.push ⟨65, true, [.int .i64 q, v]⟩).next = H.next + 1 := rfl
  try simp (disch := first | omega | (simp only [ints_length, List.length_replicate, List.length_set] <;> omega)) only [Sall,evalOp,init,binE,binI,unE,convE,okNil,builtE,gv,TD.isAgg,resV,↓reduceIte,Nat.reduceEqDiff,reduceCtorEq,Nat.reduceAdd,Nat.reduceMul,Nat.reduceLeDiff,quietOp,blindOp,Int.reduceEq,Int.reduceLT,Int.reduceLE,Nat.reduceLT,tiA, hone]
  revert up e1 n1
  generalize H.push ⟨65, true, [.int .i64 q, v]⟩ = H1
  intro up e1 n1
  have hv1 := hv.same (up.le hs).row
  try simp (disch := first | omega | (simp only [ints_length, List.length_replicate, List.length_set] <;> omega)) only [Sall,evalOp,init,binE,binI,unE,convE,okNil,builtE,gv,TD.isAgg,resV,↓reduceIte,Nat.reduceEqDiff,reduceCtorEq,Nat.reduceAdd,Nat.reduceMul,Nat.reduceLeDiff,quietOp,blindOp,Int.reduceEq,Int.reduceLT,Int.reduceLE,Nat.reduceLT,tiA, e1]
  refine (eveningCode_c q v R true H1 hv1 hl hl2).to ?_
  unfold evC poL
  obtain hE | hE : evB q R = true ∨ evB q R = false := by cases evB q R <;> simp
  · rw [hE]
    have hE2 := hE
    obtain ⟨n, rfl, h4, h16, h20, hall⟩ := evB_at hE2
    have hEv : EvOk n R := ⟨h20, fun i hi => ⟨(hall i hi).2.1, (hall i hi).2.2.1⟩⟩
    have hR4 : ∀ i, i < R.length → (R.getD i []).length % 4 = 0 := fun i hi => (hall i hi).1
    rw [Int.toNat_natCast]
    try simp (disch := first | omega | (simp only [ints_length, List.length_replicate, List.length_set] <;> omega)) only [Sall,evalOp,init,binE,binI,unE,convE,okNil,builtE,gv,TD.isAgg,resV,↓reduceIte,Nat.reduceEqDiff,reduceCtorEq,Nat.reduceAdd,Nat.reduceMul,Nat.reduceLeDiff,quietOp,blindOp,Int.reduceEq,Int.reduceLT,Int.reduceLE,Nat.reduceLT,tiA, if_true, e1, bne_self_eq_false]
    refine (partners_c n (by omega) v R H1 hv1 hEv).mono ?_
    rintro u H2 ⟨up2, f2⟩
    have ho := f2.rd.one
    have n2 := up2.next
    refine Holds.mp ?_
    try simp (disch := first | omega | (simp only [ints_length, List.length_replicate, List.length_set] <;> omega)) only [Sall,evalOp,init,binE,binI,unE,convE,okNil,builtE,gv,TD.isAgg,resV,↓reduceIte,Nat.reduceEqDiff,reduceCtorEq,Nat.reduceAdd,Nat.reduceMul,Nat.reduceLeDiff,quietOp,blindOp,Int.reduceEq,Int.reduceLT,Int.reduceLE,Nat.reduceLT,tiA, ho]
    exact ⟨u, rfl, up.trans up2 (by omega), f2.wide (by omega) (Nat.le_refl _)⟩
  · rw [hE]
    have e2 : ((1 : Int) != 0) = true := rfl
    try simp (disch := first | omega | (simp only [ints_length, List.length_replicate, List.length_set] <;> omega)) only [Sall,evalOp,init,binE,binI,unE,convE,okNil,builtE,gv,TD.isAgg,resV,↓reduceIte,Nat.reduceEqDiff,reduceCtorEq,Nat.reduceAdd,Nat.reduceMul,Nat.reduceLeDiff,quietOp,blindOp,Int.reduceEq,Int.reduceLT,Int.reduceLE,Nat.reduceLT,tiA, e2]
    exact ⟨_, rfl, up, .inl ⟨rfl, rfl⟩⟩

theorem specPartnersOf_c (q : Int) (v : Value) (R : List (List Int)) (H : AH) (hv : Rd2 1 H v R) (hl : R.length ≤ 4194304) (hl2 : ∀ r ∈ R, r.length ≤ 4194304) :
    ACalls Try.prog 44 [.agg #[.int .i64 q, v]] H (fun r H' => ∃ u, r = .tuple #[u, .int .i64 (evC q R)] ∧ Up H.next H H' ∧ Fr2 1 38 2 H.next H'.next H' u (poL q R)) := by
  refine ACalls.wf (by kernel_rfl) fun hs => acalls_of_awp [.tmp 2, .tmp 3] Try.func44 (by kernel_rfl) rfl rfl (Nat.le_of_ble_eq_true rfl) (by kernel_rfl) ?_
  have hone := hv.one
  have up : Up H.next H (H.push ⟨65, true, [.int .i64 q, v]⟩) := (Up.refl _ H).push (Nat.le_refl _) _
  have e1 : (H.push ⟨65, true, [.int .i64 q, v]⟩).row H.next = some ⟨65, true, [.int .i64 q, v]⟩ := by rw [AH.push_row, if_pos rfl]
  have n1 : (H.push ⟨65, true, [.int .i64 q, v]⟩).next = H.next + 1 := rfl
  try simp (disch := first | omega | (simp only [ints_length, List.length_replicate, List.length_set] <;> omega)) only [Sall,evalOp,init,binE,binI,unE,convE,okNil,builtE,gv,TD.isAgg,resV,↓reduceIte,Nat.reduceEqDiff,reduceCtorEq,Nat.reduceAdd,Nat.reduceMul,Nat.reduceLeDiff,quietOp,blindOp,Int.reduceEq,Int.reduceLT,Int.reduceLE,Nat.reduceLT,tiA, hone]
  revert up e1 n1
  generalize H.push ⟨65, true, [.int .i64 q, v]⟩ = H1
  intro up e1 n1
  have hv1 := hv.same (up.le hs).row
  try simp (disch := first | omega | (simp only [ints_length, List.length_replicate, List.length_set] <;> omega)) only [Sall,evalOp,init,binE,binI,unE,convE,okNil,builtE,gv,TD.isAgg,resV,↓reduceIte,Nat.reduceEqDiff,reduceCtorEq,Nat.reduceAdd,Nat.reduceMul,Nat.reduceLeDiff,quietOp,blindOp,Int.reduceEq,Int.reduceLT,Int.reduceLE,Nat.reduceLT,tiA, e1]
  refine (l06Is_c q v R H1 hv1 hl hl2).to ?_
  unfold evC poL
  obtain hE | hE : evB q R = true ∨ evB q R = false := by cases evB q R <;> simp
  · rw [hE]
    have hE2 := hE
    obtain ⟨n, rfl, h4, h16, h20, hall⟩ := evB_at hE2
    have hEv : EvOk n R := ⟨h20, fun i hi => ⟨(hall i hi).2.1, (hall i hi).2.2.1⟩⟩
    have hR4 : ∀ i, i < R.length → (R.getD i []).length % 4 = 0 := fun i hi => (hall i hi).1
    rw [Int.toNat_natCast]
    have z1 : zeros 1 [.int .i64 0] = [.int .i64 0] := rfl
    try simp (disch := first | omega | (simp only [ints_length, List.length_replicate, List.length_set] <;> omega)) only [Sall,evalOp,init,binE,binI,unE,convE,okNil,builtE,gv,TD.isAgg,resV,↓reduceIte,Nat.reduceEqDiff,reduceCtorEq,Nat.reduceAdd,Nat.reduceMul,Nat.reduceLeDiff,quietOp,blindOp,Int.reduceEq,Int.reduceLT,Int.reduceLE,Nat.reduceLT,tiA, Bool.not_true, e1, z1, slCells]
    obtain ⟨H3, e3⟩ : ∃ H3, H3 = H1.push ⟨3, true, [.int .i64 1]⟩ := ⟨_, rfl⟩
    have up3 : Up H1.next H1 H3 := by rw [e3]; exact (Up.refl _ _).push (Nat.le_refl _) _
    have r3 : H3.row H1.next = some ⟨3, true, [.int .i64 1]⟩ := by rw [e3, AH.push_row, if_pos rfl]
    have n3 : H3.next = H1.next + 1 := by rw [e3]; rfl
    rw [← e3]
    clear e3
    have U3 : Up H.next H H3 := up.trans up3 (by omega)
    refine (l06Table_c n (by omega) v R (.slice (some ⟨H1.next, 0, some 1⟩) 1 1) [1] wP way1 H3 (hv.same (U3.le hs).row) ⟨rfl, .inr ⟨H1.next, 0, _, _, _, rfl, r3, Nat.le_refl _, rfl⟩⟩ (by decide) (by decide) hEv hR4).mono ?_
    rintro u H4 ⟨up4, f4⟩
    have ho := f4.rd.one
    have n4 := up4.next
    refine Holds.mp ?_
    try simp (disch := first | omega | (simp only [ints_length, List.length_replicate, List.length_set] <;> omega)) only [Sall,evalOp,init,binE,binI,unE,convE,okNil,builtE,gv,TD.isAgg,resV,↓reduceIte,Nat.reduceEqDiff,reduceCtorEq,Nat.reduceAdd,Nat.reduceMul,Nat.reduceLeDiff,quietOp,blindOp,Int.reduceEq,Int.reduceLT,Int.reduceLE,Nat.reduceLT,tiA, ho]
    exact ⟨u, rfl, U3.trans up4 (by omega), f4.wide (by omega) (Nat.le_refl _)⟩
  · rw [hE]
    try simp (disch := first | omega | (simp only [ints_length, List.length_replicate, List.length_set] <;> omega)) only [Sall,evalOp,init,binE,binI,unE,convE,okNil,builtE,gv,TD.isAgg,resV,↓reduceIte,Nat.reduceEqDiff,reduceCtorEq,Nat.reduceAdd,Nat.reduceMul,Nat.reduceLeDiff,quietOp,blindOp,Int.reduceEq,Int.reduceLT,Int.reduceLE,Nat.reduceLT,tiA, Bool.not_false]
    exact ⟨_, rfl, up, .inl ⟨rfl, rfl⟩⟩

end Go.Proofs.Ytgkmdfjjlghecaa.A
end

section
set_option linter.unusedSimpArgs false
set_option linter.unusedVariables false
namespace Go.Abs
open Go Go.RowKit

theorem Sc.drop {H : AH} (h : Sc H) (i : Nat) : Sc (H.drop i) := by
  intro j x hx
  rw [AH.drop_row] at hx
  rw [AH.drop_next]
  split at hx
  · cases hx
  · exact h j x hx

end Go.Abs
end

section
set_option linter.unusedSimpArgs false
set_option linter.unusedVariables false
namespace Go.Abs
open Go Go.RowKit

def Sld (k : Nat) (v : Value) (n : Nat) : Prop := v = .slice none 0 0 ∨ (∃ i o c, v = .slice (some ⟨i, o, some k⟩) n c) ∨ ∃ i o c, v = .slice (some ⟨i, o, none⟩) n c ∧ n ≤ c

structure Rs (k : Nat) (H : AH) (v : Value) (n : Nat) (l : List Int) : Prop where
  rd : Rd k H v n l
  sl : Sld k v n

theorem Rs.same {k n : Nat} {H H' : AH} {v : Value} {l : List Int} (h : Rs k H v n l) (hs : ∀ i r, H.row i = some r → H'.row i = some r) : Rs k H' v n l := ⟨h.rd.same hs, h.sl⟩
theorem Fr.rs {k ty lo hi n : Nat} {H : AH} {v : Value} {l : List Int} (h : Fr k ty lo hi H v n l) : Rs k H v n l := by
  refine ⟨h.rd, ?_⟩
  rcases h.2 with ⟨_, h2⟩ | ⟨i, _, _, hv, _⟩
  · exact .inl h2
  · exact .inr (.inl ⟨i, 0, n, hv⟩)

theorem Rs.cut {k n a b : Nat} {H : AH} {v : Value} {l : List Int} (h : Rs k H v n l) {lo hi : Option Int} (ha : lo.getD 0 = (a : Int)) (hb : hi.getD (n : Int) = (b : Int)) (hab : a ≤ b) (hbn : b ≤ n) :
    ∃ w, (∀ (P : Program) (E : TI) (K : Value → AH → Prop) (H' : AH), E.size = k → K w H' → runOut P H' (sliceE E v lo hi none H') K) ∧ Rs k H w (b - a) ((l.drop (a * k)).take ((b - a) * k)) := by
  obtain ⟨hl, hr⟩ := h.rd
  have hlen : ((l.drop (a * k)).take ((b - a) * k)).length = (b - a) * k := by
    rw [List.length_take, List.length_drop, hl, ← Nat.sub_mul]
    exact Nat.min_eq_left (Nat.mul_le_mul_right k (by omega))
  have hmul : a * k + (b - a) * k ≤ n * k := by rw [← Nat.add_mul]; exact Nat.mul_le_mul_right k (by omega)
  have key : ∀ (i o : Nat) (u : Option Nat) (c o' c' : Nat) (r : Row), (b - a = 0 ∨ o' = o + a * k) → H.row i = some r → o + n * k ≤ r.cells.length → seg r.cells o (n * k) = ints l →
      Rd k H (.slice (some ⟨i, o', u⟩) (b - a) c') (b - a) ((l.drop (a * k)).take ((b - a) * k)) := by
    intro i o u c o' c' r ho hrow hle hseg
    refine ⟨hlen, ?_⟩
    rcases Nat.eq_zero_or_pos (b - a) with h0 | h0
    · refine .inl ⟨h0, _, _, by rw [h0], fun h => by cases h⟩
    · obtain rfl : o' = o + a * k := by rcases ho with ho | ho <;> omega
      refine .inr ⟨i, _, u, c', r, rfl, hrow, by omega, ?_⟩
      rw [← ints_seg, ← hseg]
      apply List.ext_getElem?
      intro x
      simp only [seg, List.getElem?_take, List.getElem?_drop]
      by_cases hx : x < (b - a) * k
      · rw [if_pos hx, if_pos hx, if_pos (by omega), Nat.add_assoc]
      · rw [if_neg hx, if_neg hx]
  rcases h.sl with rfl | ⟨i, o, c, rfl⟩ | ⟨i, o, c, rfl, hc⟩
  · have hn : n = 0 := by
      rcases hr with ⟨h0, _⟩ | ⟨_, _, _, _, _, hv, _⟩
      · exact h0
      · cases hv
    subst hn
    obtain rfl : b = 0 := by omega
    obtain rfl : a = 0 := by omega
    refine ⟨.slice none 0 0, fun P E K H' hE hK => ?_, ⟨⟨hlen, .inl ⟨rfl, none, 0, rfl, fun _ => rfl⟩⟩, .inl rfl⟩⟩
    unfold sliceE
    rw [if_neg (by simp)]
    simp only [asSl_nil, runOut_need, runOut_val]
    refine ⟨⟨ha, ?_, rfl⟩, hK⟩
    cases hi with
    | none => rfl
    | some x => simpa using hb
  · refine ⟨.slice (some ⟨i, o + a * k, some k⟩) (b - a) (b - a), fun P E K H' hE hK => ?_, ⟨?_, .inr (.inl ⟨i, _, _, rfl⟩)⟩⟩
    · unfold sliceE
      rw [if_neg (by simp)]
      simp only [asSl_some, runOut_need, runOut_val, ha, hb, Int.toNat_natCast, hE]
      exact ⟨⟨by omega, by omega, by omega, trivial⟩, hK⟩
    · rcases hr with ⟨h0, a', c', hv, _⟩ | ⟨i', o', u', c', r, hv, hrow, hle, hseg⟩
      · obtain rfl : b = 0 := by omega
        obtain rfl : a = 0 := by omega
        exact ⟨hlen, .inl ⟨rfl, _, _, rfl, fun h => by cases h⟩⟩
      · simp only [Value.slice.injEq, Option.some.injEq, Addr.mk.injEq] at hv
        obtain ⟨⟨rfl, rfl, rfl⟩, _, rfl⟩ := hv
        exact key i o (some k) c _ _ r (.inr rfl) hrow hle hseg
  · refine ⟨.slice (some ⟨i, if (c : Int) = (a : Int) then o else o + a * k, none⟩) (b - a) (c - a), fun P E K H' hE hK => ?_, ⟨?_, .inr (.inr ⟨i, _, _, rfl, by omega⟩)⟩⟩
    · unfold sliceE
      rw [if_neg (by simp)]
      have e0 : ((none : Option Int).getD (c : Int)) = (c : Int) := rfl
      simp only [asSl_some, runOut_need, runOut_val, ha, hb, e0, Int.toNat_natCast, hE]
      exact ⟨⟨by omega, by omega, by omega, Int.le_refl _⟩, hK⟩
    · rcases hr with ⟨h0, a', c', hv, _⟩ | ⟨i', o', u', c', r, hv, hrow, hle, hseg⟩
      · obtain rfl : b = 0 := by omega
        obtain rfl : a = 0 := by omega
        exact ⟨hlen, .inl ⟨rfl, _, _, rfl, fun h => by cases h⟩⟩
      · simp only [Value.slice.injEq, Option.some.injEq, Addr.mk.injEq] at hv
        obtain ⟨⟨rfl, rfl, rfl⟩, _, rfl⟩ := hv
        refine key i o none c _ _ r ?_ hrow hle hseg
        split
        · left; omega
        · right; rfl
end Go.Abs
end

section
set_option linter.unusedSimpArgs false
set_option linter.unusedVariables false
namespace Go.Abs
open Go Go.RowKit

structure Th where
  p : AH → (Nat → Prop) → Prop
  loc : ∀ (H H' : AH) (S S' : Nat → Prop), (∀ i, S i → S' i) → (∀ i r, S i → H.row i = some r → H'.row i = some r) → p H S → p H' S'

def Th.sl (k : Nat) (ty : TypeId) (v : Value) (n : Nat) (vs : List Value) : Th where
  p := fun H S => vs.length = n * k ∧ ((n = 0 ∧ v = .slice none 0 0) ∨ ∃ i, S i ∧ v = .slice (some ⟨i, 0, some k⟩) n n ∧ H.row i = some ⟨ty, true, vs⟩)
  loc := fun H H' S S' hS hr h => ⟨h.1, h.2.imp id fun ⟨i, h1, h2, h3⟩ => ⟨i, hS i h1, h2, hr i _ h1 h3⟩⟩
def Th.row (i : Nat) (r : Row) : Th where
  p := fun H S => S i ∧ H.row i = some r
  loc := fun H H' S S' hS hr h => ⟨hS i h.1, hr i r h.1 h.2⟩
def Th.no : Th where
  p := fun _ _ => True
  loc := fun _ _ _ _ _ _ _ => trivial
def Th.sl2 {α : Type} (f : α → Value) (ty ty' : TypeId) (v : Value) (ll : List (List α)) : Th where
  p := fun H S => (ll = [] ∧ v = .slice none 0 0) ∨ ∃ (i : Nat) (vs : List Value) (o : Nat → Nat), S i ∧ o i = 0 ∧ v = .slice (some ⟨i, 0, some 1⟩) ll.length ll.length ∧ H.row i = some ⟨ty, true, vs⟩ ∧ vs.length = ll.length ∧
    ∀ j, j < ll.length → ∃ x, vs[j]? = some x ∧ (Th.sl 1 ty' x (ll.getD j []).length ((ll.getD j []).map f)).p H (fun z => S z ∧ o z = j + 1)
  loc := fun H H' S S' hS hr h => h.imp id fun ⟨i, vs, o, h1, h2, h3, h4, h5, h6⟩ => ⟨i, vs, o, hS i h1, h2, h3, hr i _ h1 h4, h5, fun j hj => by
    obtain ⟨x, hx, hp⟩ := h6 j hj
    exact ⟨x, hx, (Th.sl 1 ty' x _ _).loc H H' _ _ (fun z hz => ⟨hS z hz.1, hz.2⟩) (fun z r hz => hr z r hz.1) hp⟩⟩

structure Ow (B H : AH) (L : List Th) : Prop where
  sc : Sc H
  next : B.next ≤ H.next
  low : ∀ i, i < B.next → H.row i = B.row i
  own : ∃ o : Nat → Nat, ∀ (k : Nat) (p : Th), L[k]? = some p → p.p H (fun i => B.next ≤ i ∧ i < H.next ∧ o i = k)

theorem Ow.refl {H : AH} (h : Sc H) : Ow H H [] := ⟨h, Nat.le_refl _, fun _ _ => rfl, fun _ => 0, fun k p hk => by simp at hk⟩
theorem Ow.up {B H : AH} {L : List Th} (h : Ow B H L) : Up B.next B H := ⟨h.next, h.low⟩
theorem Ow.old {B H : AH} {L : List Th} (h : Ow B H L) (hs : ∀ i r, B.row i = some r → i < B.next) : ∀ i r, B.row i = some r → H.row i = some r := fun i r hr => by rw [h.low i (hs i r hr)]; exact hr

theorem set_get {L : List Th} {k j : Nat} {p p' q : Th} (hk : L[k]? = some p) (h : (L.set k p')[j]? = some q) : (j = k ∧ q = p') ∨ (j ≠ k ∧ L[j]? = some q) := by
  rw [List.getElem?_set] at h
  by_cases e : k = j
  · subst e
    rw [if_pos rfl, if_pos (List.getElem?_eq_some_iff.1 hk).1] at h
    exact .inl ⟨rfl, (Option.some.inj h).symm⟩
  · rw [if_neg e] at h
    exact .inr ⟨fun h => e h.symm, h⟩

def ownF (N : Nat) (a b : Nat → Nat) (i : Nat) : Nat := if N ≤ i then a i else b i
theorem ownF_ge {N i : Nat} (a b : Nat → Nat) (h : N ≤ i) : ownF N a b i = a i := by unfold ownF; rw [if_pos h]
theorem ownF_lt {N i : Nat} (a b : Nat → Nat) (h : i < N) : ownF N a b i = b i := by unfold ownF; rw [if_neg (by omega)]

theorem Ow.upd {B H H' : AH} {L : List Th} (h : Ow B H L) {k : Nat} {p p' : Th} (hk : L[k]? = some p) (hn : H.next ≤ H'.next) (hs : Sc H')
    (hp : ∀ S, (∀ i, S i → B.next ≤ i ∧ i < H.next) → p.p H S → (∀ i, i < H.next → ¬ S i → H'.row i = H.row i) ∧ ∀ S' : Nat → Prop, (∀ i, S i → S' i) → (∀ i, H.next ≤ i → i < H'.next → S' i) → p'.p H' S') :
    Ow B H' (L.set k p') := by
  obtain ⟨o, ho⟩ := h.own
  obtain ⟨h1, h2⟩ := hp _ (fun i hi => ⟨hi.1, hi.2.1⟩) (ho k p hk)
  have hb := h.next
  refine ⟨hs, Nat.le_trans hb hn, fun i hi => by rw [h1 i (by omega) (fun hh => by omega), h.low i hi], ownF H.next (fun _ => k) o, fun j q hj => ?_⟩
  rcases set_get hk hj with ⟨rfl, rfl⟩ | ⟨hne, hq⟩
  · refine h2 _ (fun i hi => ⟨hi.1, by omega, ?_⟩) fun i i1 i2 => ⟨by omega, i2, ?_⟩
    · rw [ownF_lt _ _ hi.2.1]; exact hi.2.2
    · rw [ownF_ge _ _ i1]
  · refine q.loc H H' _ _ (fun i hi => ⟨hi.1, by omega, ?_⟩) (fun i r hi hr => ?_) (ho j q hq)
    · rw [ownF_lt _ _ hi.2.1]; exact hi.2.2
    · rw [h1 i (by omega) (fun hh => hne (hi.2.2.symm.trans hh.2.2)), hr]

theorem Ow.add {B H H' : AH} {L : List Th} (h : Ow B H L) (p' : Th) (hn : H.next ≤ H'.next) (hs : Sc H') (hr : ∀ i, i < H.next → H'.row i = H.row i)
    (hp : ∀ S : Nat → Prop, (∀ i, H.next ≤ i → i < H'.next → S i) → p'.p H' S) : Ow B H' (L ++ [p']) := by
  obtain ⟨o, ho⟩ := h.own
  have hb := h.next
  refine ⟨hs, Nat.le_trans hb hn, fun i hi => by rw [hr i (by omega), h.low i hi], ownF H.next (fun _ => L.length) o, fun j q hj => ?_⟩
  by_cases hjl : j < L.length
  · rw [List.getElem?_append_left hjl] at hj
    refine q.loc H H' _ _ (fun i hi => ⟨hi.1, by omega, ?_⟩) (fun i r hi hrr => by rw [hr i hi.2.1, hrr]) (ho j q hj)
    rw [ownF_lt _ _ hi.2.1]; exact hi.2.2
  · rw [List.getElem?_append_right (by omega)] at hj
    have hj0 : j = L.length := by
      have := (List.getElem?_eq_some_iff.1 hj).1
      simp at this; omega
    subst hj0
    simp at hj
    subst hj
    refine hp _ fun i i1 i2 => ⟨by omega, i2, ?_⟩
    rw [ownF_ge _ _ i1]

theorem Ow.call {B H H' : AH} {L M : List Th} (h : Ow B H L) (k : Ow H H' M) : Ow B H' (L ++ M) := by
  obtain ⟨o, ho⟩ := h.own
  obtain ⟨u, hu⟩ := k.own
  have hb := h.next
  have hn := k.next
  refine ⟨k.sc, Nat.le_trans hb hn, fun i hi => by rw [k.low i (by omega), h.low i hi], ownF H.next (fun i => L.length + u i) o, fun j q hj => ?_⟩
  by_cases hjl : j < L.length
  · rw [List.getElem?_append_left hjl] at hj
    refine q.loc H H' _ _ (fun i hi => ⟨hi.1, by omega, ?_⟩) (fun i r hi hrr => by rw [k.low i hi.2.1, hrr]) (ho j q hj)
    rw [ownF_lt _ _ hi.2.1]; exact hi.2.2
  · rw [List.getElem?_append_right (by omega)] at hj
    refine q.loc H' H' _ _ (fun i hi => ⟨by omega, hi.2.1, ?_⟩) (fun i r _ hr => hr) (hu _ q hj)
    rw [ownF_ge _ _ hi.1, hi.2.2]; omega

theorem Ow.keep {B H H' : AH} {L : List Th} (h : Ow B H L) (hn : H.next ≤ H'.next) (hs : Sc H') (hr : ∀ i, i < H.next → H'.row i = H.row i) : Ow B H' L := by
  obtain ⟨o, ho⟩ := h.own
  have hb := h.next
  exact ⟨hs, Nat.le_trans hb hn, fun i hi => by rw [hr i (by omega), h.low i hi], o, fun j q hj => q.loc H H' _ _ (fun i hi => ⟨hi.1, by omega, hi.2.2⟩) (fun i r hi hrr => by rw [hr i hi.2.1, hrr]) (ho j q hj)⟩

theorem Ow.sub {B H : AH} {L M : List Th} (h : Ow B H L) (f : Nat → Nat) (hf : ∀ j, j < M.length → L[f j]? = M[j]?) (hi : ∀ i j, i < M.length → j < M.length → f i = f j → i = j) : Ow B H M := by
  obtain ⟨o, ho⟩ := h.own
  classical
  refine ⟨h.sc, h.next, h.low, fun i => if hh : ∃ j, j < M.length ∧ f j = o i then Classical.choose hh else M.length, fun j q hj => ?_⟩
  have hjl := (List.getElem?_eq_some_iff.1 hj).1
  refine q.loc H H _ _ (fun i hh => ⟨hh.1, hh.2.1, ?_⟩) (fun i r _ hr => hr) (ho (f j) q (by rw [hf j hjl]; exact hj))
  have hex : ∃ z, z < M.length ∧ f z = o i := ⟨j, hjl, hh.2.2.symm⟩
  show (if hh : ∃ j, j < M.length ∧ f j = o i then Classical.choose hh else M.length) = j
  rw [dif_pos hex]
  obtain ⟨c1, c2⟩ := Classical.choose_spec hex
  exact hi _ _ c1 hjl (by rw [c2, ← hh.2.2])
theorem Ow.left {B H : AH} {L M : List Th} (h : Ow B H (L ++ M)) : Ow B H L :=
  h.sub (fun j => j) (fun j hj => by rw [List.getElem?_append_left hj]) fun _ _ _ _ h => h
/-! ### Reading -/
theorem Ow.at {B H : AH} {L : List Th} (h : Ow B H L) {k : Nat} {p : Th} (hk : L[k]? = some p) : ∃ S, (∀ i, S i → B.next ≤ i ∧ i < H.next) ∧ p.p H S := by
  obtain ⟨o, ho⟩ := h.own
  exact ⟨_, fun i hi => ⟨hi.1, hi.2.1⟩, ho k p hk⟩
theorem Ow.ne {B H : AH} {L : List Th} (h : Ow B H L) {j k a b : Nat} {p q : Th} (hj : L[j]? = some p) (hk : L[k]? = some q) (hjk : j ≠ k) (ha : ∀ S, p.p H S → S a) (hb : ∀ S, q.p H S → S b) : a ≠ b := by
  obtain ⟨o, ho⟩ := h.own
  have h1 := (ha _ (ho j p hj)).2.2
  have h2 := (hb _ (ho k q hk)).2.2
  intro e
  subst e
  omega
theorem Ow.len {B H : AH} {L : List Th} (h : Ow B H L) (k : Nat) {z n : Nat} {ty : TypeId} {v : Value} {vs : List Value} (hk : L[k]? = some (.sl z ty v n vs)) : vs.length = n * z := by
  obtain ⟨S, _, hp⟩ := h.at hk
  exact hp.1
theorem Ow.get {B H : AH} {L : List Th} (h : Ow B H L) (k : Nat) {z n : Nat} {ty : TypeId} {v : Value} {vs : List Value} (hk : L[k]? = some (.sl z ty v n vs)) (hn : 0 < n) :
    ∃ i, B.next ≤ i ∧ i < H.next ∧ v = .slice (some ⟨i, 0, some z⟩) n n ∧ H.row i = some ⟨ty, true, vs⟩ := by
  obtain ⟨S, hS, hp⟩ := h.at hk
  rcases hp.2 with ⟨h0, _⟩ | ⟨i, h1, h2, h3⟩
  · omega
  · exact ⟨i, (hS i h1).1, (hS i h1).2, h2, h3⟩
theorem Ow.getV {B H : AH} {L : List Th} (h : Ow B H L) (k : Nat) {z n i m c o : Nat} {u : Option Nat} {ty : TypeId} {vs : List Value} (hk : L[k]? = some (.sl z ty (.slice (some ⟨i, o, u⟩) m c) n vs)) :
    B.next ≤ i ∧ i < H.next ∧ H.row i = some ⟨ty, true, vs⟩ := by
  obtain ⟨S, hS, hp⟩ := h.at hk
  rcases hp.2 with ⟨h0, h1⟩ | ⟨i', h1, h2, h3⟩
  · cases h1
  · cases h2
    exact ⟨(hS i h1).1, (hS i h1).2, h3⟩
theorem Ow.rowAt {B H : AH} {L : List Th} (h : Ow B H L) (k : Nat) {i : Nat} {r : Row} (hk : L[k]? = some (.row i r)) : H.row i = some r ∧ B.next ≤ i ∧ i < H.next := by
  obtain ⟨S, hS, hp⟩ := h.at hk
  exact ⟨hp.2, hS i hp.1⟩
theorem Ow.one {B H : AH} {L : List Th} (h : Ow B H L) (k : Nat) {z n : Nat} {ty : TypeId} {v : Value} {vs : List Value} (hk : L[k]? = some (.sl z ty v n vs)) : v.oneCell' = true := by
  obtain ⟨S, _, hp⟩ := h.at hk
  rcases hp.2 with ⟨_, rfl⟩ | ⟨i, _, rfl, _⟩ <;> rfl
theorem Ow.fr {B H : AH} {L : List Th} (h : Ow B H L) (k : Nat) {z n : Nat} {ty : TypeId} {v : Value} {l : List Int} (hk : L[k]? = some (.sl z ty v n (ints l))) : Fr z ty B.next H.next H v n l := by
  obtain ⟨S, hS, hp⟩ := h.at hk
  refine ⟨by have := hp.1; rwa [ints_length] at this, hp.2.imp id fun ⟨i, h1, h2, h3⟩ => ⟨i, (hS i h1).1, (hS i h1).2, h2, h3⟩⟩
theorem Ow.rd {B H : AH} {L : List Th} (h : Ow B H L) (k : Nat) {z n : Nat} {ty : TypeId} {v : Value} {l : List Int} (hk : L[k]? = some (.sl z ty v n (ints l))) : Rd z H v n l := (h.fr k hk).rd
theorem sl_mem {z n i m c o : Nat} {u : Option Nat} {ty : TypeId} {vs : List Value} {H : AH} (S : Nat → Prop) (h : (Th.sl z ty (.slice (some ⟨i, o, u⟩) m c) n vs).p H S) : S i := by
  rcases h.2 with ⟨h0, h1⟩ | ⟨i', h1, h2, h3⟩
  · cases h1
  · cases h2; exact h1

/-! ### New things, writing -/
theorem Ow.push {B H : AH} {L : List Th} (h : Ow B H L) (r : Row) : Ow B (H.push r) (L ++ [.row H.next r]) :=
  h.add _ (Nat.le_succ _) (h.sc.push r) (fun i hi => by rw [AH.push_row, if_neg (by omega)]) fun S hS => ⟨hS _ (Nat.le_refl _) (Nat.lt_succ_self _), by rw [AH.push_row, if_pos rfl]⟩
theorem Ow.tmp {B H : AH} {L : List Th} (h : Ow B H L) (r : Row) : Ow B (H.push r) L :=
  h.keep (Nat.le_succ _) (h.sc.push r) fun i hi => by rw [AH.push_row, if_neg (by omega)]
theorem Ow.pushSl {B H : AH} {L : List Th} (h : Ow B H L) {k n : Nat} {ty : TypeId} {vs : List Value} (hl : vs.length = n * k) : Ow B (H.push ⟨ty, true, vs⟩) (L ++ [.sl k ty (.slice (some ⟨H.next, 0, some k⟩) n n) n vs]) :=
  h.add _ (Nat.le_succ _) (h.sc.push _) (fun i hi => by rw [AH.push_row, if_neg (by omega)]) fun S hS => ⟨hl, .inr ⟨H.next, hS _ (Nat.le_refl _) (Nat.lt_succ_self _), rfl, by rw [AH.push_row, if_pos rfl]⟩⟩
theorem Ow.put {B H : AH} {L : List Th} (h : Ow B H L) (k : Nat) {z n i m c o : Nat} {u : Option Nat} {ty : TypeId} {vs vs' : List Value} (hk : L[k]? = some (.sl z ty (.slice (some ⟨i, o, u⟩) m c) n vs)) (hl : vs'.length = vs.length) :
    Ow B (H.setCells i vs') (L.set k (.sl z ty (.slice (some ⟨i, o, u⟩) m c) n vs')) := by
  refine h.upd hk (Nat.le_refl _) (h.sc.set _ _) fun S hS hp => ?_
  have hi := sl_mem S hp
  refine ⟨fun j hj hjS => by rw [AH.setCells_row, if_neg (fun e => hjS (by rw [e]; exact hi))], fun S' hS' _ => ?_⟩
  rcases hp.2 with ⟨_, h1⟩ | ⟨i', h1, h2, h3⟩
  · cases h1
  · cases h2
    exact ⟨by rw [hl]; exact hp.1, .inr ⟨i, hS' i h1, rfl, by rw [AH.setCells_row, if_pos rfl, h3]; rfl⟩⟩
theorem Ow.putRow {B H : AH} {L : List Th} (h : Ow B H L) (k : Nat) {i : Nat} {ty : TypeId} {b : Bool} {cs cs' : List Value} (hk : L[k]? = some (.row i ⟨ty, b, cs⟩)) :
    Ow B (H.setCells i cs') (L.set k (.row i ⟨ty, b, cs'⟩)) := by
  refine h.upd hk (Nat.le_refl _) (h.sc.set _ _) fun S hS hp => ?_
  exact ⟨fun j hj hjS => by rw [AH.setCells_row, if_neg (fun e => hjS (by rw [e]; exact hp.1))], fun S' hS' _ => ⟨hS' i hp.1, by rw [AH.setCells_row, if_pos rfl, hp.2]; rfl⟩⟩
theorem Ow.app {P : Program} {E : TI} {z n c : Nat} {ty : TypeId} {B H : AH} {L : List Th} {v : Value} {vs ms : List Value} {K : Value → AH → Prop} (h : Ow B H L) (k : Nat) (hk : L[k]? = some (.sl z ty v n vs)) (hz : E.size = z) (hz0 : 0 < z) (hm : ms.length = c * z) (hc : 0 < c) (hb : E.bytes ≤ 32768) (hn : n + c ≤ 4294967296)
    (hK : ∀ v' H', H'.next = H.next + 1 → Ow B H' (L.set k (.sl z ty v' (n + c) (vs ++ ms))) → K v' H') : runOut P H (appE E ty v ms c H) K := by
  subst hz
  obtain ⟨S, hS, hp⟩ := h.at hk
  have hl := hp.1
  unfold appE
  rw [if_neg (by omega)]
  rcases hp.2 with ⟨rfl, rfl⟩ | ⟨i, h1, rfl, hr⟩
  · simp only [asSl_nil, runOut_need, runOut_val]
    have hv0 : vs = [] := List.eq_nil_of_length_eq_zero (by omega)
    subst hv0
    refine ⟨⟨by omega, hb⟩, hK _ _ rfl (h.upd hk (Nat.le_succ _) (h.sc.push _) fun S hS hp => ⟨fun j hj _ => by rw [AH.push_row, if_neg (by omega)], fun S' _ hN => ⟨by simp [hm], .inr ⟨H.next, hN _ (Nat.le_refl _) (Nat.lt_succ_self _), by simp, by rw [AH.push_row, if_pos rfl]; rfl⟩⟩⟩)⟩
  · simp only [asSl_some, hr, bindO_some, runOut_need, Nat.zero_add, hl]
    refine ⟨⟨by omega, hb, Nat.le_refl _, .inl rfl⟩, ?_⟩
    rw [if_neg (by rw [Nat.add_mul]; have := Nat.mul_pos hc hz0; omega)]
    simp only [runOut_need, runOut_val]
    refine ⟨⟨trivial, trivial, hz0, trivial, trivial⟩, hK _ _ rfl (h.upd hk (Nat.le_succ _) ((h.sc.drop i).push _) fun S hS hp => ?_)⟩
    have hi := sl_mem S hp
    refine ⟨fun j hj hjS => ?_, fun S' _ hN => ⟨by simp [hm, hl, Nat.add_mul], .inr ⟨H.next, hN _ (Nat.le_refl _) (Nat.lt_succ_self _), rfl, ?_⟩⟩⟩
    · rw [AH.push_row, if_neg (by rw [AH.drop_next]; omega), AH.drop_row, if_neg (fun e => hjS (by rw [e]; exact hi))]
    · rw [AH.push_row, AH.drop_next, if_pos rfl, seg_all _ _ hl.symm]

/-! ### From and to contracts with bounds -/
theorem Ow.of_fr {z n : Nat} {ty : TypeId} {H H' : AH} {v : Value} {l : List Int} (up : Up H.next H H') (sc : Sc H') (h : Fr z ty H.next H'.next H' v n l) : Ow H H' [.sl z ty v n (ints l)] := by
  refine ⟨sc, up.next, up.row, fun _ => 0, fun k p hk => ?_⟩
  have hk0 : k = 0 := by
    have := (List.getElem?_eq_some_iff.1 hk).1
    simp at this; omega
  subst hk0
  simp at hk
  subst hk
  exact ⟨by rw [ints_length]; exact h.1, h.2.imp id fun ⟨i, h1, h2, h3, h4⟩ => ⟨i, ⟨h1, h2, rfl⟩, h3, h4⟩⟩
theorem Ow.of_up {H H' : AH} (up : Up H.next H H') (sc : Sc H') : Ow H H' [] := ⟨sc, up.next, up.row, fun _ => 0, fun k p hk => by simp at hk⟩
end Go.Abs
end

section
set_option linter.unusedSimpArgs false
set_option linter.unusedVariables false
namespace Go.Abs
open Go Go.RowKit

theorem sl_at {z n : Nat} {ty : TypeId} {v : Value} {vs : List Value} {H H' : AH} {S S' : Nat → Prop} (h : (Th.sl z ty v n vs).p H S) (hS : ∀ i, S i → S' i) (hr : ∀ i r, S i → H.row i = some r → H'.row i = some r) : (Th.sl z ty v n vs).p H' S' :=
  (Th.sl z ty v n vs).loc H H' S S' hS hr h

def Th.both (p q : Th) : Th where
  p := fun H S => ∃ o : Nat → Bool, p.p H (fun i => S i ∧ o i = true) ∧ q.p H (fun i => S i ∧ o i = false)
  loc := fun H H' S S' hS hr ⟨o, h1, h2⟩ => ⟨o, p.loc H H' _ _ (fun i hi => ⟨hS i hi.1, hi.2⟩) (fun i r hi => hr i r hi.1) h1, q.loc H H' _ _ (fun i hi => ⟨hS i hi.1, hi.2⟩) (fun i r hi => hr i r hi.1) h2⟩
theorem Ow.merge {B H : AH} {L : List Th} (h : Ow B H L) (k m : Nat) {p q : Th} (hk : L[k]? = some p) (hm : L[m]? = some q) (hkm : k ≠ m) : Ow B H ((L.set k (p.both q)).set m .no) := by
  obtain ⟨o, ho⟩ := h.own
  refine ⟨h.sc, h.next, h.low, fun i => if o i = m then k else o i, fun j r hj => ?_⟩
  have hm' : (L.set k (p.both q))[m]? = some q := by rw [List.getElem?_set, if_neg hkm]; exact hm
  rcases set_get hm' hj with ⟨rfl, rfl⟩ | ⟨hjm, hj⟩
  · trivial
  · rcases set_get hk hj with ⟨rfl, rfl⟩ | ⟨hjk, hj⟩
    · refine ⟨fun i => decide (o i = j), p.loc H H _ _ (fun i hi => ⟨⟨hi.1, hi.2.1, ?_⟩, decide_eq_true hi.2.2⟩) (fun i r _ hr => hr) (ho j p hk), q.loc H H _ _ (fun i hi => ⟨⟨hi.1, hi.2.1, ?_⟩, decide_eq_false fun e => hjm (e.symm.trans hi.2.2)⟩) (fun i r _ hr => hr) (ho m q hm)⟩
      · show (if o i = m then j else o i) = j
        split
        · rfl
        · exact hi.2.2
      · show (if o i = m then j else o i) = j
        rw [if_pos hi.2.2]
    · refine r.loc H H _ _ (fun i hi => ⟨hi.1, hi.2.1, ?_⟩) (fun i r _ hr => hr) (ho j r hj)
      show (if o i = m then k else o i) = j
      rw [if_neg (fun e => hjm (hi.2.2.symm.trans e))]
      exact hi.2.2

theorem Ow.app2 {α : Type} {f : α → Value} {P : Program} {E : TI} {n : Nat} {ty ty' : TypeId} {B H : AH} {L : List Th} {v x : Value} {ll : List (List α)} {l : List α} {K : Value → AH → Prop} (h : Ow B H L) (k m : Nat) (hk : L[k]? = some (.sl2 f ty ty' v ll)) (hm : L[m]? = some (.sl 1 ty' x n (l.map f))) (hkm : k ≠ m) (hz : E.size = 1) (hb : E.bytes ≤ 32768) (hn : ll.length + 1 ≤ 4294967296)
    (hK : ∀ v' H', H'.next = H.next + 1 → Ow B H' ((L.set k (.sl2 f ty ty' v' (ll ++ [l]))).set m .no) → K v' H') : runOut P H (appE E ty v [x] 1 H) K := by
  have hln : n = l.length := by have := h.len m hm; simp at this; omega
  subst hln
  have hM := h.merge k m hk hm hkm
  have hkl := (List.getElem?_eq_some_iff.1 hk).1
  have hk' : ((L.set k ((Th.sl2 f ty ty' v ll).both (.sl 1 ty' x l.length (l.map f)))).set m .no)[k]? = some ((Th.sl2 f ty ty' v ll).both (.sl 1 ty' x l.length (l.map f))) := by
    rw [List.getElem?_set, if_neg (Ne.symm hkm), List.getElem?_set, if_pos rfl, if_pos hkl]
  have eL : ∀ v', ((L.set k ((Th.sl2 f ty ty' v ll).both (.sl 1 ty' x l.length (l.map f)))).set m .no).set k (.sl2 f ty ty' v' (ll ++ [l])) = (L.set k (.sl2 f ty ty' v' (ll ++ [l]))).set m .no := fun v' => by
    rw [List.set_comm _ _ (Ne.symm hkm), List.set_set]
  obtain ⟨S, hS, hp⟩ := h.at hk
  have lst : (ll ++ [l]).getD ll.length [] = l := by simp [List.getD_eq_getElem?_getD]
  have lld : ∀ j, j < ll.length → (ll ++ [l]).getD j [] = ll.getD j [] := fun j hj => by simp [List.getD_eq_getElem?_getD, List.getElem?_append_left hj]
  unfold appE
  rw [if_neg (by omega)]
  rcases hp with ⟨hll, rfl⟩ | ⟨i, vs, o, h1, h2, rfl, hr, h5, h6⟩
  · simp only [asSl_nil, runOut_need, runOut_val, hz]
    refine ⟨⟨by omega, hb⟩, hK _ _ rfl ?_⟩
    rw [← eL]
    refine hM.upd hk' (Nat.le_succ _) (h.sc.push _) fun S hS hp => ⟨fun j hj _ => by rw [AH.push_row, if_neg (by omega)], fun S' hS' hN => ?_⟩
    obtain ⟨b, _, hq⟩ := hp
    subst hll
    refine .inr ⟨H.next, [x], fun z => if z = H.next then 0 else 1, hN _ (Nat.le_refl _) (Nat.lt_succ_self _), if_pos rfl, rfl, by rw [AH.push_row, if_pos rfl], rfl, fun j hj => ?_⟩
    have hj0 : j = 0 := by simp at hj; omega
    subst hj0
    refine ⟨x, rfl, sl_at hq (fun w hw => ⟨hS' w hw.1, ?_⟩) fun w r hw hwr => by rw [AH.push_row, if_neg (by have := (hS w hw.1).2; omega)]; exact hwr⟩
    show (if w = H.next then 0 else 1) = 1
    rw [if_neg (by have := (hS w hw.1).2; omega)]
  · simp only [asSl_some, hr, bindO_some, runOut_need, Nat.zero_add, hz, Nat.mul_one]
    refine ⟨⟨hn, hb, by omega, .inl rfl⟩, ?_⟩
    rw [if_neg (by omega)]
    simp only [runOut_need, runOut_val]
    refine ⟨by simp, hK _ _ rfl ?_⟩
    rw [← eL]
    refine hM.upd hk' (Nat.le_succ _) ((h.sc.drop i).push _) fun T hT hp => ?_
    obtain ⟨b, hp1, hq⟩ := hp
    rcases hp1 with ⟨_, h7⟩ | ⟨i', vs', u, g1, g2, g3, g4, g5, g6⟩
    · cases h7
    simp only [Value.slice.injEq, Option.some.injEq, Addr.mk.injEq] at g3
    obtain ⟨⟨rfl, _⟩, _⟩ := g3
    rw [hr] at g4
    simp only [Option.some.injEq, Row.mk.injEq, true_and] at g4
    subst g4
    have old : ∀ z, z < H.next → z ≠ i → ((H.drop i).push ⟨ty, true, seg vs 0 ll.length ++ [x]⟩).row z = H.row z := fun z z2 z3 => by
      rw [AH.push_row, if_neg (by rw [AH.drop_next]; omega), AH.drop_row, if_neg z3]
    refine ⟨fun j hj hjT => old j hj (fun e => hjT (by rw [e]; exact g1.1)), fun S' hS' hN => .inr ⟨H.next, vs ++ [x], fun z => if z = H.next then 0 else if b z = false then ll.length + 1 else u z, hN _ (Nat.le_refl _) (Nat.lt_succ_self _), if_pos rfl, by rw [List.length_append]; rfl, ?_, by rw [List.length_append, List.length_append, h5]; rfl, fun j hj => ?_⟩⟩
    · rw [AH.push_row, AH.drop_next, if_pos rfl, seg_all _ _ h5.symm]
    · rw [List.length_append, List.length_singleton] at hj
      by_cases c : j < ll.length
      · obtain ⟨y, hy, hz2⟩ := g6 j c
        rw [lld j c]
        refine ⟨y, by rw [List.getElem?_append_left (by omega)]; exact hy, sl_at hz2 (fun w hw => ⟨hS' w hw.1.1, ?_⟩) fun w r hw hwr => ?_⟩
        · show (if w = H.next then 0 else if b w = false then ll.length + 1 else u w) = j + 1
          have := (hT w hw.1.1).2
          rw [if_neg (by omega), if_neg (by rw [hw.1.2]; simp)]; exact hw.2
        · have := (hT w hw.1.1).2
          rw [old w this (fun e => by rw [e] at hw; omega)]; exact hwr
      · have c4 : j = ll.length := by omega
        subst c4
        rw [lst]
        refine ⟨x, by rw [← h5, List.getElem?_append_right (Nat.le_refl _)]; simp, sl_at hq (fun w hw => ⟨hS' w hw.1, ?_⟩) fun w r hw hwr => ?_⟩
        · show (if w = H.next then 0 else if b w = false then ll.length + 1 else u w) = ll.length + 1
          have := (hT w hw.1).2
          rw [if_neg (by omega), if_pos hw.2]
        · have := (hT w hw.1).2
          rw [old w this (fun e => by rw [e] at hw; rw [g1.2] at hw; cases hw.2)]; exact hwr

theorem Ow.pushSl2 {α : Type} (f : α → Value) {B H : AH} {L : List Th} (h : Ow B H L) (ty ty' : TypeId) : Ow B (H.push ⟨ty, true, []⟩) (L ++ [.sl2 f ty ty' (.slice (some ⟨H.next, 0, some 1⟩) 0 0) ([] : List (List α))]) :=
  h.add _ (Nat.le_succ _) (h.sc.push _) (fun i hi => by rw [AH.push_row, if_neg (by omega)]) fun S hS => .inr ⟨H.next, [], fun _ => 0, hS _ (Nat.le_refl _) (Nat.lt_succ_self _), rfl, rfl, by rw [AH.push_row, if_pos rfl], rfl, fun j hj => by simp at hj⟩
theorem Ow.rd2 {B H : AH} {L : List Th} (h : Ow B H L) (k : Nat) {ty ty' : TypeId} {v : Value} {ll : List (List Int)} (hk : L[k]? = some (.sl2 (Value.int .i64) ty ty' v ll)) : Rd2 1 H v ll := by
  obtain ⟨S, hS, hp⟩ := h.at hk
  rcases hp with ⟨h1, h2⟩ | ⟨i, vs, o, h1, h2, rfl, h4, h5, h6⟩
  · exact .inl ⟨h1, none, 0, h2, fun _ => rfl⟩
  · refine .inr ⟨i, 0, some 1, _, _, rfl, h4, fun j hj => ?_⟩
    obtain ⟨x, hx, hq⟩ := h6 j hj
    refine ⟨x, _, by rw [Nat.zero_add]; exact hx, (Fr.rd (ty := ty') (lo := 0) (hi := H.next) ⟨by simp, ?_⟩ : Rd 1 H x (ll.getD j []).length (ll.getD j []))⟩
    rcases hq.2 with h7 | ⟨q, q1, q2, q3⟩
    · exact .inl h7
    · exact .inr ⟨q, Nat.zero_le _, (hS q q1.1).2, q2, q3⟩
theorem Ow.of_fr2 {ty ty' : TypeId} {H H' : AH} {v : Value} {ll : List (List Int)} (up : Up H.next H H') (sc : Sc H') (h : Fr2 1 ty ty' H.next H'.next H' v ll) : Ow H H' [.sl2 (Value.int .i64) ty ty' v ll] := by
  refine ⟨sc, up.next, up.row, fun _ => 0, fun k p hk => ?_⟩
  have hk0 : k = 0 := by
    have := (List.getElem?_eq_some_iff.1 hk).1
    simp at this; omega
  subst hk0
  simp at hk
  subst hk
  rcases h with h | ⟨i, vs, b, h1, h2, rfl, hr, hl, g0, gn, gi, gm, hh⟩
  · exact .inl h
  · classical
    refine .inr ⟨i, vs, fun z => if z = i then 0 else if hz : ∃ j, j < ll.length ∧ b j ≤ z ∧ z < b (j + 1) then Classical.choose hz + 1 else 0, ⟨h1, h2, rfl⟩, if_pos rfl, rfl, hr, hl, fun j hj => ?_⟩
    obtain ⟨x, m, hx, hf⟩ := hh j hj
    have m1 := mono_of_step gm (Nat.zero_le j)
    have m2 := mono_of_step gm (show j + 1 ≤ ll.length from hj)
    have hm := hf.lenK1
    refine ⟨x, hx, ⟨by simp, ?_⟩⟩
    rcases hf.2 with ⟨h3, h4⟩ | ⟨q, q1, q2, q3, q4⟩
    · exact .inl ⟨by omega, h4⟩
    · refine .inr ⟨q, ⟨⟨by omega, by omega, rfl⟩, ?_⟩, by rw [← hm]; exact q3, q4⟩
      show (if q = i then 0 else if hz : ∃ j, j < ll.length ∧ b j ≤ q ∧ q < b (j + 1) then Classical.choose hz + 1 else 0) = j + 1
      have hex : ∃ j, j < ll.length ∧ b j ≤ q ∧ q < b (j + 1) := ⟨j, hj, q1, q2⟩
      rw [if_neg (by rcases gi with g | g <;> omega), dif_pos hex]
      obtain ⟨c1, c2, c3⟩ := Classical.choose_spec hex
      have : Classical.choose hex = j := by
        apply Classical.byContradiction
        intro hne
        rcases Nat.lt_or_gt_of_ne hne with hl | hl
        · have := mono_of_step gm (show Classical.choose hex + 1 ≤ j from hl); omega
        · have := mono_of_step gm (show j + 1 ≤ Classical.choose hex from hl); omega
      rw [this]
end Go.Abs
end

section
set_option linter.unusedSimpArgs false
set_option linter.unusedVariables false
namespace Go.Abs
open Go Go.RowKit

def Th.cap (k : Nat) (ty : TypeId) (v : Value) (n : Nat) (vs : List Value) : Th where
  p := fun H S => vs.length = n * k ∧ ((n = 0 ∧ v = .slice none 0 0) ∨ ∃ i rest, S i ∧ v = .slice (some ⟨i, 0, some k⟩) n n ∧ H.row i = some ⟨ty, true, vs ++ rest⟩)
  loc := fun H H' S S' hS hr h => ⟨h.1, h.2.imp id fun ⟨i, z, h1, h2, h3⟩ => ⟨i, z, hS i h1, h2, hr i _ h1 h3⟩⟩

theorem cap_of_sl {k n : Nat} {ty : TypeId} {v : Value} {vs : List Value} {H : AH} {S : Nat → Prop} (h : (Th.sl k ty v n vs).p H S) : (Th.cap k ty v n vs).p H S :=
  ⟨h.1, h.2.imp id fun ⟨i, h1, h2, h3⟩ => ⟨i, [], h1, h2, by rw [List.append_nil]; exact h3⟩⟩
theorem Ow.tell {B H : AH} {L : List Th} (h : Ow B H L) (k : Nat) {p p' : Th} (hk : L[k]? = some p) (hp : ∀ S, p.p H S → p'.p H S) : Ow B H (L.set k p') :=
  h.upd hk (Nat.le_refl _) h.sc fun S hS q => ⟨fun _ _ _ => rfl, fun S' hS' _ => p'.loc H H _ _ hS' (fun i r _ hr => hr) (hp S q)⟩
theorem Ow.toCap {B H : AH} {L : List Th} (h : Ow B H L) (k : Nat) {z n : Nat} {ty : TypeId} {v : Value} {vs : List Value} (hk : L[k]? = some (.sl z ty v n vs)) : Ow B H (L.set k (.cap z ty v n vs)) :=
  h.tell k hk fun S q => cap_of_sl q

theorem Ow.capLen {B H : AH} {L : List Th} (h : Ow B H L) (k : Nat) {z n : Nat} {ty : TypeId} {v : Value} {vs : List Value} (hk : L[k]? = some (.cap z ty v n vs)) : vs.length = n * z := by
  obtain ⟨S, _, hp⟩ := h.at hk
  exact hp.1
theorem Ow.capOne {B H : AH} {L : List Th} (h : Ow B H L) (k : Nat) {z n : Nat} {ty : TypeId} {v : Value} {vs : List Value} (hk : L[k]? = some (.cap z ty v n vs)) : v.oneCell' = true := by
  obtain ⟨S, _, hp⟩ := h.at hk
  rcases hp.2 with ⟨_, rfl⟩ | ⟨i, _, _, rfl, _⟩ <;> rfl
theorem cap_rs {z n : Nat} {ty : TypeId} {v : Value} {l : List Int} {H : AH} {S : Nat → Prop} (hp : (Th.cap z ty v n (ints l)).p H S) : Rs z H v n l := by
  have hl := hp.1
  rw [ints_length] at hl
  rcases hp.2 with ⟨rfl, rfl⟩ | ⟨i, rest, h1, rfl, h3⟩
  · exact ⟨⟨hl, .inl ⟨rfl, none, 0, rfl, fun _ => rfl⟩⟩, .inl rfl⟩
  · refine ⟨⟨hl, .inr ⟨i, 0, some z, n, _, rfl, h3, ?_, ?_⟩⟩, .inr (.inl ⟨i, 0, n, rfl⟩)⟩
    · simp [ints_length, hl]
    · simp only [seg, List.drop_zero]
      rw [← hl, ← ints_length l, List.take_left' rfl]
theorem Ow.capRs {B H : AH} {L : List Th} (h : Ow B H L) (k : Nat) {z n : Nat} {ty : TypeId} {v : Value} {l : List Int} (hk : L[k]? = some (.cap z ty v n (ints l))) : Rs z H v n l := by
  obtain ⟨S, hS, hp⟩ := h.at hk
  exact cap_rs hp

theorem Ow.cut {B H : AH} {L : List Th} (h : Ow B H L) (k : Nat) {z n : Nat} {ty : TypeId} {v : Value} {l : List Int} (hk : L[k]? = some (.cap z ty v n (ints l))) {hi : Option Int} {b : Nat} (hb : hi.getD (n : Int) = (b : Int)) (hbn : b ≤ n) :
    ∃ w, (∀ (P : Program) (E : TI) (K : Value → AH → Prop) (H' : AH), E.size = z → K w H' → runOut P H' (sliceE E v none hi none H') K) ∧ Ow B H (L.set k (.cap z ty w b (ints (l.take (b * z))))) := by
  have hl := h.capLen k hk
  rw [ints_length] at hl
  have hlb : (l.take (b * z)).length = b * z := by
    rw [List.length_take]
    exact Nat.min_eq_left (by rw [hl]; exact Nat.mul_le_mul_right z hbn)
  obtain ⟨S0, hS0, hp0⟩ := h.at hk
  rcases hp0.2 with ⟨rfl, rfl⟩ | ⟨i, rest, h1, rfl, h3⟩
  · obtain rfl : b = 0 := by omega
    refine ⟨.slice none 0 0, fun P E K H' hE hK => ?_, h.tell k hk fun S q => ⟨by rw [ints_length, hlb], .inl ⟨rfl, rfl⟩⟩⟩
    unfold sliceE
    rw [if_neg (by simp)]
    simp only [asSl_nil, runOut_need, runOut_val]
    refine ⟨⟨rfl, ?_, rfl⟩, hK⟩
    cases hi with
    | none => rfl
    | some x => simpa using hb
  · refine ⟨.slice (some ⟨i, 0, some z⟩) b b, fun P E K H' hE hK => ?_, h.tell k hk fun S q => ⟨by rw [ints_length, hlb], ?_⟩⟩
    · unfold sliceE
      rw [if_neg (by simp)]
      have e0 : ((none : Option Int).getD 0) = 0 := rfl
      simp only [asSl_some, runOut_need, runOut_val, hb, e0, Int.toNat_natCast, hE, Int.toNat_zero, Nat.zero_mul, Nat.add_zero, Nat.sub_zero]
      exact ⟨⟨by omega, by omega, by omega, trivial⟩, hK⟩
    · rcases q.2 with ⟨_, h7⟩ | ⟨i', rest', g1, g2, g3⟩
      · cases h7
      cases g2
      refine .inr ⟨i, ints (l.drop (b * z)) ++ rest', g1, rfl, ?_⟩
      rw [g3, ← List.append_assoc, ints_append, List.take_append_drop]

theorem Ow.alone {B H : AH} {L : List Th} (h : Ow B H L) : ∃ B' H3, Ow B' H3 L ∧ ∀ i r, H3.row i = some r → B.next ≤ i ∧ H.row i = some r := by
  have hn := h.next
  obtain ⟨w, hw⟩ := h.own
  refine ⟨⟨B.next, fun _ => none⟩, ⟨H.next, fun i => if B.next ≤ i ∧ i < H.next then H.row i else none⟩, ⟨fun i r hr => ?_, hn, fun i hi => ?_, w, fun k p hk => ?_⟩, fun i r hr => ?_⟩
  · dsimp only at hr ⊢
    split at hr
    · rename_i h1; exact h1.2
    · cases hr
  · dsimp only at hi ⊢
    rw [if_neg (by omega)]
  · refine p.loc H _ _ _ (fun j hj => hj) (fun j r hj hr => ?_) (hw k p hk)
    show (if B.next ≤ j ∧ j < H.next then H.row j else none) = some r
    rw [if_pos ⟨hj.1, hj.2.1⟩]; exact hr
  · dsimp only at hr
    split at hr
    · rename_i h1; exact ⟨h1.1, hr⟩
    · cases hr
end Go.Abs
end

section
set_option linter.unusedSimpArgs false
set_option linter.unusedVariables false
namespace Go.Abs
open Go Go.RowKit

theorem Ow.only {B H : AH} {L : List Th} (h : Ow B H L) (k : Nat) {p : Th} (hk : L[k]? = some p) : Ow B H [p] :=
  h.sub (fun _ => k) (fun j hj => by
    have hj : j < 1 := hj
    obtain rfl : j = 0 := by omega
    exact hk) fun i j hi hj _ => by
    have hi : i < 1 := hi
    have hj : j < 1 := hj
    omega
theorem Ow.pick3 {B H : AH} {L : List Th} (h : Ow B H L) (i j k : Nat) {p q r : Th} (hi : L[i]? = some p) (hj : L[j]? = some q) (hk : L[k]? = some r) (hij : i ≠ j) (hik : i ≠ k) (hjk : j ≠ k) : Ow B H [p, q, r] :=
  h.sub (fun x => if x = 0 then i else if x = 1 then j else k) (fun x hx => by
    have hx : x < 3 := hx
    rcases x with _ | _ | _ | x
    · exact hi
    · exact hj
    · exact hk
    · omega) fun x y hx hy e => by
    have hx : x < 3 := hx
    have hy : y < 3 := hy
    have e : (if x = 0 then i else if x = 1 then j else k) = (if y = 0 then i else if y = 1 then j else k) := e
    repeat' split at e
    all_goals omega
theorem Ow.pick2 {B H : AH} {L : List Th} (h : Ow B H L) (i j : Nat) {p q : Th} (hi : L[i]? = some p) (hj : L[j]? = some q) (hij : i ≠ j) : Ow B H [p, q] :=
  h.sub (fun x => if x = 0 then i else j) (fun x hx => by
    have hx : x < 2 := hx
    rcases x with _ | _ | x
    · exact hi
    · exact hj
    · omega) fun x y hx hy e => by
    have hx : x < 2 := hx
    have hy : y < 2 := hy
    have e : (if x = 0 then i else j) = (if y = 0 then i else j) := e
    repeat' split at e
    all_goals omega
def Th.see (Q : AH → Prop) : Th where
  p := fun H S => ∀ H' : AH, (∀ (i : Nat) (r : Row), S i → H.row i = some r → H'.row i = some r) → Q H'
  loc := fun H H' S S' hS hr h H2 h2 => h H2 fun i r hi hr' => h2 i r (hS i hi) (hr i r hi hr')
theorem see_of {p : Th} {Q : AH → Prop} (hQ : ∀ H S, p.p H S → Q H) {H : AH} {S : Nat → Prop} (h : p.p H S) : (Th.see Q).p H S :=
  fun H' hh => hQ H' S (p.loc H H' S S (fun _ h => h) hh h)
theorem Ow.toSee {B H : AH} {L : List Th} (h : Ow B H L) (k : Nat) {p : Th} (hk : L[k]? = some p) {Q : AH → Prop} (hQ : ∀ H S, p.p H S → Q H) : Ow B H (L.set k (.see Q)) :=
  h.tell k hk fun S hp => see_of hQ hp
theorem Ow.sees {B H : AH} {L : List Th} (h : Ow B H L) (k : Nat) {Q : AH → Prop} (hk : L[k]? = some (.see Q)) : Q H := by
  obtain ⟨S, _, hp⟩ := h.at hk
  exact hp H fun _ _ _ h => h
theorem Ow.addSee {B H : AH} {L : List Th} (h : Ow B H L) {Q : AH → Prop} (hQ : ∀ H, Q H) : Ow B H (L ++ [.see Q]) := h.add _ (Nat.le_refl _) h.sc (fun _ _ => rfl) fun _ _ H' _ => hQ H'

theorem sl_rd {ty : TypeId} {k n : Nat} {v : Value} {l : List Int} {H : AH} {S : Nat → Prop} (hp : (Th.sl k ty v n (ints l)).p H S) : Rd k H v n l := (cap_rs (cap_of_sl hp)).rd

def RowsOk (vs : List Value) (ll : List (List Int)) (H : AH) : Prop := vs.length = ll.length ∧ ∀ j, j < ll.length → ∃ x, vs[j]? = some x ∧ Rd 1 H x (ll.getD j []).length (ll.getD j [])
theorem RowsOk.nil (H : AH) : RowsOk [] [] H := ⟨rfl, fun j h => by simp at h⟩
theorem RowsOk.snoc {vs : List Value} {ll : List (List Int)} {H : AH} {x : Value} {l : List Int} (h : RowsOk vs ll H) (hx : Rd 1 H x l.length l) : RowsOk (vs ++ [x]) (ll ++ [l]) H := by
  refine ⟨by simp [h.1], fun j hj => ?_⟩
  rw [List.length_append, List.length_singleton] at hj
  by_cases e : j < ll.length
  · obtain ⟨y, h1, h2⟩ := h.2 j e
    have e2 : (ll ++ [l]).getD j [] = ll.getD j [] := by rw [List.getD_eq_getElem?_getD, List.getD_eq_getElem?_getD, List.getElem?_append_left e]
    rw [e2]
    exact ⟨y, by rw [List.getElem?_append_left (by rw [h.1]; exact e)]; exact h1, h2⟩
  · obtain rfl : j = ll.length := by omega
    have e2 : (ll ++ [l]).getD ll.length [] = l := by rw [List.getD_eq_getElem?_getD, List.getElem?_append_right (Nat.le_refl _), Nat.sub_self]; rfl
    rw [e2]
    exact ⟨x, by rw [← h.1, List.getElem?_append_right (Nat.le_refl _), Nat.sub_self]; rfl, hx⟩
theorem RowsOk.app {vs ws : List Value} {ll mm : List (List Int)} {H : AH} (h : RowsOk vs ll H) (k : RowsOk ws mm H) : RowsOk (vs ++ ws) (ll ++ mm) H := by
  refine ⟨by simp [h.1, k.1], fun j hj => ?_⟩
  rw [List.length_append] at hj
  by_cases e : j < ll.length
  · obtain ⟨y, h1, h2⟩ := h.2 j e
    have e2 : (ll ++ mm).getD j [] = ll.getD j [] := by rw [List.getD_eq_getElem?_getD, List.getD_eq_getElem?_getD, List.getElem?_append_left e]
    rw [e2]
    exact ⟨y, by rw [List.getElem?_append_left (by rw [h.1]; exact e)]; exact h1, h2⟩
  · obtain ⟨y, h1, h2⟩ := k.2 (j - ll.length) (by omega)
    have e2 : (ll ++ mm).getD j [] = mm.getD (j - ll.length) [] := by rw [List.getD_eq_getElem?_getD, List.getD_eq_getElem?_getD, List.getElem?_append_right (by omega)]
    rw [e2]
    exact ⟨y, by rw [List.getElem?_append_right (by rw [h.1]; omega), h.1]; exact h1, h2⟩
theorem RowsOk.rd2 {ty : TypeId} {vs : List Value} {ll : List (List Int)} {H : AH} {S : Nat → Prop} {u : Value} {m : Nat} (h : RowsOk vs ll H) (hp : (Th.sl 1 ty u m vs).p H S) : Rd2 1 H u ll := by
  have hm : m = ll.length := by have := hp.1; have := h.1; omega
  rcases hp.2 with ⟨h0, h1⟩ | ⟨i, _, h1, h2⟩
  · exact .inl ⟨List.eq_nil_of_length_eq_zero (by omega), none, 0, h1, fun _ => rfl⟩
  · refine .inr ⟨i, 0, some 1, _, _, by rw [h1, hm], h2, fun j hj => ?_⟩
    obtain ⟨x, hx, hr⟩ := h.2 j hj
    exact ⟨x, _, by simpa using hx, hr⟩
theorem Ow.addRow {B H : AH} {L : List Th} (h : Ow B H L) (k m : Nat) {vs : List Value} {ll : List (List Int)} {q : Th} {x : Value} {l : List Int} (hk : L[k]? = some (.see (RowsOk vs ll))) (hm : L[m]? = some q) (hkm : k ≠ m) (hq : ∀ H S, q.p H S → Rd 1 H x l.length l) :
    Ow B H (((L.set k ((Th.see (RowsOk vs ll)).both q)).set m .no).set k (.see (RowsOk (vs ++ [x]) (ll ++ [l])))) := by
  have hM := h.merge k m hk hm hkm
  refine hM.toSee k (p := (Th.see (RowsOk vs ll)).both q) ?_ fun H S hp => ?_
  · rw [List.getElem?_set, if_neg (fun e => hkm e.symm), List.getElem?_set, if_pos rfl, if_pos (List.getElem?_eq_some_iff.1 hk).1]
  · obtain ⟨o, h1, h2⟩ := hp
    exact (h1 H fun _ _ _ h => h).snoc (hq _ _ h2)
def Rw (u : Value) (ws : List Value) (ll : List (List Int)) (H : AH) : Prop :=
  RowsOk ws ll H ∧ ((u = .slice none 0 0 ∧ ws = []) ∨ ∃ i o s c r, u = .slice (some ⟨i, o, s⟩) ws.length c ∧ H.row i = some r ∧ o + ws.length ≤ r.cells.length ∧ seg r.cells o ws.length = ws)
theorem Rw.rd2 {u : Value} {ws : List Value} {ll : List (List Int)} {H : AH} (h : Rw u ws ll H) : Rd2 1 H u ll := by
  obtain ⟨h1, h2⟩ := h
  rcases h2 with ⟨e1, e2⟩ | ⟨i, o, s, c, r, e1, h3, h4, h5⟩
  · exact .inl ⟨List.eq_nil_of_length_eq_zero (by rw [← h1.1, e2]; rfl), none, 0, e1, fun _ => rfl⟩
  · refine .inr ⟨i, o, s, c, r, by rw [e1, h1.1], h3, fun j hj => ?_⟩
    obtain ⟨x, hx, hr⟩ := h1.2 j hj
    refine ⟨x, _, ?_, hr⟩
    rw [← h5] at hx
    simp only [seg, List.getElem?_take, List.getElem?_drop] at hx
    rw [if_pos (by rw [h1.1]; exact hj)] at hx
    exact hx
theorem rw_of_sl {ty : TypeId} {vs : List Value} {ll : List (List Int)} {H : AH} {S : Nat → Prop} {u : Value} {m : Nat} (h : RowsOk vs ll H) (hp : (Th.sl 1 ty u m vs).p H S) : Rw u vs ll H := by
  have hm : m = vs.length := by have := hp.1; omega
  refine ⟨h, ?_⟩
  rcases hp.2 with ⟨h0, h1⟩ | ⟨i, _, h1, h2⟩
  · exact .inl ⟨h1, List.eq_nil_of_length_eq_zero (by omega)⟩
  · exact .inr ⟨i, 0, some 1, m, _, by rw [h1, hm], h2, by simp, seg_all _ _ rfl⟩
theorem Ow.toRw {B H : AH} {L : List Th} (h : Ow B H L) (k m : Nat) {ty : TypeId} {u : Value} {n : Nat} {vs : List Value} {ll : List (List Int)} (hk : L[k]? = some (.sl 1 ty u n vs)) (hm : L[m]? = some (.see (RowsOk vs ll))) (hkm : k ≠ m) :
    Ow B H [.see (Rw u vs ll)] := by
  have hM := h.merge k m hk hm hkm
  have := hM.toSee k (p := (Th.sl 1 ty u n vs).both (.see (RowsOk vs ll))) (Q := Rw u vs ll) (by
    rw [List.getElem?_set, if_neg (fun e => hkm e.symm), List.getElem?_set, if_pos rfl, if_pos (List.getElem?_eq_some_iff.1 hk).1]) fun H S hp => by
    obtain ⟨o, h1, h2⟩ := hp
    exact rw_of_sl (h2 H fun _ _ _ h => h) h1
  exact this.only k (by rw [List.getElem?_set, if_pos rfl, if_pos (by simpa using (List.getElem?_eq_some_iff.1 hk).1)])
theorem sl2_rw {ty ty' : TypeId} {u : Value} {ll : List (List Int)} {H : AH} {S : Nat → Prop} (hp : (Th.sl2 (Value.int .i64) ty ty' u ll).p H S) : ∃ ws, ∀ S', (Th.sl2 (Value.int .i64) ty ty' u ll).p H S' → (Th.see (Rw u ws ll)).p H S' := by
  rcases hp with ⟨h1, h2⟩ | ⟨i, vs, o, h1, h2, h3, h4, h5, h6⟩
  · subst h1; subst h2
    exact ⟨[], fun S' _ H' _ => ⟨RowsOk.nil _, .inl ⟨rfl, rfl⟩⟩⟩
  · refine ⟨vs, fun S' hp' H' hH => ?_⟩
    rcases hp' with ⟨g1, g2⟩ | ⟨i', vs', o', g1, g2, g3, g4, g5, g6⟩
    · rw [g2] at h3; cases h3
    · obtain rfl : i = i' := by rw [h3] at g3; cases g3; rfl
      obtain rfl : vs = vs' := by rw [h4] at g4; cases g4; rfl
      refine ⟨⟨g5, fun j hj => ?_⟩, .inr ⟨i, 0, some 1, ll.length, _, by rw [g3, g5], hH _ _ g1 g4, by simp, seg_all _ _ rfl⟩⟩
      obtain ⟨x, hx, hq⟩ := g6 j hj
      have hf : (Th.sl 1 ty' x (ll.getD j []).length (ints (ll.getD j []))).p H (fun z => S' z ∧ o' z = j + 1) := hq
      exact ⟨x, hx, (cap_rs (cap_of_sl (sl_at hf (fun _ h => h) fun z r hz hr => hH z r hz.1 hr))).rd⟩
theorem Ow.sl2Rw {B H : AH} {L : List Th} (h : Ow B H L) (k : Nat) {ty ty' : TypeId} {u : Value} {ll : List (List Int)} (hk : L[k]? = some (.sl2 (Value.int .i64) ty ty' u ll)) : ∃ ws, Ow B H [.see (Rw u ws ll)] := by
  obtain ⟨S, _, hp⟩ := h.at hk
  obtain ⟨ws, hw⟩ := sl2_rw hp
  exact ⟨ws, (h.tell k hk hw).only k (by rw [List.getElem?_set, if_pos rfl, if_pos (List.getElem?_eq_some_iff.1 hk).1])⟩
theorem Ow.appW {P : Program} {E : TI} {n : Nat} {ty : TypeId} {B H : AH} {L : List Th} {w u : Value} {vs ws : List Value} {ll : List (List Int)} {K : Value → AH → Prop} (h : Ow B H L) (k : Nat) (hk : L[k]? = some (.sl 1 ty w n vs)) (hv : Rw u ws ll H) (hz : E.size = 1) (hb : E.bytes ≤ 32768) (hn : n + ws.length ≤ 4294967296)
    (hK : ∀ v' H', H.next ≤ H'.next → Ow B H' (L.set k (.sl 1 ty v' (n + ws.length) (vs ++ ws))) → K v' H') : runOut P H (slCells H 1 u fun xs m => appE E ty w xs m H) K := by
  obtain ⟨hr, hu⟩ := hv
  have hws : ∀ x ∈ ws, x.oneCell' = true := fun x hx => by
    obtain ⟨j, hj, e⟩ := List.getElem_of_mem hx
    obtain ⟨y, hy, hrd⟩ := hr.2 j (by rw [← hr.1]; exact hj)
    rw [List.getElem?_eq_getElem hj] at hy
    cases hy
    rw [← e]; exact hrd.one
  have key : ws = [] → runOut P H (appE E ty w [] 0 H) K := fun e => by
    subst e
    unfold appE
    rw [if_pos rfl]
    obtain ⟨S, hS, hp⟩ := h.at hk
    have eL : L.set k (.sl 1 ty w (n + ([] : List Value).length) (vs ++ [])) = L := by
      rw [List.append_nil]
      apply List.ext_getElem?
      intro j
      rw [List.getElem?_set]
      have hkl := (List.getElem?_eq_some_iff.1 hk).1
      by_cases e : k = j
      · subst e; rw [if_pos rfl, if_pos hkl]; exact hk.symm
      · rw [if_neg e]
    have hK' := hK w H (Nat.le_refl _) (by rw [eL]; exact h)
    rcases hp.2 with ⟨_, rfl⟩ | ⟨i, h1, rfl, hr⟩
    · simp only [asSl_nil, runOut_val]; exact hK'
    · simp only [asSl_some, runOut_need, runOut_val]; exact ⟨(fun h => by cases h), hK'⟩
  refine Holds.mp ?_
  rcases hu with ⟨rfl, e2⟩ | ⟨i, o, s, c, r, rfl, h3, h4, h5⟩
  · unfold slCells
    simp only [asSl_nil, Holds]
    exact key e2
  · unfold slCells
    simp only [Holds]
    simp only [asSl_some, h3, bindO_some, runOut_need, Nat.mul_one, h5]
    refine ⟨⟨h4, .inr hws⟩, ?_⟩
    rcases Nat.eq_zero_or_pos ws.length with e | e
    · have e0 : ws = [] := List.eq_nil_of_length_eq_zero e
      have := key e0
      rw [e0]; exact this
    · exact h.app k hk hz (by omega) (by omega) e hb hn fun v' H' hn' o' => hK v' H' (by omega) o'
end Go.Abs
end

section
set_option linter.unusedSimpArgs false
set_option linter.unusedVariables false
namespace Go.Abs
def wK (kind : Int) : List (Nat × Nat) := if kind = 0 then wO else if kind = 1 then w1L else w2L
def oiC (q : Int) (R : List (List Int)) (kind : Int) : Int := if evB q R = true then (if decide (0 ≤ kind ∧ kind ≤ 2) = true then 0 else 2) else 1
def oiL (q : Int) (R : List (List Int)) (kind : Int) : List (List Int) := if evB q R = true ∧ (0 ≤ kind ∧ kind ≤ 2) then tabM q.toNat (wK kind) R else []
def sitL (row : List Int) : Nat → List Int
  | 0 => []
  | b + 1 => sitL row b ++ if row.contains (b : Int) = true then [] else [(b : Int)]
theorem sitL_len (row : List Int) : ∀ b, (sitL row b).length ≤ b
  | 0 => Nat.le_refl _
  | b + 1 => by
    have := sitL_len row b
    unfold sitL
    rw [List.length_append]
    split <;> simp <;> omega
theorem sitL_yes {row : List Int} {b : Nat} (h : row.contains (b : Int) = true) : sitL row (b + 1) = sitL row b := by
  conv => lhs; unfold sitL
  rw [if_pos h, List.append_nil]
theorem sitL_no {row : List Int} {b : Nat} (h : row.contains (b : Int) = false) : sitL row (b + 1) = sitL row b ++ [(b : Int)] := by
  conv => lhs; unfold sitL
  rw [if_neg (by rw [h]; simp)]
def soC (q : Int) (R : List (List Int)) (i : Int) : Int := if evB q R = true then (if decide (0 ≤ i ∧ i ≤ (R.length : Int) - 1) = true then 0 else 2) else 1
def soL (q : Int) (R : List (List Int)) (i : Int) : List Int := if evB q R = true ∧ (0 ≤ i ∧ i ≤ (R.length : Int) - 1) then sitL (R.getD i.toNat []) q.toNat else []
end Go.Abs
end

section
set_option linter.unusedSimpArgs false
namespace Go.Proofs.Ytgkmdfjjlghecaa.A
open Go Go.Abs Go.RowKit
theorem ti110 : ti Try.prog 110 = some ⟨.other, 1, 8, [.nilFunc]⟩ := by kernel_rfl
theorem ti56 : ti Try.prog 56 = some ⟨.other, 1, 8, [.nilFunc]⟩ := by kernel_rfl
theorem ti101 : ti Try.prog 101 = some ⟨.slice 87, 1, 24, [.slice none 0 0]⟩ := by kernel_rfl
theorem ti5 : ti Try.prog 5 = some ⟨.int .u8, 1, 1, [.int .u8 0]⟩ := by kernel_rfl
theorem ti159 : ti Try.prog 159 = some ⟨.int .u64, 1, 8, [.int .u64 0]⟩ := by kernel_rfl
theorem ti62 : ti Try.prog 62 = some ⟨.slice 5, 1, 24, [.slice none 0 0]⟩ := by kernel_rfl
theorem ti161 : ti Try.prog 161 = some ⟨.struct [(0, 62), (1, 3), (2, 159)], 3, 40, [.slice none 0 0, .int .i64 0, .int .u64 0]⟩ := by kernel_rfl
theorem ti51 : ti Try.prog 51 = some ⟨.struct [(0, 2), (1, 2), (2, 25)], 3, 40, [.int .i64 0, .int .i64 0, .slice none 0 0]⟩ := by kernel_rfl
theorem ti57 : ti Try.prog 57 = some ⟨.struct [(0, 2), (1, 2), (2, 25)], 3, 40, [.int .i64 0, .int .i64 0, .slice none 0 0]⟩ := by kernel_rfl
theorem ti9 : ti Try.prog 9 = some ⟨.str, 1, 16, [.string ByteArray.empty]⟩ := by kernel_rfl
theorem tiXA : ti Try.prog 110 = some ⟨.other, 1, 8, [.nilFunc]⟩ ∧ ti Try.prog 56 = some ⟨.other, 1, 8, [.nilFunc]⟩ ∧ ti Try.prog 101 = some ⟨.slice 87, 1, 24, [.slice none 0 0]⟩ ∧ ti Try.prog 5 = some ⟨.int .u8, 1, 1, [.int .u8 0]⟩ ∧ ti Try.prog 159 = some ⟨.int .u64, 1, 8, [.int .u64 0]⟩ ∧ ti Try.prog 62 = some ⟨.slice 5, 1, 24, [.slice none 0 0]⟩ ∧ ti Try.prog 161 = some ⟨.struct [(0, 62), (1, 3), (2, 159)], 3, 40, [.slice none 0 0, .int .i64 0, .int .u64 0]⟩ ∧ ti Try.prog 51 = some ⟨.struct [(0, 2), (1, 2), (2, 25)], 3, 40, [.int .i64 0, .int .i64 0, .slice none 0 0]⟩ ∧ ti Try.prog 57 = some ⟨.struct [(0, 2), (1, 2), (2, 25)], 3, 40, [.int .i64 0, .int .i64 0, .slice none 0 0]⟩ ∧ ti Try.prog 9 = some ⟨.str, 1, 16, [.string ByteArray.empty]⟩ := ⟨ti110, ti56, ti101, ti5, ti159, ti62, ti161, ti51, ti57, ti9⟩
end Go.Proofs.Ytgkmdfjjlghecaa.A
end

section
set_option linter.unusedSimpArgs false
set_option linter.unusedVariables false
set_option maxRecDepth 100000
set_option maxHeartbeats 2000000
namespace Go.Proofs.Ytgkmdfjjlghecaa.A
open Go Go.Abs Go.RowKit

theorem opponents2_c (n : Nat) (hn : 1 ≤ n ∧ n ≤ 16) (u : Value) (R : List (List Int)) (H : AH) (hu : Rd2 1 H u R) (hR : EvOk n R) :
    ACalls Try.prog 117 [.agg #[.int .i64 n, u], .int .i64 2] H (fun r H' => Up H.next H H' ∧ Fr2 1 38 2 H.next H'.next H' r (tabM n w2L R)) := by
  have hone := hu.one
  have zz : zeros 4 [.int .i64 0, .int .i64 0] = [.int .i64 0, .int .i64 0, .int .i64 0, .int .i64 0, .int .i64 0, .int .i64 0, .int .i64 0, .int .i64 0] := rfl
  have sp0 : splice ([.int .i64 0, .int .i64 0, .int .i64 0, .int .i64 0, .int .i64 0, .int .i64 0, .int .i64 0, .int .i64 0] : List Value) 0 [.int .i64 0, .int .i64 2] = [.int .i64 0, .int .i64 2, .int .i64 0, .int .i64 0, .int .i64 0, .int .i64 0, .int .i64 0, .int .i64 0] := rfl
  have sp1 : splice ([.int .i64 0, .int .i64 2, .int .i64 0, .int .i64 0, .int .i64 0, .int .i64 0, .int .i64 0, .int .i64 0] : List Value) 2 [.int .i64 1, .int .i64 3] = [.int .i64 0, .int .i64 2, .int .i64 1, .int .i64 3, .int .i64 0, .int .i64 0, .int .i64 0, .int .i64 0] := rfl
  have sp2 : splice ([.int .i64 0, .int .i64 2, .int .i64 1, .int .i64 3, .int .i64 0, .int .i64 0, .int .i64 0, .int .i64 0] : List Value) 4 [.int .i64 0, .int .i64 3] = [.int .i64 0, .int .i64 2, .int .i64 1, .int .i64 3, .int .i64 0, .int .i64 3, .int .i64 0, .int .i64 0] := rfl
  have sp3 : splice ([.int .i64 0, .int .i64 2, .int .i64 1, .int .i64 3, .int .i64 0, .int .i64 3, .int .i64 0, .int .i64 0] : List Value) 6 [.int .i64 1, .int .i64 2] = [.int .i64 0, .int .i64 2, .int .i64 1, .int .i64 3, .int .i64 0, .int .i64 3, .int .i64 1, .int .i64 2] := rfl
  refine ACalls.wf (by kernel_rfl) fun hs => acalls_of_awp [.tmp 4] Try.func117 (by kernel_rfl) rfl rfl (Nat.le_of_ble_eq_true rfl) (by kernel_rfl) ?_
  have e1 : ((2 : Int) == 1) = false := rfl
  have e1' : ((2 : Int) == 2) = true := rfl
  try simp (disch := first | omega | (simp only [ints_length, List.length_replicate, List.length_set] <;> omega)) only [Sall,evalOp,init,binE,binI,unE,convE,okNil,builtE,gv,TD.isAgg,resV,↓reduceIte,Nat.reduceEqDiff,reduceCtorEq,Nat.reduceAdd,Nat.reduceMul,Nat.reduceLeDiff,quietOp,blindOp,Int.reduceEq,Int.reduceLT,Int.reduceLE,Nat.reduceLT,tiA, hone, slCells, zz, sp0, sp1, sp2, sp3, e1, e1', sliceE, Option.getD_none, Option.getD_some, Option.isSome_none, Option.isSome_some]
  obtain ⟨H2, e2⟩ : ∃ H2, H2 = (H.push ⟨65, true, [.int .i64 n, u]⟩).push ⟨165, true, [.int .i64 0, .int .i64 2, .int .i64 1, .int .i64 3, .int .i64 0, .int .i64 3, .int .i64 1, .int .i64 2]⟩ := ⟨_, rfl⟩
  have up2 : Up H.next H H2 := by rw [e2]; exact ((Up.refl _ H).push (Nat.le_refl _) _).push (by simp only [AH.push_next]; omega) _
  have r2 : H2.row (H.next + 1) = some ⟨165, true, [.int .i64 0, .int .i64 2, .int .i64 1, .int .i64 3, .int .i64 0, .int .i64 3, .int .i64 1, .int .i64 2]⟩ := by rw [e2, AH.push_row, AH.push_next, if_pos rfl]
  have n2 : H2.next = H.next + 2 := by rw [e2]; rfl
  rw [← e2]
  clear e2
  refine ⟨by decide, ?_⟩
  refine (together_c n hn u R (.slice (some ⟨H.next + 1, 4, some 2⟩) 2 2) w2L H2 (hu.same (up2.le hs).row) ⟨rfl, .inr ⟨H.next + 1, 4, _, _, _, rfl, r2, by decide, rfl⟩⟩ (by decide) (by decide) hR.1 hR.2).mono ?_
  rintro r H3 ⟨up3, f3⟩
  have n3 := up3.next
  have ho := f3.rd.one
  refine Holds.mp ?_
  try simp (disch := first | omega | (simp only [ints_length, List.length_replicate, List.length_set] <;> omega)) only [Sall,evalOp,init,binE,binI,unE,convE,okNil,builtE,gv,TD.isAgg,resV,↓reduceIte,Nat.reduceEqDiff,reduceCtorEq,Nat.reduceAdd,Nat.reduceMul,Nat.reduceLeDiff,quietOp,blindOp,Int.reduceEq,Int.reduceLT,Int.reduceLE,Nat.reduceLT,tiA, ho]
  exact ⟨up2.trans up3 (by omega), f3.wide (by omega) (Nat.le_refl _)⟩

theorem opponentsK_c (n : Nat) (hn : 1 ≤ n ∧ n ≤ 16) (u : Value) (R : List (List Int)) (kind : Int) (hk : 0 ≤ kind ∧ kind ≤ 2) (H : AH) (hu : Rd2 1 H u R) (hR : EvOk n R) :
    ACalls Try.prog 117 [.agg #[.int .i64 n, u], .int .i64 kind] H (fun r H' => Up H.next H H' ∧ Fr2 1 38 2 H.next H'.next H' r (tabM n (wK kind) R)) := by
  have h : kind = 0 ∨ kind = 1 ∨ kind = 2 := by omega
  rcases h with rfl | rfl | rfl
  · exact opponents0_c n hn u R H hu hR
  · exact opponents1_c n hn u R H hu hR
  · exact opponents2_c n hn u R H hu hR

theorem OpponentsIn_c (q : Int) (v : Value) (R : List (List Int)) (kind : Int) (H : AH) (hv : Rd2 1 H v R) (hl : R.length ≤ 4194304) (hl2 : ∀ r ∈ R, r.length ≤ 4194304) :
    ACalls Try.prog 40 [.agg #[.int .i64 q, v], .int .i64 kind] H (fun r H' => ∃ u, r = .tuple #[u, .int .i64 (oiC q R kind)] ∧ Ow H H' [.sl2 (Value.int .i64) 38 2 u (oiL q R kind)]) := by
  refine ACalls.wf (by kernel_rfl) fun hs => acalls_of_awp [.tmp 4, .tmp 5] Try.func40 (by kernel_rfl) rfl rfl (Nat.le_of_ble_eq_true rfl) (by kernel_rfl) ?_
  have hone := hv.one
  have o1 := (Ow.refl hs).push ⟨65, true, [.int .i64 q, v]⟩
  try simp (disch := first | omega | (simp only [ints_length, List.length_replicate, List.length_set] <;> omega)) only [Sall,evalOp,init,binE,binI,unE,convE,okNil,builtE,gv,TD.isAgg,resV,↓reduceIte,Nat.reduceEqDiff,reduceCtorEq,Nat.reduceAdd,Nat.reduceMul,Nat.reduceLeDiff,quietOp,blindOp,Int.reduceEq,Int.reduceLT,Int.reduceLE,Nat.reduceLT,tiA,tiXA, hone]
  obtain ⟨pi, epi⟩ : ∃ pi, pi = H.next := ⟨_, rfl⟩
  rw [← epi] at o1 ⊢
  generalize H.push ⟨65, true, [.int .i64 q, v]⟩ = H1 at o1 ⊢
  have hv1 := hv.same (o1.old hs)
  have g0 := (o1.rowAt 0 rfl).1
  refine draw_id (by kernel_rfl) (by kernel_rfl) ?_
  try simp (disch := first | omega | (simp only [ints_length, List.length_replicate, List.length_set] <;> omega)) only [Sall,evalOp,init,binE,binI,unE,convE,okNil,builtE,gv,TD.isAgg,resV,↓reduceIte,Nat.reduceEqDiff,reduceCtorEq,Nat.reduceAdd,Nat.reduceMul,Nat.reduceLeDiff,quietOp,blindOp,Int.reduceEq,Int.reduceLT,Int.reduceLE,Nat.reduceLT,tiA,tiXA, g0, hone]
  refine (between_c _ _ _ _).to ?_
  refine ⟨.inr (.inr (LE.refl _)), ?_⟩
  refine (eveningCode_c q v R _ H1 hv1 hl hl2).to ?_
  refine ⟨.inr (.inr (LE.refl _)), ?_⟩
  unfold oiC oiL
  refine Holds.mp ?_
  obtain hE | hE : evB q R = true ∨ evB q R = false := by cases evB q R <;> simp
  · rw [if_pos hE]
    obtain ⟨n, rfl, h4, h16, h20, hall⟩ := evB_at hE
    have hEv : EvOk n R := ⟨h20, fun i hi => ⟨(hall i hi).2.1, (hall i hi).2.2.1⟩⟩
    by_cases hk : 0 ≤ kind ∧ kind ≤ 2
    · rw [if_pos (decide_eq_true hk), if_pos ⟨hE, hk⟩, Int.toNat_natCast]
      try simp (disch := first | omega | (simp only [ints_length, List.length_replicate, List.length_set] <;> omega)) only [Sall,evalOp,init,binE,binI,unE,convE,okNil,builtE,gv,TD.isAgg,resV,↓reduceIte,Nat.reduceEqDiff,reduceCtorEq,Nat.reduceAdd,Nat.reduceMul,Nat.reduceLeDiff,quietOp,blindOp,Int.reduceEq,Int.reduceLT,Int.reduceLE,Nat.reduceLT,tiA,tiXA, bne_self_eq_false, g0]
      refine (ACalls.sc (opponentsK_c n (by omega) v R kind hk H1 hv1 hEv)).mono ?_
      rintro u H2 ⟨⟨up2, f2⟩, sc2⟩
      have ho := f2.rd.one
      have o2 := o1.call (Ow.of_fr2 up2 sc2 f2)
      refine Holds.mp ?_
      try simp (disch := first | omega | (simp only [ints_length, List.length_replicate, List.length_set] <;> omega)) only [Sall,evalOp,init,binE,binI,unE,convE,okNil,builtE,gv,TD.isAgg,resV,↓reduceIte,Nat.reduceEqDiff,reduceCtorEq,Nat.reduceAdd,Nat.reduceMul,Nat.reduceLeDiff,quietOp,blindOp,Int.reduceEq,Int.reduceLT,Int.reduceLE,Nat.reduceLT,tiA,tiXA, ho]
      exact ⟨u, rfl, o2.only 1 rfl⟩
    · rw [if_neg (by rw [decide_eq_false hk]; simp), if_neg (fun h => hk h.2)]
      have e2 : ((2 : Int) != 0) = true := rfl
      try simp (disch := first | omega | (simp only [ints_length, List.length_replicate, List.length_set] <;> omega)) only [Sall,evalOp,init,binE,binI,unE,convE,okNil,builtE,gv,TD.isAgg,resV,↓reduceIte,Nat.reduceEqDiff,reduceCtorEq,Nat.reduceAdd,Nat.reduceMul,Nat.reduceLeDiff,quietOp,blindOp,Int.reduceEq,Int.reduceLT,Int.reduceLE,Nat.reduceLT,tiA,tiXA, e2]
      exact ⟨_, rfl, Ow.add (Ow.left (L := []) o1) _ (Nat.le_refl _) o1.sc (fun _ _ => rfl) fun S hS => .inl ⟨rfl, rfl⟩⟩
  · rw [if_neg (by rw [hE]; simp), if_neg (fun h => by rw [hE] at h; simp at h)]
    have e2 : ((1 : Int) != 0) = true := rfl
    try simp (disch := first | omega | (simp only [ints_length, List.length_replicate, List.length_set] <;> omega)) only [Sall,evalOp,init,binE,binI,unE,convE,okNil,builtE,gv,TD.isAgg,resV,↓reduceIte,Nat.reduceEqDiff,reduceCtorEq,Nat.reduceAdd,Nat.reduceMul,Nat.reduceLeDiff,quietOp,blindOp,Int.reduceEq,Int.reduceLT,Int.reduceLE,Nat.reduceLT,tiA,tiXA, e2]
    exact ⟨_, rfl, Ow.add (Ow.left (L := []) o1) _ (Nat.le_refl _) o1.sc (fun _ _ => rfl) fun S hS => .inl ⟨rfl, rfl⟩⟩

theorem specOpponentsIn_c (q : Int) (v : Value) (R : List (List Int)) (kind : Int) (H : AH) (hv : Rd2 1 H v R) (hl : R.length ≤ 4194304) (hl2 : ∀ r ∈ R, r.length ≤ 4194304) :
    ACalls Try.prog 41 [.agg #[.int .i64 q, v], .int .i64 kind] H (fun r H' => ∃ u, r = .tuple #[u, .int .i64 (oiC q R kind)] ∧ Ow H H' [.sl2 (Value.int .i64) 38 2 u (oiL q R kind)]) := by
  refine ACalls.wf (by kernel_rfl) fun hs => acalls_of_awp [.tmp 4, .tmp 5] Try.func41 (by kernel_rfl) rfl rfl (Nat.le_of_ble_eq_true rfl) (by kernel_rfl) ?_
  have hone := hv.one
  have o1 := (Ow.refl hs).push ⟨65, true, [.int .i64 q, v]⟩
  try simp (disch := first | omega | (simp only [ints_length, List.length_replicate, List.length_set] <;> omega)) only [Sall,evalOp,init,binE,binI,unE,convE,okNil,builtE,gv,TD.isAgg,resV,↓reduceIte,Nat.reduceEqDiff,reduceCtorEq,Nat.reduceAdd,Nat.reduceMul,Nat.reduceLeDiff,quietOp,blindOp,Int.reduceEq,Int.reduceLT,Int.reduceLE,Nat.reduceLT,tiA,tiXA, hone]
  obtain ⟨pi, epi⟩ : ∃ pi, pi = H.next := ⟨_, rfl⟩
  rw [← epi] at o1 ⊢
  generalize H.push ⟨65, true, [.int .i64 q, v]⟩ = H1 at o1 ⊢
  have hv1 := hv.same (o1.old hs)
  have g0 := (o1.rowAt 0 rfl).1
  try simp (disch := first | omega | (simp only [ints_length, List.length_replicate, List.length_set] <;> omega)) only [Sall,evalOp,init,binE,binI,unE,convE,okNil,builtE,gv,TD.isAgg,resV,↓reduceIte,Nat.reduceEqDiff,reduceCtorEq,Nat.reduceAdd,Nat.reduceMul,Nat.reduceLeDiff,quietOp,blindOp,Int.reduceEq,Int.reduceLT,Int.reduceLE,Nat.reduceLT,tiA,tiXA, g0, hone]
  refine (l06Is_c q v R H1 hv1 hl hl2).to ?_
  unfold oiC oiL
  refine Holds.mp ?_
  obtain hE | hE : evB q R = true ∨ evB q R = false := by cases evB q R <;> simp
  · rw [if_pos hE]
    obtain ⟨n, rfl, h4, h16, h20, hall⟩ := evB_at hE
    have hEv : EvOk n R := ⟨h20, fun i hi => ⟨(hall i hi).2.1, (hall i hi).2.2.1⟩⟩
    have hR4 : ∀ i, i < R.length → (R.getD i []).length % 4 = 0 := fun i hi => (hall i hi).1
    have fin : ∀ (kind : Int) (hk : 0 ≤ kind ∧ kind ≤ 2) (us : List Nat) (hw : wayOk us (wK kind)) (_ : us.length ≤ 4) (_ : 0 < us.length) (_ : ∀ w ∈ us, w < 4), ACalls Try.prog 119 [.agg #[.int .i64 n, v], .slice (some ⟨H1.next, 0, some 1⟩) us.length us.length] (H1.push ⟨3, true, ints (us.map fun (w : Nat) => (w : Int))⟩) (fun r H' => Ow H H' [.sl2 (Value.int .i64) 38 2 r (tabM n (wK kind) R)]) := fun kind hk us hw h1 h2 h3 => by
      have o2 := o1.pushSl (k := 1) (n := us.length) (ty := 3) (vs := ints (us.map fun (w : Nat) => (w : Int))) (by rw [ints_length, List.length_map, Nat.mul_one])
      refine (ACalls.sc (l06Table_c n (by omega) v R _ us (wK kind) hw _ (hv.same (o2.old hs)) (o2.rd 1 rfl) h3 h1 hEv hR4)).mono ?_
      rintro r H' ⟨⟨up2, f2⟩, sc2⟩
      exact (o2.call (Ow.of_fr2 up2 sc2 f2)).only 2 rfl
    have z1 : zeros 1 [.int .i64 0] = [.int .i64 0] := rfl
    have z2 : zeros 2 [.int .i64 0] = [.int .i64 0, .int .i64 0] := rfl
    by_cases hk : 0 ≤ kind ∧ kind ≤ 2
    · rw [if_pos (decide_eq_true hk), if_pos ⟨hE, hk⟩, Int.toNat_natCast]
      have h : kind = 0 ∨ kind = 1 ∨ kind = 2 := by omega
      rcases h with rfl | rfl | rfl
      · have e0 : ((0 : Int) == 0) = true := rfl
        try simp (disch := first | omega | (simp only [ints_length, List.length_replicate, List.length_set] <;> omega)) only [Sall,evalOp,init,binE,binI,unE,convE,okNil,builtE,gv,TD.isAgg,resV,↓reduceIte,Nat.reduceEqDiff,reduceCtorEq,Nat.reduceAdd,Nat.reduceMul,Nat.reduceLeDiff,quietOp,blindOp,Int.reduceEq,Int.reduceLT,Int.reduceLE,Nat.reduceLT,tiA,tiXA, g0, e0, hone, hE, Bool.not_true, slCells, z2]
        refine (fin 0 hk [2, 3] way23 (by decide) (by decide) (by decide)).mono ?_
        rintro u H2 o2
        have ho := (o2.rd2 0 rfl).one
        refine Holds.mp ?_
        try simp (disch := first | omega | (simp only [ints_length, List.length_replicate, List.length_set] <;> omega)) only [Sall,evalOp,init,binE,binI,unE,convE,okNil,builtE,gv,TD.isAgg,resV,↓reduceIte,Nat.reduceEqDiff,reduceCtorEq,Nat.reduceAdd,Nat.reduceMul,Nat.reduceLeDiff,quietOp,blindOp,Int.reduceEq,Int.reduceLT,Int.reduceLE,Nat.reduceLT,tiA,tiXA, ho]
        exact ⟨u, rfl, o2⟩
      · have e0 : ((1 : Int) == 0) = false := rfl
        have e1 : ((1 : Int) == 1) = true := rfl
        try simp (disch := first | omega | (simp only [ints_length, List.length_replicate, List.length_set] <;> omega)) only [Sall,evalOp,init,binE,binI,unE,convE,okNil,builtE,gv,TD.isAgg,resV,↓reduceIte,Nat.reduceEqDiff,reduceCtorEq,Nat.reduceAdd,Nat.reduceMul,Nat.reduceLeDiff,quietOp,blindOp,Int.reduceEq,Int.reduceLT,Int.reduceLE,Nat.reduceLT,tiA,tiXA, g0, e0, e1, hone, hE, Bool.not_true, slCells, z1]
        refine (fin 1 hk [2] way2 (by decide) (by decide) (by decide)).mono ?_
        rintro u H2 o2
        have ho := (o2.rd2 0 rfl).one
        refine Holds.mp ?_
        try simp (disch := first | omega | (simp only [ints_length, List.length_replicate, List.length_set] <;> omega)) only [Sall,evalOp,init,binE,binI,unE,convE,okNil,builtE,gv,TD.isAgg,resV,↓reduceIte,Nat.reduceEqDiff,reduceCtorEq,Nat.reduceAdd,Nat.reduceMul,Nat.reduceLeDiff,quietOp,blindOp,Int.reduceEq,Int.reduceLT,Int.reduceLE,Nat.reduceLT,tiA,tiXA, ho]
        exact ⟨u, rfl, o2⟩
      · have e0 : ((2 : Int) == 0) = false := rfl
        have e1 : ((2 : Int) == 1) = false := rfl
        have e2 : ((2 : Int) == 2) = true := rfl
        try simp (disch := first | omega | (simp only [ints_length, List.length_replicate, List.length_set] <;> omega)) only [Sall,evalOp,init,binE,binI,unE,convE,okNil,builtE,gv,TD.isAgg,resV,↓reduceIte,Nat.reduceEqDiff,reduceCtorEq,Nat.reduceAdd,Nat.reduceMul,Nat.reduceLeDiff,quietOp,blindOp,Int.reduceEq,Int.reduceLT,Int.reduceLE,Nat.reduceLT,tiA,tiXA, g0, e0, e1, e2, hone, hE, Bool.not_true, slCells, z1]
        refine (fin 2 hk [3] way3 (by decide) (by decide) (by decide)).mono ?_
        rintro u H2 o2
        have ho := (o2.rd2 0 rfl).one
        refine Holds.mp ?_
        try simp (disch := first | omega | (simp only [ints_length, List.length_replicate, List.length_set] <;> omega)) only [Sall,evalOp,init,binE,binI,unE,convE,okNil,builtE,gv,TD.isAgg,resV,↓reduceIte,Nat.reduceEqDiff,reduceCtorEq,Nat.reduceAdd,Nat.reduceMul,Nat.reduceLeDiff,quietOp,blindOp,Int.reduceEq,Int.reduceLT,Int.reduceLE,Nat.reduceLT,tiA,tiXA, ho]
        exact ⟨u, rfl, o2⟩
    · rw [if_neg (by rw [decide_eq_false hk]; simp), if_neg (fun h => hk h.2)]
      have e0 : (kind == 0) = false := beq_eq_false_iff_ne.2 (by omega)
      have e1 : (kind == 1) = false := beq_eq_false_iff_ne.2 (by omega)
      have e2 : (kind == 2) = false := beq_eq_false_iff_ne.2 (by omega)
      try simp (disch := first | omega | (simp only [ints_length, List.length_replicate, List.length_set] <;> omega)) only [Sall,evalOp,init,binE,binI,unE,convE,okNil,builtE,gv,TD.isAgg,resV,↓reduceIte,Nat.reduceEqDiff,reduceCtorEq,Nat.reduceAdd,Nat.reduceMul,Nat.reduceLeDiff,quietOp,blindOp,Int.reduceEq,Int.reduceLT,Int.reduceLE,Nat.reduceLT,tiA,tiXA, e0, e1, e2, hE, Bool.not_true]
      exact ⟨_, rfl, Ow.add (Ow.left (L := []) o1) _ (Nat.le_refl _) o1.sc (fun _ _ => rfl) fun S hS => .inl ⟨rfl, rfl⟩⟩
  · rw [if_neg (by rw [hE]; simp), if_neg (fun h => by rw [hE] at h; simp at h)]
    try simp (disch := first | omega | (simp only [ints_length, List.length_replicate, List.length_set] <;> omega)) only [Sall,evalOp,init,binE,binI,unE,convE,okNil,builtE,gv,TD.isAgg,resV,↓reduceIte,Nat.reduceEqDiff,reduceCtorEq,Nat.reduceAdd,Nat.reduceMul,Nat.reduceLeDiff,quietOp,blindOp,Int.reduceEq,Int.reduceLT,Int.reduceLE,Nat.reduceLT,tiA,tiXA, hE, Bool.not_false]
    exact ⟨_, rfl, Ow.add (Ow.left (L := []) o1) _ (Nat.le_refl _) o1.sc (fun _ _ => rfl) fun S hS => .inl ⟨rfl, rfl⟩⟩

theorem SittingOut_c (q : Int) (v : Value) (R : List (List Int)) (a : Int) (H : AH) (ha : -9223372036854775808 ≤ a ∧ a ≤ 9223372036854775807) (hv : Rd2 1 H v R) (hl : R.length ≤ 4194304) (hl2 : ∀ r ∈ R, r.length ≤ 4194304) :
    ACalls Try.prog 46 [.agg #[.int .i64 q, v], .int .i64 a] H (fun r H' => ∃ u, r = .tuple #[u, .int .i64 (soC q R a)] ∧ Ow H H' [.sl 1 2 u (soL q R a).length (ints (soL q R a))]) := by
  refine ACalls.wf (by kernel_rfl) fun hs => acalls_of_awp [.tmp 4, .tmp 5] Try.func46 (by kernel_rfl) rfl rfl (Nat.le_of_ble_eq_true rfl) (by kernel_rfl) ?_
  have hone := hv.one
  have o1 := (Ow.refl hs).push ⟨65, true, [.int .i64 q, v]⟩
  try simp (disch := first | omega | (simp only [ints_length, List.length_replicate, List.length_set] <;> omega)) only [Sall,evalOp,init,binE,binI,unE,convE,okNil,builtE,gv,TD.isAgg,resV,↓reduceIte,Nat.reduceEqDiff,reduceCtorEq,Nat.reduceAdd,Nat.reduceMul,Nat.reduceLeDiff,quietOp,blindOp,Int.reduceEq,Int.reduceLT,Int.reduceLE,Nat.reduceLT,tiA,tiXA, hone]
  obtain ⟨pi, epi⟩ : ∃ pi, pi = H.next := ⟨_, rfl⟩
  rw [← epi] at o1 ⊢
  generalize H.push ⟨65, true, [.int .i64 q, v]⟩ = H1 at o1 ⊢
  have hv1 := hv.same (o1.old hs)
  have g0 := (o1.rowAt 0 rfl).1
  refine draw_id (by kernel_rfl) (by kernel_rfl) ?_
  try simp (disch := first | omega | (simp only [ints_length, List.length_replicate, List.length_set] <;> omega)) only [Sall,evalOp,init,binE,binI,unE,convE,okNil,builtE,gv,TD.isAgg,resV,↓reduceIte,Nat.reduceEqDiff,reduceCtorEq,Nat.reduceAdd,Nat.reduceMul,Nat.reduceLeDiff,quietOp,blindOp,Int.reduceEq,Int.reduceLT,Int.reduceLE,Nat.reduceLT,tiA,tiXA, g0, hone]
  refine (sizeLL_c v R H1 hv1 (by omega)).to ?_
  refine ⟨.inr (.inr (LE.refl _)), ?_⟩
  try simp (disch := first | omega | (simp only [ints_length, List.length_replicate, List.length_set] <;> omega)) only [Sall,evalOp,init,binE,binI,unE,convE,okNil,builtE,gv,TD.isAgg,resV,↓reduceIte,Nat.reduceEqDiff,reduceCtorEq,Nat.reduceAdd,Nat.reduceMul,Nat.reduceLeDiff,quietOp,blindOp,Int.reduceEq,Int.reduceLT,Int.reduceLE,Nat.reduceLT,tiA,tiXA, w64]
  refine (between_c _ _ _ _).to ?_
  refine ⟨.inr (.inr (LE.refl _)), ?_⟩
  refine (eveningCode_c q v R _ H1 hv1 hl hl2).to ?_
  refine ⟨.inr (.inr (LE.refl _)), ?_⟩
  unfold soC soL
  refine Holds.mp ?_
  obtain hE | hE : evB q R = true ∨ evB q R = false := by cases evB q R <;> simp
  · rw [if_pos hE]
    obtain ⟨n, rfl, h4, h16, h20, hall⟩ := evB_at hE
    by_cases hk : 0 ≤ a ∧ a ≤ (R.length : Int) - 1
    · rw [if_pos (decide_eq_true hk), if_pos ⟨hE, hk⟩, Int.toNat_natCast]
      obtain ⟨j, rfl⟩ : ∃ j : Nat, a = j := ⟨a.toNat, by omega⟩
      rw [Int.toNat_natCast]
      have npi : ¬ pi = H1.next := by have := (o1.rowAt 0 rfl).2.2; omega
      try simp (disch := first | omega | (simp only [ints_length, List.length_replicate, List.length_set] <;> omega)) only [Sall,evalOp,init,binE,binI,unE,convE,okNil,builtE,gv,TD.isAgg,resV,↓reduceIte,Nat.reduceEqDiff,reduceCtorEq,Nat.reduceAdd,Nat.reduceMul,Nat.reduceLeDiff,quietOp,blindOp,Int.reduceEq,Int.reduceLT,Int.reduceLE,Nat.reduceLT,tiA,tiXA, bne_self_eq_false, g0, npi]
      have o2 := o1.pushSl (k := 1) (n := 0) (ty := 2) (vs := ints []) rfl
      refine awp_loop (fun z t H' => ∃ (b : Nat) (w : Value), z = n - b ∧ b ≤ n ∧ t 23 = .int .i64 b ∧ t 22 = .int .i64 n ∧ t 1 = .int .i64 j ∧ t 2 = .pointer (some ⟨pi, 0, none⟩) ∧ t 7 = w ∧ Ow H H' [.row pi ⟨65, true, [.int .i64 n, v]⟩, .sl 1 2 w (sitL (R.getD j []) b).length (ints (sitL (R.getD j []) b))]) n ?_ ?_
      · refine ⟨0, .slice (some ⟨H1.next, 0, some 1⟩) 0 0, by omega, by omega, ?_⟩
        try simp (disch := first | omega | (simp only [ints_length, List.length_replicate, List.length_set] <;> omega)) only [Sall,evalOp,init,binE,binI,unE,convE,okNil,builtE,gv,TD.isAgg,resV,↓reduceIte,Nat.reduceEqDiff,reduceCtorEq,Nat.reduceAdd,Nat.reduceMul,Nat.reduceLeDiff,quietOp,blindOp,Int.reduceEq,Int.reduceLT,Int.reduceLE,Nat.reduceLT,tiA,tiXA, Int.natCast_zero]
        exact o2
      · rintro z t H2 ⟨b, w, hz, hb, h23, h22, h1, h2, h7, o3⟩
        try simp (disch := first | omega | (simp only [ints_length, List.length_replicate, List.length_set] <;> omega)) only [Sall,evalOp,init,binE,binI,unE,convE,okNil,builtE,gv,TD.isAgg,resV,↓reduceIte,Nat.reduceEqDiff,reduceCtorEq,Nat.reduceAdd,Nat.reduceMul,Nat.reduceLeDiff,quietOp,blindOp,Int.reduceEq,Int.reduceLT,Int.reduceLE,Nat.reduceLT,tiA,tiXA, h23, h22]
        refine condC_dec (fun hh => ?_) (fun hh => ?_)
        · have g0 := (o3.rowAt 0 rfl).1
          have hv3 := hv.same (o3.old hs)
          obtain ⟨xi, xo, xuu, xc, xr, y, my, ex, hxr, hy, hsx, hok⟩ := hv3.get (j := j) (by omega)
          have hmm := hsx.lenK1
          subst hmm
          have hw := o3.one 1 rfl
          try simp (disch := first | omega | (simp only [ints_length, List.length_replicate, List.length_set] <;> omega)) only [Sall,evalOp,init,binE,binI,unE,convE,okNil,builtE,gv,TD.isAgg,resV,↓reduceIte,Nat.reduceEqDiff,reduceCtorEq,Nat.reduceAdd,Nat.reduceMul,Nat.reduceLeDiff,quietOp,blindOp,Int.reduceEq,Int.reduceLT,Int.reduceLE,Nat.reduceLT,tiA,tiXA, h23, h22, h1, h2, h7, g0, ex, hxr, hy, hok]
          (repeat refine And.intro (by omega) ?_)
          refine (containsI_c y _ (b : Int) H2 hsx (by have := (hall j (by omega)).2.1; omega)).to ?_
          refine Holds.mp ?_
          cases hct : (R.getD j []).contains (b : Int) with
          | true =>
            try simp (disch := first | omega | (simp only [ints_length, List.length_replicate, List.length_set] <;> omega)) only [Sall,evalOp,init,binE,binI,unE,convE,okNil,builtE,gv,TD.isAgg,resV,↓reduceIte,Nat.reduceEqDiff,reduceCtorEq,Nat.reduceAdd,Nat.reduceMul,Nat.reduceLeDiff,quietOp,blindOp,Int.reduceEq,Int.reduceLT,Int.reduceLE,Nat.reduceLT,tiA,tiXA, h23, h22, h1, h2, h7, hw, Bool.not_true, w64]
            refine ⟨n - (b + 1), by omega, b + 1, w, rfl, by omega, by omega, rfl, ?_⟩
            rw [sitL_yes hct]; exact o3
          | false =>
            have hln := sitL_len (R.getD j []) b
            have zz : zeros 1 [.int .i64 0] = [.int .i64 0] := rfl
            try simp (disch := first | omega | (simp only [ints_length, List.length_replicate, List.length_set] <;> omega)) only [Sall,evalOp,init,binE,binI,unE,convE,okNil,builtE,gv,TD.isAgg,resV,↓reduceIte,Nat.reduceEqDiff,reduceCtorEq,Nat.reduceAdd,Nat.reduceMul,Nat.reduceLeDiff,quietOp,blindOp,Int.reduceEq,Int.reduceLT,Int.reduceLE,Nat.reduceLT,tiA,tiXA, h23, h22, h1, h2, h7, hw, Bool.not_false, w64, zz, slCells]
            (repeat refine And.intro (by omega) ?_)
            refine (o3.tmp ⟨2, true, [.int .i64 b]⟩).app 1 rfl rfl (by omega) rfl (by omega) (by decide) (by omega) ?_
            intro v' H4 n4 o4
            try simp (disch := first | omega | (simp only [ints_length, List.length_replicate, List.length_set] <;> omega)) only [Sall,evalOp,init,binE,binI,unE,convE,okNil,builtE,gv,TD.isAgg,resV,↓reduceIte,Nat.reduceEqDiff,reduceCtorEq,Nat.reduceAdd,Nat.reduceMul,Nat.reduceLeDiff,quietOp,blindOp,Int.reduceEq,Int.reduceLT,Int.reduceLE,Nat.reduceLT,tiA,tiXA, h23, h22, h1, h2, h7, w64]
            exact ⟨n - (b + 1), by omega, b + 1, v', rfl, by omega, by omega, rfl, by rw [sitL_no hct, List.length_append, ← ints_append]; exact o4⟩
        · obtain rfl : b = n := by omega
          have hw := o3.one 1 rfl
          try simp (disch := first | omega | (simp only [ints_length, List.length_replicate, List.length_set] <;> omega)) only [Sall,evalOp,init,binE,binI,unE,convE,okNil,builtE,gv,TD.isAgg,resV,↓reduceIte,Nat.reduceEqDiff,reduceCtorEq,Nat.reduceAdd,Nat.reduceMul,Nat.reduceLeDiff,quietOp,blindOp,Int.reduceEq,Int.reduceLT,Int.reduceLE,Nat.reduceLT,tiA,tiXA, h7, hw]
          exact ⟨w, rfl, o3.only 1 rfl⟩
    · rw [if_neg (by rw [decide_eq_false hk]; simp), if_neg (fun h => hk h.2)]
      have e2 : ((2 : Int) != 0) = true := rfl
      try simp (disch := first | omega | (simp only [ints_length, List.length_replicate, List.length_set] <;> omega)) only [Sall,evalOp,init,binE,binI,unE,convE,okNil,builtE,gv,TD.isAgg,resV,↓reduceIte,Nat.reduceEqDiff,reduceCtorEq,Nat.reduceAdd,Nat.reduceMul,Nat.reduceLeDiff,quietOp,blindOp,Int.reduceEq,Int.reduceLT,Int.reduceLE,Nat.reduceLT,tiA,tiXA, e2]
      exact ⟨_, rfl, Ow.add (Ow.left (L := []) o1) _ (Nat.le_refl _) o1.sc (fun _ _ => rfl) fun S hS => ⟨rfl, .inl ⟨rfl, rfl⟩⟩⟩
  · rw [if_neg (by rw [hE]; simp), if_neg (fun h => by rw [hE] at h; simp at h)]
    have e2 : ((1 : Int) != 0) = true := rfl
    try simp (disch := first | omega | (simp only [ints_length, List.length_replicate, List.length_set] <;> omega)) only [Sall,evalOp,init,binE,binI,unE,convE,okNil,builtE,gv,TD.isAgg,resV,↓reduceIte,Nat.reduceEqDiff,reduceCtorEq,Nat.reduceAdd,Nat.reduceMul,Nat.reduceLeDiff,quietOp,blindOp,Int.reduceEq,Int.reduceLT,Int.reduceLE,Nat.reduceLT,tiA,tiXA, e2]
    exact ⟨_, rfl, Ow.add (Ow.left (L := []) o1) _ (Nat.le_refl _) o1.sc (fun _ _ => rfl) fun S hS => ⟨rfl, .inl ⟨rfl, rfl⟩⟩⟩

theorem specSittingOut_c (q : Int) (v : Value) (R : List (List Int)) (a : Int) (H : AH) (ha : -9223372036854775808 ≤ a ∧ a ≤ 9223372036854775807) (hv : Rd2 1 H v R) (hl : R.length ≤ 4194304) (hl2 : ∀ r ∈ R, r.length ≤ 4194304) :
    ACalls Try.prog 47 [.agg #[.int .i64 q, v], .int .i64 a] H (fun r H' => ∃ u, r = .tuple #[u, .int .i64 (soC q R a)] ∧ Ow H H' [.sl 1 2 u (soL q R a).length (ints (soL q R a))]) := by
  refine ACalls.wf (by kernel_rfl) fun hs => acalls_of_awp [.tmp 4, .tmp 5] Try.func47 (by kernel_rfl) rfl rfl (Nat.le_of_ble_eq_true rfl) (by kernel_rfl) ?_
  have hone := hv.one
  have o1 := (Ow.refl hs).push ⟨65, true, [.int .i64 q, v]⟩
  try simp (disch := first | omega | (simp only [ints_length, List.length_replicate, List.length_set] <;> omega)) only [Sall,evalOp,init,binE,binI,unE,convE,okNil,builtE,gv,TD.isAgg,resV,↓reduceIte,Nat.reduceEqDiff,reduceCtorEq,Nat.reduceAdd,Nat.reduceMul,Nat.reduceLeDiff,quietOp,blindOp,Int.reduceEq,Int.reduceLT,Int.reduceLE,Nat.reduceLT,tiA,tiXA, hone]
  obtain ⟨pi, epi⟩ : ∃ pi, pi = H.next := ⟨_, rfl⟩
  rw [← epi] at o1 ⊢
  generalize H.push ⟨65, true, [.int .i64 q, v]⟩ = H1 at o1 ⊢
  have hv1 := hv.same (o1.old hs)
  have hvl := hv1.len
  have g0 := (o1.rowAt 0 rfl).1
  try simp (disch := first | omega | (simp only [ints_length, List.length_replicate, List.length_set] <;> omega)) only [Sall,evalOp,init,binE,binI,unE,convE,okNil,builtE,gv,TD.isAgg,resV,↓reduceIte,Nat.reduceEqDiff,reduceCtorEq,Nat.reduceAdd,Nat.reduceMul,Nat.reduceLeDiff,quietOp,blindOp,Int.reduceEq,Int.reduceLT,Int.reduceLE,Nat.reduceLT,tiA,tiXA, g0, hone]
  refine (l06Is_c q v R H1 hv1 hl hl2).to ?_
  unfold soC soL
  refine Holds.mp ?_
  obtain hE | hE : evB q R = true ∨ evB q R = false := by cases evB q R <;> simp
  · rw [if_pos hE]
    obtain ⟨n, rfl, h4, h16, h20, hall⟩ := evB_at hE
    try simp (disch := first | omega | (simp only [ints_length, List.length_replicate, List.length_set] <;> omega)) only [Sall,evalOp,init,binE,binI,unE,convE,okNil,builtE,gv,TD.isAgg,resV,↓reduceIte,Nat.reduceEqDiff,reduceCtorEq,Nat.reduceAdd,Nat.reduceMul,Nat.reduceLeDiff,quietOp,blindOp,Int.reduceEq,Int.reduceLT,Int.reduceLE,Nat.reduceLT,tiA,tiXA, hE, Bool.not_true, g0, hone, builtE, hvl, w64]
    refine (l01In_c _ _ _ _).to ?_
    refine Holds.mp ?_
    by_cases hk : 0 ≤ a ∧ a ≤ (R.length : Int) - 1
    · rw [if_pos (decide_eq_true hk), if_pos ⟨hE, hk⟩, Int.toNat_natCast]
      have dk := decide_eq_true hk
      obtain ⟨j, rfl⟩ : ∃ j : Nat, a = j := ⟨a.toNat, by omega⟩
      rw [Int.toNat_natCast]
      have npi : ¬ pi = H1.next := by have := (o1.rowAt 0 rfl).2.2; omega
      have npi2 : ¬ pi = H1.next + 1 := by have := (o1.rowAt 0 rfl).2.2; omega
      try simp (disch := first | omega | (simp only [ints_length, List.length_replicate, List.length_set] <;> omega)) only [Sall,evalOp,init,binE,binI,unE,convE,okNil,builtE,gv,TD.isAgg,resV,↓reduceIte,Nat.reduceEqDiff,reduceCtorEq,Nat.reduceAdd,Nat.reduceMul,Nat.reduceLeDiff,quietOp,blindOp,Int.reduceEq,Int.reduceLT,Int.reduceLE,Nat.reduceLT,tiA,tiXA, dk, Bool.not_true, g0, npi, npi2, zeros_bools, ← metL_nil]
      refine ⟨by omega, ?_⟩
      have o2 := (o1.pushSl (k := 1) (n := n) (ty := 4) (vs := bools (metL n [])) (by rw [bools_length, metL_length]; omega)).pushSl (k := 1) (n := 0) (ty := 2) (vs := ints []) rfl
      obtain ⟨mb, emb⟩ : ∃ mb, mb = H1.next := ⟨_, rfl⟩
      have emb2 : (H1.push ⟨4, true, bools (metL n [])⟩).next = mb + 1 := by rw [emb]; rfl
      rw [emb2, ← emb] at o2
      rw [← emb]
      obtain ⟨row, erow⟩ : ∃ row, row = R.getD j [] := ⟨_, rfl⟩
      have hrow := hall j (by omega)
      rw [← erow] at hrow ⊢
      refine awp_loop (fun z t H' => ∃ (b : Nat), z = row.length - b ∧ b ≤ row.length ∧ t 8 = .int .i64 b ∧ t 1 = .int .i64 j ∧ t 2 = .pointer (some ⟨pi, 0, none⟩) ∧ t 6 = .slice (some ⟨mb, 0, some 1⟩) n n ∧ t 7 = .slice (some ⟨mb + 1, 0, some 1⟩) 0 0 ∧ Ow H H' [.row pi ⟨65, true, [.int .i64 n, v]⟩, .sl 1 4 (.slice (some ⟨mb, 0, some 1⟩) n n) n (bools (metL n (row.take b))), .sl 1 2 (.slice (some ⟨mb + 1, 0, some 1⟩) 0 0) 0 (ints [])]) row.length ?_ ?_
      · refine ⟨0, by omega, by omega, ?_⟩
        try simp (disch := first | omega | (simp only [ints_length, List.length_replicate, List.length_set] <;> omega)) only [Sall,evalOp,init,binE,binI,unE,convE,okNil,builtE,gv,TD.isAgg,resV,↓reduceIte,Nat.reduceEqDiff,reduceCtorEq,Nat.reduceAdd,Nat.reduceMul,Nat.reduceLeDiff,quietOp,blindOp,Int.reduceEq,Int.reduceLT,Int.reduceLE,Nat.reduceLT,tiA,tiXA, Int.natCast_zero, List.take_zero]
        exact o2
      · rintro z t H2 ⟨b, hz, hb, h8, h1, h2, h6, h7, o3⟩
        have g0 := (o3.rowAt 0 rfl).1
        have hv3 := hv.same (o3.old hs)
        obtain ⟨xi, xo, xuu, xc, xr, y, my, ex, hxr, hy, hsx, hok⟩ := hv3.get (j := j) (by omega)
        rw [← erow] at hsx
        have hmm := hsx.lenK1
        subst hmm
        have ly := hsx.len
        try simp (disch := first | omega | (simp only [ints_length, List.length_replicate, List.length_set] <;> omega)) only [Sall,evalOp,init,binE,binI,unE,convE,okNil,builtE,gv,TD.isAgg,resV,↓reduceIte,Nat.reduceEqDiff,reduceCtorEq,Nat.reduceAdd,Nat.reduceMul,Nat.reduceLeDiff,quietOp,blindOp,Int.reduceEq,Int.reduceLT,Int.reduceLE,Nat.reduceLT,tiA,tiXA, h8, h1, h2, g0, ex, hxr, hy, hok, builtE, ly]
        refine ⟨by omega, ?_⟩
        refine condC_dec (fun hh => ?_) (fun hh => ?_)
        · obtain ⟨ci, co, cu, cc, cr, rfl, c1, c2, c3, c4⟩ := hsx.get (by omega)
          have c5 := c3 b (by omega)
          have r1 := hrow.2.2.1 (row.getD b 0) (by rw [List.getD_eq_getElem?_getD, List.getElem?_eq_getElem (by omega)]; exact List.getElem_mem _)
          have gm := (o3.getV 1 rfl).2.2
          have gs := metL_put n (row.take b) (row.getD b 0) r1
          have ets : row.take (b + 1) = row.take b ++ [row.getD b 0] := take_snoc row 0 b (by omega)
          obtain ⟨x1, ex1⟩ : ∃ x1, x1 = row.getD b 0 := ⟨_, rfl⟩
          rw [← ex1] at c5 gs ets r1
          try simp (disch := first | omega | (simp only [ints_length, List.length_replicate, List.length_set] <;> omega)) only [Sall,evalOp,init,binE,binI,unE,convE,okNil,builtE,gv,TD.isAgg,resV,↓reduceIte,Nat.reduceEqDiff,reduceCtorEq,Nat.reduceAdd,Nat.reduceMul,Nat.reduceLeDiff,quietOp,blindOp,Int.reduceEq,Int.reduceLT,Int.reduceLE,Nat.reduceLT,tiA,tiXA, h8, h1, h2, h6, h7, g0, ex, hxr, hy, hok, c1, c5, gm, gs, w64]
          refine ⟨by omega, ?_⟩
          refine ⟨by omega, ?_⟩
          refine ⟨by omega, ?_⟩
          refine ⟨by rw [bools_length, metL_length]; omega, ?_⟩
          exact ⟨row.length - (b + 1), by omega, b + 1, rfl, by omega, by omega, by rw [ets, ← ex]; exact o3.put 1 rfl (vs' := bools (metL n (row.take b ++ [x1]))) (by simp [bools_length, metL_length])⟩
        · have hbe : b = row.length := by omega
          rw [hbe, List.take_length] at o3
          have gm := (o3.getV 1 rfl).2.2
          try simp (disch := first | omega | (simp only [ints_length, List.length_replicate, List.length_set] <;> omega)) only [Sall,evalOp,init,binE,binI,unE,convE,okNil,builtE,gv,TD.isAgg,resV,↓reduceIte,Nat.reduceEqDiff,reduceCtorEq,Nat.reduceAdd,Nat.reduceMul,Nat.reduceLeDiff,quietOp,blindOp,Int.reduceEq,Int.reduceLT,Int.reduceLE,Nat.reduceLT,tiA,tiXA, h2, g0]
          refine awp_loop (fun z t H' => ∃ (b : Nat) (w : Value), z = n - b ∧ b ≤ n ∧ t 9 = .int .i64 b ∧ t 2 = .pointer (some ⟨pi, 0, none⟩) ∧ t 6 = .slice (some ⟨mb, 0, some 1⟩) n n ∧ t 7 = w ∧ Ow H H' [.row pi ⟨65, true, [.int .i64 n, v]⟩, .sl 1 4 (.slice (some ⟨mb, 0, some 1⟩) n n) n (bools (metL n row)), .sl 1 2 w (sitL row b).length (ints (sitL row b))]) n ?_ ?_
          · refine ⟨0, .slice (some ⟨mb + 1, 0, some 1⟩) 0 0, by omega, by omega, ?_⟩
            try simp (disch := first | omega | (simp only [ints_length, List.length_replicate, List.length_set] <;> omega)) only [Sall,evalOp,init,binE,binI,unE,convE,okNil,builtE,gv,TD.isAgg,resV,↓reduceIte,Nat.reduceEqDiff,reduceCtorEq,Nat.reduceAdd,Nat.reduceMul,Nat.reduceLeDiff,quietOp,blindOp,Int.reduceEq,Int.reduceLT,Int.reduceLE,Nat.reduceLT,tiA,tiXA, Int.natCast_zero]
            exact ⟨h2, h6, h7, o3⟩
          · rintro z t H3 ⟨b, w, hz, hb, h9, h2, h6, h7, o4⟩
            have g0 := (o4.rowAt 0 rfl).1
            have gm := (o4.getV 1 rfl).2.2
            have hw := o4.one 2 rfl
            try simp (disch := first | omega | (simp only [ints_length, List.length_replicate, List.length_set] <;> omega)) only [Sall,evalOp,init,binE,binI,unE,convE,okNil,builtE,gv,TD.isAgg,resV,↓reduceIte,Nat.reduceEqDiff,reduceCtorEq,Nat.reduceAdd,Nat.reduceMul,Nat.reduceLeDiff,quietOp,blindOp,Int.reduceEq,Int.reduceLT,Int.reduceLE,Nat.reduceLT,tiA,tiXA, h9, h2, g0]
            refine condC_dec (fun hh => ?_) (fun hh => ?_)
            · have gb := metL_get? n row (b : Int) ⟨by omega, by omega⟩
              rw [Int.toNat_natCast] at gb
              cases hct : row.contains (b : Int) with
              | true =>
                rw [hct] at gb
                try simp (disch := first | omega | (simp only [ints_length, List.length_replicate, List.length_set] <;> omega)) only [Sall,evalOp,init,binE,binI,unE,convE,okNil,builtE,gv,TD.isAgg,resV,↓reduceIte,Nat.reduceEqDiff,reduceCtorEq,Nat.reduceAdd,Nat.reduceMul,Nat.reduceLeDiff,quietOp,blindOp,Int.reduceEq,Int.reduceLT,Int.reduceLE,Nat.reduceLT,tiA,tiXA, h9, h2, h6, h7, g0, gm, gb, hw, Bool.not_true, w64]
                refine ⟨by omega, ?_⟩
                exact ⟨n - (b + 1), by omega, b + 1, w, rfl, by omega, by omega, rfl, by rw [sitL_yes hct]; exact o4⟩
              | false =>
                have hln := sitL_len row b
                have zz : zeros 1 [.int .i64 0] = [.int .i64 0] := rfl
                rw [hct] at gb
                try simp (disch := first | omega | (simp only [ints_length, List.length_replicate, List.length_set] <;> omega)) only [Sall,evalOp,init,binE,binI,unE,convE,okNil,builtE,gv,TD.isAgg,resV,↓reduceIte,Nat.reduceEqDiff,reduceCtorEq,Nat.reduceAdd,Nat.reduceMul,Nat.reduceLeDiff,quietOp,blindOp,Int.reduceEq,Int.reduceLT,Int.reduceLE,Nat.reduceLT,tiA,tiXA, h9, h2, h6, h7, g0, gm, gb, hw, Bool.not_false, w64, zz, slCells]
                refine ⟨by omega, ?_⟩
                refine (o4.tmp ⟨2, true, [.int .i64 b]⟩).app 2 rfl rfl (by omega) rfl (by omega) (by decide) (by omega) ?_
                intro v' H4 n4 o5
                try simp (disch := first | omega | (simp only [ints_length, List.length_replicate, List.length_set] <;> omega)) only [Sall,evalOp,init,binE,binI,unE,convE,okNil,builtE,gv,TD.isAgg,resV,↓reduceIte,Nat.reduceEqDiff,reduceCtorEq,Nat.reduceAdd,Nat.reduceMul,Nat.reduceLeDiff,quietOp,blindOp,Int.reduceEq,Int.reduceLT,Int.reduceLE,Nat.reduceLT,tiA,tiXA, h9, h2, h6, h7, w64]
                exact ⟨n - (b + 1), by omega, b + 1, v', rfl, by omega, by omega, rfl, by rw [sitL_no hct, List.length_append, ← ints_append]; exact o5⟩
            · obtain rfl : b = n := by omega
              try simp (disch := first | omega | (simp only [ints_length, List.length_replicate, List.length_set] <;> omega)) only [Sall,evalOp,init,binE,binI,unE,convE,okNil,builtE,gv,TD.isAgg,resV,↓reduceIte,Nat.reduceEqDiff,reduceCtorEq,Nat.reduceAdd,Nat.reduceMul,Nat.reduceLeDiff,quietOp,blindOp,Int.reduceEq,Int.reduceLT,Int.reduceLE,Nat.reduceLT,tiA,tiXA, h7, hw]
              exact ⟨w, rfl, o4.only 2 rfl⟩
    · rw [if_neg (by rw [decide_eq_false hk]; simp), if_neg (fun h => hk h.2)]
      have dk := decide_eq_false hk
      try simp (disch := first | omega | (simp only [ints_length, List.length_replicate, List.length_set] <;> omega)) only [Sall,evalOp,init,binE,binI,unE,convE,okNil,builtE,gv,TD.isAgg,resV,↓reduceIte,Nat.reduceEqDiff,reduceCtorEq,Nat.reduceAdd,Nat.reduceMul,Nat.reduceLeDiff,quietOp,blindOp,Int.reduceEq,Int.reduceLT,Int.reduceLE,Nat.reduceLT,tiA,tiXA, dk, Bool.not_false]
      exact ⟨_, rfl, Ow.add (Ow.left (L := []) o1) _ (Nat.le_refl _) o1.sc (fun _ _ => rfl) fun S hS => ⟨rfl, .inl ⟨rfl, rfl⟩⟩⟩
  · rw [if_neg (by rw [hE]; simp), if_neg (fun h => by rw [hE] at h; simp at h)]
    try simp (disch := first | omega | (simp only [ints_length, List.length_replicate, List.length_set] <;> omega)) only [Sall,evalOp,init,binE,binI,unE,convE,okNil,builtE,gv,TD.isAgg,resV,↓reduceIte,Nat.reduceEqDiff,reduceCtorEq,Nat.reduceAdd,Nat.reduceMul,Nat.reduceLeDiff,quietOp,blindOp,Int.reduceEq,Int.reduceLT,Int.reduceLE,Nat.reduceLT,tiA,tiXA, hE, Bool.not_false]
    exact ⟨_, rfl, Ow.add (Ow.left (L := []) o1) _ (Nat.le_refl _) o1.sc (fun _ _ => rfl) fun S hS => ⟨rfl, .inl ⟨rfl, rfl⟩⟩⟩
end Go.Proofs.Ytgkmdfjjlghecaa.A
end

section
set_option linter.unusedSimpArgs false
set_option linter.unusedVariables false
set_option maxRecDepth 100000
set_option maxHeartbeats 2000000
namespace Go.Proofs.Ytgkmdfjjlghecaa.A
open Go Go.Abs Go.RowKit

def CodeOk (H : AH) (cv : Value) (nb : Nat) : Prop :=
  (nb = 0 ∧ ∃ a c, cv = .slice a 0 c) ∨ ∃ i o u c r, cv = .slice (some ⟨i, o, u⟩) nb c ∧ H.row i = some r ∧ ∀ j, j < nb → ∃ x, r.cells[o + j]? = some (.int .u8 x) ∧ 0 ≤ x ∧ x ≤ 255
theorem CodeOk.len {H : AH} {cv : Value} {nb : Nat} (h : CodeOk H cv nb) (H' : AH) : asSl cv (.val (.int .i64 0) H') (fun _ _ _ n _ => .val (.int .i64 (n : Int)) H') = .val (.int .i64 (nb : Int)) H' := by
  rcases h with ⟨rfl, a, c, rfl⟩ | ⟨i, o, u, c, r, rfl, _⟩
  · cases a <;> rfl
  · rfl
theorem CodeOk.one {H : AH} {cv : Value} {nb : Nat} (h : CodeOk H cv nb) : cv.oneCell' = true := by
  rcases h with ⟨rfl, a, c, rfl⟩ | ⟨i, o, u, c, r, rfl, _⟩ <;> rfl
theorem CodeOk.get {H : AH} {cv : Value} {nb : Nat} (h : CodeOk H cv nb) {j : Nat} (hj : j < nb) : ∃ i o u c r x, cv = .slice (some ⟨i, o, u⟩) nb c ∧ H.row i = some r ∧ r.cells[o + j]? = some (.int .u8 x) ∧ 0 ≤ x ∧ x ≤ 255 := by
  rcases h with ⟨rfl, _⟩ | ⟨i, o, u, c, r, rfl, hr, hx⟩
  · omega
  · obtain ⟨x, h1, h2, h3⟩ := hx j hj
    exact ⟨i, o, u, c, r, x, rfl, hr, h1, h2, h3⟩

def Src (cv : Value) (nb si : Nat) (H : AH) : Prop := ∃ (a : Nat) (h : Int), H.row si = some ⟨161, true, [cv, .int .i64 a, .int .u64 h]⟩ ∧ a ≤ nb
structure SrcB (cv : Value) (nb si : Nat) (H H' : AH) : Prop where
  next : H'.next = H.next
  row : ∀ i, i ≠ si → H'.row i = H.row i
  src : Src cv nb si H'
theorem SrcB.refl {cv : Value} {nb si : Nat} {H : AH} (h : Src cv nb si H) : SrcB cv nb si H H := ⟨rfl, fun _ _ => rfl, h⟩
theorem SrcB.trans {cv : Value} {nb si : Nat} {A B C : AH} (h : SrcB cv nb si A B) (k : SrcB cv nb si B C) : SrcB cv nb si A C := ⟨k.next.trans h.next, fun i hi => (k.row i hi).trans (h.row i hi), k.src⟩
def CodeX (cv : Value) (nb si : Nat) (H : AH) : Prop := ∀ H', (∀ i r, i ≠ si → H.row i = some r → H'.row i = some r) → CodeOk H' cv nb
theorem CodeX.now {cv : Value} {nb si : Nat} {H : AH} (h : CodeX cv nb si H) : CodeOk H cv nb := h H fun _ _ _ k => k
theorem CodeX.later {cv : Value} {nb si : Nat} {H H' : AH} (h : CodeX cv nb si H) (hs : ∀ i r, i ≠ si → H.row i = some r → H'.row i = some r) : CodeX cv nb si H' := fun H2 h2 => h H2 fun i r hi hr => h2 i r hi (hs i r hi hr)

theorem SrcB.sc {cv : Value} {nb si : Nat} {H H' : AH} (h : SrcB cv nb si H H') (hs : Sc H) (hi : si < H.next) : Sc H' := fun i r hr => by
  rw [h.next]
  by_cases e : i = si
  · rw [e]; exact hi
  · rw [h.row i e] at hr; exact hs i r hr

theorem Ow.src {cv : Value} {nb si : Nat} {B H H' : AH} {L : List Th} (h : Ow B H L) (hi : si < B.next) (k : SrcB cv nb si H H') : ∃ B', SrcB cv nb si B B' ∧ Ow B' H' L := by
  have hb := h.next
  have hsr := k.src
  refine ⟨⟨B.next, fun i => if i = si then H'.row si else B.row i⟩, ⟨rfl, fun i hi => if_neg hi, ?_⟩, ⟨k.sc h.sc (by omega), by rw [k.next]; exact h.next, fun i hi2 => ?_, ?_⟩⟩
  · obtain ⟨a, x, h1, h2⟩ := hsr
    exact ⟨a, x, by show (if si = si then H'.row si else B.row si) = _; rw [if_pos rfl]; exact h1, h2⟩
  · show H'.row i = if i = si then H'.row si else B.row i
    by_cases e : i = si
    · rw [if_pos e, e]
    · rw [if_neg e, k.row i e, h.low i hi2]
  · obtain ⟨o, ho⟩ := h.own
    refine ⟨o, fun j q hj => q.loc H H' _ _ (fun i hi2 => ⟨hi2.1, by rw [k.next]; exact hi2.2.1, hi2.2.2⟩) (fun i r hi2 hr => ?_) (ho j q hj)⟩
    have hbn : B.next ≤ i := hi2.1
    rw [k.row i (by omega)]; exact hr
theorem Ow.srcCall {cv : Value} {nb si : Nat} {B H H1 H' : AH} {L M : List Th} (h : Ow B H L) (hi : si < B.next) (k : SrcB cv nb si H H1) (o : Ow H1 H' M) : ∃ B', SrcB cv nb si B B' ∧ Ow B' H' (L ++ M) := by
  obtain ⟨B', b1, b2⟩ := Ow.src h hi k
  exact ⟨B', b1, b2.call o⟩
theorem Ow.oldX {cv : Value} {nb si : Nat} {A B H : AH} {L : List Th} (h : Ow B H L) (k : SrcB cv nb si A B) (hs : Sc A) : ∀ i r, i ≠ si → A.row i = some r → H.row i = some r := fun i r hi hr => by
  rw [h.low i (by rw [k.next]; exact hs i r hr), k.row i hi, hr]
theorem Ow.srcAt {cv : Value} {nb si : Nat} {A B H : AH} {L : List Th} (h : Ow B H L) (k : SrcB cv nb si A B) (hi : si < A.next) : Src cv nb si H := by
  obtain ⟨a, x, h1, h2⟩ := k.src
  exact ⟨a, x, by rw [h.low si (by rw [k.next]; exact hi), h1], h2⟩

theorem and24 (x : Int) : ∃ y : Nat, IntKind.u64.wrap (BitVec.ofInt IntKind.u64.bits x &&& BitVec.ofInt IntKind.u64.bits 16777215).toNat = (y : Int) ∧ y ≤ 16777215 := by
  refine ⟨(BitVec.ofInt 64 x &&& BitVec.ofInt 64 16777215).toNat, ?_, ?_⟩
  · have h : (BitVec.ofInt 64 x &&& BitVec.ofInt 64 16777215).toNat ≤ 16777215 := by
      rw [BitVec.toNat_and]
      exact Nat.le_trans Nat.and_le_right (by decide)
    have hb : IntKind.u64.bits = 64 := rfl
    rw [hb]
    generalize (BitVec.ofInt 64 x &&& BitVec.ofInt 64 16777215).toNat = y at h ⊢
    unfold IntKind.wrap
    simp only [IntKind.bits, IntKind.signed, Bool.false_and, Bool.false_eq_true, if_false]
    omega
  · rw [BitVec.toNat_and]
    exact Nat.le_trans Nat.and_le_right (by decide)

theorem tmodN {y n : Int} (hy : 0 ≤ y) (hn : ¬ n < 1) : ∃ x : Nat, y.tmod n = (x : Int) ∧ (x : Int) < n := by
  have h1 := Int.emod_nonneg y (show n ≠ 0 by omega)
  have h2 := Int.emod_lt_of_pos y (show 0 < n by omega)
  exact ⟨(y % n).toNat, by rw [Int.tmod_eq_emod_of_nonneg hy]; omega, by omega⟩

theorem l01Next_c (cv : Value) (nb si : Nat) (n : Int) (H : AH) (hn : n ≤ 9223372036854775807) (hnb : nb ≤ 4611686018427387904) (hs : Src cv nb si H) (hc : CodeX cv nb si H) :
    ACalls Try.prog 182 [.pointer (some ⟨si, 0, none⟩), .int .i64 n] H (fun v H' => ∃ x : Nat, v = .int .i64 x ∧ ((n < 1 ∧ x = 0) ∨ (x : Int) < n) ∧ SrcB cv nb si H H') := by
  refine acalls_of_awp [.tmp 4] Try.func182 (by kernel_rfl) rfl rfl (Nat.le_of_ble_eq_true rfl) (by kernel_rfl) ?_
  by_cases hn1 : n < 1
  · have e1 : decide (n < 1) = true := decide_eq_true hn1
    try simp (disch := first | omega | (simp only [ints_length, List.length_replicate, List.length_set] <;> omega)) only [Sall,evalOp,init,binE,binI,unE,convE,okNil,builtE,gv,TD.isAgg,resV,↓reduceIte,Nat.reduceEqDiff,reduceCtorEq,Nat.reduceAdd,Nat.reduceMul,Nat.reduceLeDiff,quietOp,blindOp,Int.reduceEq,Int.reduceLT,Int.reduceLE,Nat.reduceLT,tiA,tiXA, e1]
    exact ⟨0, rfl, .inl ⟨hn1, rfl⟩, SrcB.refl hs⟩
  · have e1 : decide (n < 1) = false := decide_eq_false hn1
    obtain ⟨a, hh, hrow, ha⟩ := hs
    have hone := hc.now.one
    obtain ⟨y, hy1, hy2⟩ := and24 ((IntKind.u64.wrap (IntKind.u64.wrap (hh * 6364136223846793005) + 1442695040888963407)).fdiv (2 ^ min (Int.toNat 33) IntKind.u64.bits))
    have ey : IntKind.i64.wrap (y : Int) = (y : Int) := w64 (by omega)
    obtain ⟨h2, eh2⟩ : ∃ h2, h2 = IntKind.u64.wrap (IntKind.u64.wrap (hh * 6364136223846793005) + 1442695040888963407) := ⟨_, rfl⟩
    rw [← eh2] at hy1
    try simp (disch := first | omega | (simp only [ints_length, List.length_replicate, List.length_set] <;> omega)) only [Sall,evalOp,init,binE,binI,unE,convE,okNil,builtE,gv,TD.isAgg,resV,↓reduceIte,Nat.reduceEqDiff,reduceCtorEq,Nat.reduceAdd,Nat.reduceMul,Nat.reduceLeDiff,quietOp,blindOp,Int.reduceEq,Int.reduceLT,Int.reduceLE,Nat.reduceLT,tiA,tiXA, e1, hrow, hone, ← eh2, hy1, ey]
    obtain ⟨H1, g1⟩ : ∃ H1, H1 = H.setCells si [cv, .int .i64 a, .int .u64 h2] := ⟨_, rfl⟩
    have r1 : H1.row si = some ⟨161, true, [cv, .int .i64 a, .int .u64 h2]⟩ := by rw [g1, AH.setCells_row, if_pos rfl, hrow]; rfl
    have k1 : ∀ i, i ≠ si → H1.row i = H.row i := fun i hi => by rw [g1, AH.setCells_row, if_neg hi]
    have n1 : H1.next = H.next := by rw [g1]; rfl
    rw [← g1]
    clear g1
    have hc1 := hc.later (H' := H1) fun i r hi hr => by rw [k1 i hi, hr]
    have hln := hc1.now.len
    refine draw_id (by kernel_rfl) (by kernel_rfl) ?_
    by_cases ha2 : a < nb
    · have e2 : decide ((a : Int) < (nb : Int)) = true := decide_eq_true (by omega)
      obtain ⟨ci, co, cu, cc, cr, b, rfl, cr1, cr2, cb1, cb2⟩ := hc1.now.get ha2
      have ebw : IntKind.i64.wrap b = b := w64 (by omega)
      try simp (disch := first | omega | (simp only [ints_length, List.length_replicate, List.length_set] <;> omega)) only [Sall,evalOp,init,binE,binI,unE,convE,okNil,builtE,gv,TD.isAgg,resV,↓reduceIte,Nat.reduceEqDiff,reduceCtorEq,Nat.reduceAdd,Nat.reduceMul,Nat.reduceLeDiff,quietOp,blindOp,Int.reduceEq,Int.reduceLT,Int.reduceLE,Nat.reduceLT,tiA,tiXA, r1, hone, builtE, e2]
      refine draw_id (by kernel_rfl) (by kernel_rfl) ?_
      try simp (disch := first | omega | (simp only [ints_length, List.length_replicate, List.length_set] <;> omega)) only [Sall,evalOp,init,binE,binI,unE,convE,okNil,builtE,gv,TD.isAgg,resV,↓reduceIte,Nat.reduceEqDiff,reduceCtorEq,Nat.reduceAdd,Nat.reduceMul,Nat.reduceLeDiff,quietOp,blindOp,Int.reduceEq,Int.reduceLT,Int.reduceLE,Nat.reduceLT,tiA,tiXA, r1, hone, builtE, e2, cr1, cr2, ebw]
      (repeat refine And.intro (by omega) ?_)
      try simp (disch := first | omega | (simp only [ints_length, List.length_replicate, List.length_set] <;> omega)) only [Sall,evalOp,init,binE,binI,unE,convE,okNil,builtE,gv,TD.isAgg,resV,↓reduceIte,Nat.reduceEqDiff,reduceCtorEq,Nat.reduceAdd,Nat.reduceMul,Nat.reduceLeDiff,quietOp,blindOp,Int.reduceEq,Int.reduceLT,Int.reduceLE,Nat.reduceLT,tiA,tiXA, r1, hone, builtE, e2, cr1, cr2, ebw, w64]
      obtain ⟨x, x1, x2⟩ := tmodN (y := (y : Int) + b) (by omega) hn1
      exact ⟨x, x1, .inr x2, ⟨n1, fun i hi => by rw [AH.setCells_row, if_neg hi, k1 i hi], ⟨a + 1, h2, by rw [AH.setCells_row, if_pos rfl, r1]; rfl, by omega⟩⟩⟩
    · have e2 : decide ((a : Int) < (nb : Int)) = false := decide_eq_false (by omega)
      try simp (disch := first | omega | (simp only [ints_length, List.length_replicate, List.length_set] <;> omega)) only [Sall,evalOp,init,binE,binI,unE,convE,okNil,builtE,gv,TD.isAgg,resV,↓reduceIte,Nat.reduceEqDiff,reduceCtorEq,Nat.reduceAdd,Nat.reduceMul,Nat.reduceLeDiff,quietOp,blindOp,Int.reduceEq,Int.reduceLT,Int.reduceLE,Nat.reduceLT,tiA,tiXA, r1, hone, builtE, hln, e2]
      obtain ⟨x, x1, x2⟩ := tmodN (y := (y : Int)) (by omega) hn1
      exact ⟨by omega, x, x1, .inr x2, ⟨n1, k1, ⟨a, h2, r1, ha⟩⟩⟩

theorem l01Pick_c (cv : Value) (nb si : Nat) (lv : Value) (k : Nat) (l : List Int) (H : AH) (hk : 0 < k) (hk2 : k ≤ 4294967296) (hnb : nb ≤ 4611686018427387904) (hs : Src cv nb si H) (hc : CodeX cv nb si H) (hl : ∀ H', SrcB cv nb si H H' → Rd 1 H' lv k l) :
    ACalls Try.prog 183 [.pointer (some ⟨si, 0, none⟩), lv] H (fun v H' => ∃ x : Int, v = .int .i64 x ∧ x ∈ l ∧ SrcB cv nb si H H') := by
  refine acalls_of_awp [.tmp 4] Try.func183 (by kernel_rfl) rfl rfl (Nat.le_of_ble_eq_true rfl) (by kernel_rfl) ?_
  have hr := hl H (SrcB.refl hs)
  have hln := hr.len
  have hlk := hr.lenK1
  try simp (disch := first | omega | (simp only [ints_length, List.length_replicate, List.length_set] <;> omega)) only [Sall,evalOp,init,binE,binI,unE,convE,okNil,builtE,gv,TD.isAgg,resV,↓reduceIte,Nat.reduceEqDiff,reduceCtorEq,Nat.reduceAdd,Nat.reduceMul,Nat.reduceLeDiff,quietOp,blindOp,Int.reduceEq,Int.reduceLT,Int.reduceLE,Nat.reduceLT,tiA,tiXA, builtE, hln]
  refine (l01Next_c cv nb si k H (by omega) hnb hs hc).ex ?_
  rintro x H1 ⟨hx, hS⟩
  have hxk : x < k := by rcases hx with h | h <;> omega
  obtain ⟨i, o, u, c, r, rfl, r1, r2, r3, r4⟩ := (hl H1 hS).get hk
  have r5 := r3 x (by omega)
  refine Holds.mp ?_
  try simp (disch := first | omega | (simp only [ints_length, List.length_replicate, List.length_set] <;> omega)) only [Sall,evalOp,init,binE,binI,unE,convE,okNil,builtE,gv,TD.isAgg,resV,↓reduceIte,Nat.reduceEqDiff,reduceCtorEq,Nat.reduceAdd,Nat.reduceMul,Nat.reduceLeDiff,quietOp,blindOp,Int.reduceEq,Int.reduceLT,Int.reduceLE,Nat.reduceLT,tiA,tiXA, r1, r5]
  refine ⟨⟨by omega, by omega⟩, ?_, hS⟩
  rw [List.getD_eq_getElem?_getD, List.getElem?_eq_getElem (by omega)]
  exact List.getElem_mem _

theorem l01Near_c (cv : Value) (nb si : Nat) (m : Int) (H : AH) (hm : -1 ≤ m ∧ m ≤ 4294967296) (hnb : nb ≤ 4611686018427387904) (hs : Src cv nb si H) (hc : CodeX cv nb si H) (hsc : Sc H) :
    ACalls Try.prog 114 [.pointer (some ⟨si, 0, none⟩), .int .i64 m] H (fun v H' => ∃ x : Int, v = .int .i64 x ∧ -4611686018427387904 ≤ x ∧ x ≤ 1099511627776 ∧ ∃ H1, SrcB cv nb si H H1 ∧ Ow H1 H' []) := by
  refine acalls_of_awp [.tmp 4] Try.func114 (by kernel_rfl) rfl rfl (Nat.le_of_ble_eq_true rfl) (by kernel_rfl) ?_
  obtain ⟨_, _, hrow, _⟩ := id hs
  have hsi := hsc _ _ hrow
  try simp (disch := first | omega | (simp only [ints_length, List.length_replicate, List.length_set] <;> omega)) only [Sall,evalOp,init,binE,binI,unE,convE,okNil,builtE,gv,TD.isAgg,resV,↓reduceIte,Nat.reduceEqDiff,reduceCtorEq,Nat.reduceAdd,Nat.reduceMul,Nat.reduceLeDiff,quietOp,blindOp,Int.reduceEq,Int.reduceLT,Int.reduceLE,Nat.reduceLT,tiA,tiXA, true_and]
  refine (l01Next_c cv nb si 14 H (by omega) hnb hs hc).ex ?_
  rintro x H1 ⟨hx, hS⟩
  have hc1 := hc.later (H' := H1) fun i r hi hr => by rw [hS.row i hi, hr]
  have hsc1 := hS.sc hsc hsi
  refine Holds.mp ?_
  by_cases h0 : (x : Int) = 0
  · have e0 : ((x : Int) == 0) = true := by rw [h0]; rfl
    have zz : zeros 4 [.int .i64 0] = [.int .i64 0, .int .i64 0, .int .i64 0, .int .i64 0] := rfl
    try simp (disch := first | omega | (simp only [ints_length, List.length_replicate, List.length_set] <;> omega)) only [Sall,evalOp,init,binE,binI,unE,convE,okNil,builtE,gv,TD.isAgg,resV,↓reduceIte,Nat.reduceEqDiff,reduceCtorEq,Nat.reduceAdd,Nat.reduceMul,Nat.reduceLeDiff,quietOp,blindOp,Int.reduceEq,Int.reduceLT,Int.reduceLE,Nat.reduceLT,tiA,tiXA, e0, zz, w64]
    obtain ⟨H2, e2⟩ : ∃ H2, H2 = H1.push ⟨2, true, ints [-1, m + 1, 1099511627776, -4611686018427387904]⟩ := ⟨_, rfl⟩
    have e2' : H1.push ⟨2, true, [.int .i64 (-1), .int .i64 (m + 1), .int .i64 1099511627776, .int .i64 (-4611686018427387904)]⟩ = H2 := e2.symm
    rw [e2']
    have o2 : Ow H1 H2 [.sl 1 2 (.slice (some ⟨H1.next, 0, some 1⟩) 4 4) 4 (ints [-1, m + 1, 1099511627776, -4611686018427387904])] := by rw [e2]; exact (Ow.refl hsc1).pushSl rfl
    clear e2 e2'
    have hs2 : Src cv nb si H2 := Ow.srcAt o2 (SrcB.refl hS.src) (by rw [hS.next]; exact hsi)
    have hc2 := hc1.later (H' := H2) fun i r hi hr => Ow.oldX o2 (SrcB.refl hS.src) hsc1 i r hi hr
    have hfr := (o2.getV 0 rfl).2.2
    refine (l01Pick_c cv nb si _ 4 [-1, m + 1, 1099511627776, -4611686018427387904] H2 (by omega) (by omega) hnb hs2 hc2 fun H' hS' => Fr.rd (ty := 2) (lo := 0) (hi := H1.next + 1) ⟨rfl, .inr ⟨H1.next, Nat.zero_le _, Nat.lt_succ_self _, rfl, by rw [hS'.row _ (by have := hS.next; omega)]; exact hfr⟩⟩).ex ?_
    rintro y H3 ⟨hy, hS3⟩
    obtain ⟨B', b1, b2⟩ := Ow.src o2 (by rw [hS.next]; exact hsi) hS3
    refine Holds.mp ?_
    try simp (disch := first | omega | (simp only [ints_length, List.length_replicate, List.length_set] <;> omega)) only [Sall,evalOp,init,binE,binI,unE,convE,okNil,builtE,gv,TD.isAgg,resV,↓reduceIte,Nat.reduceEqDiff,reduceCtorEq,Nat.reduceAdd,Nat.reduceMul,Nat.reduceLeDiff,quietOp,blindOp,Int.reduceEq,Int.reduceLT,Int.reduceLE,Nat.reduceLT,tiA,tiXA, true_and]
    simp only [List.mem_cons, List.not_mem_nil, or_false] at hy
    refine ⟨by omega, by omega, B', hS.trans b1, Ow.left (L := []) b2⟩
  · have e0 : ((x : Int) == 0) = false := beq_eq_false_iff_ne.2 h0
    try simp (disch := first | omega | (simp only [ints_length, List.length_replicate, List.length_set] <;> omega)) only [Sall,evalOp,init,binE,binI,unE,convE,okNil,builtE,gv,TD.isAgg,resV,↓reduceIte,Nat.reduceEqDiff,reduceCtorEq,Nat.reduceAdd,Nat.reduceMul,Nat.reduceLeDiff,quietOp,blindOp,Int.reduceEq,Int.reduceLT,Int.reduceLE,Nat.reduceLT,tiA,tiXA, e0, w64]
    refine (l01Next_c cv nb si (m + 1) H1 (by omega) hnb hS.src hc1).ex ?_
    rintro y H2 ⟨hy, hS2⟩
    refine Holds.mp ?_
    try simp (disch := first | omega | (simp only [ints_length, List.length_replicate, List.length_set] <;> omega)) only [Sall,evalOp,init,binE,binI,unE,convE,okNil,builtE,gv,TD.isAgg,resV,↓reduceIte,Nat.reduceEqDiff,reduceCtorEq,Nat.reduceAdd,Nat.reduceMul,Nat.reduceLeDiff,quietOp,blindOp,Int.reduceEq,Int.reduceLT,Int.reduceLE,Nat.reduceLT,tiA,tiXA, true_and]
    exact ⟨by omega, by omega, H2, hS.trans hS2, Ow.refl (hS2.sc hsc1 (by rw [hS.next]; exact hsi))⟩
end Go.Proofs.Ytgkmdfjjlghecaa.A
end

section
set_option linter.unusedSimpArgs false
set_option linter.unusedVariables false
namespace Go.Abs

end Go.Abs
end

section
set_option linter.unusedSimpArgs false
set_option linter.unusedVariables false
namespace Go.Abs

def meetN (now : List Int) (a b : Nat) : List Int := (now.set a (b : Int)).set b (a : Int)
def NowOk (n : Nat) (now : List Int) : Prop := now.length = 14 ∧ ∀ j, j < n → 0 ≤ now.getD j 0 ∧ now.getD j 0 < (n : Int)
theorem getD_setI (l : List Int) (i : Nat) (x : Int) (j : Nat) (h : i < l.length) : (l.set i x).getD j 0 = if j = i then x else l.getD j 0 := by
  simp only [List.getD_eq_getElem?_getD, List.getElem?_set]
  by_cases e : i = j
  · subst e; rw [if_pos rfl, if_pos h, if_pos rfl]; rfl
  · rw [if_neg e, if_neg (Ne.symm e)]
theorem meetN_get {now : List Int} {a b : Nat} (hl : now.length = 14) (ha : a < 14) (hb : b < 14) (j : Nat) : (meetN now a b).getD j 0 = if j = b then (a : Int) else if j = a then (b : Int) else now.getD j 0 := by
  unfold meetN
  rw [getD_setI _ _ _ _ (by rw [List.length_set]; omega), getD_setI _ _ _ _ (by omega)]
theorem meetN_length (now : List Int) (a b : Nat) : (meetN now a b).length = now.length := by simp [meetN]
theorem NowOk.meet {n : Nat} {now : List Int} {a b : Nat} (h : NowOk n now) (hn : n ≤ 14) (ha : a < n) (hb : b < n) : NowOk n (meetN now a b) := by
  refine ⟨by rw [meetN_length]; exact h.1, fun j hj => ?_⟩
  rw [meetN_get h.1 (by omega) (by omega)]
  have := h.2 j hj
  split
  · omega
  · split <;> omega
/-! ### Renumbering by a ranking -/
structure PermN (n : Nat) (R : List Int) : Prop where
  len : R.length = n
  rng : ∀ j, j < n → 0 ≤ R.getD j 0 ∧ R.getD j 0 < (n : Int)
  inj : ∀ i j, i < n → j < n → R.getD i 0 = R.getD j 0 → i = j
  sur : ∀ x, x < n → ∃ j, j < n ∧ R.getD j 0 = (x : Int)
end Go.Abs
end

section
set_option linter.unusedSimpArgs false
set_option linter.unusedVariables false
set_option maxRecDepth 100000
set_option maxHeartbeats 2000000
namespace Go.Proofs.Ytgkmdfjjlghecaa.A
open Go Go.Abs Go.RowKit

theorem evo_pnil (t : T) : evo t (.const (.pointer none)) = some (.pointer none) := (rfl)

theorem l01From_c (cv : Value) (nb : Nat) (H : AH) (hnb : nb ≤ 4611686018427387904) (hc : CodeOk H cv nb) :
    ACalls Try.prog 112 [cv] H (fun v H' => v = .pointer (some ⟨H.next, 0, none⟩) ∧ Up H.next H H' ∧ Sc H' ∧ H.next < H'.next ∧ Src cv nb H.next H') := by
  refine ACalls.wf (by kernel_rfl) fun hs => acalls_of_awp [.tmp 2] Try.func112 (by kernel_rfl) rfl rfl (Nat.le_of_ble_eq_true rfl) (by kernel_rfl) ?_
  have hone := hc.one
  have hw1 := cells_of_one hone
  have hw2 := noTuple_of_one hone
  have hln := hc.len
  have hz : [Value.slice none 0 0, .int .i64 0, .int .u64 0] = [Value.slice none 0 0, .int .i64 0, .int .u64 0] := rfl
  try simp (disch := first | omega | (simp only [ints_length, List.length_replicate, List.length_set] <;> omega)) only [Sall,evalOp,init,binE,binI,unE,convE,okNil,builtE,gv,TD.isAgg,resV,↓reduceIte,Nat.reduceEqDiff,reduceCtorEq,Nat.reduceAdd,Nat.reduceMul,Nat.reduceLeDiff,quietOp,blindOp,Int.reduceEq,Int.reduceLT,Int.reduceLE,Nat.reduceLT,tiA,tiXA, hone, hw1, hw2, hln, builtE, evo_pnil]
  obtain ⟨h0, eh0⟩ : ∃ h0, h0 = IntKind.u64.wrap (13791 + IntKind.u64.wrap (nb : Int)) := ⟨_, rfl⟩
  rw [← eh0]
  have o1 := (Ow.refl hs).push ⟨161, true, [cv, .int .i64 0, .int .u64 h0]⟩
  refine awp_loop (fun z t H' => ∃ (j : Nat) (h : Int), z = nb - j ∧ j ≤ nb ∧ t 4 = .int .i64 j ∧ t 3 = .pointer (some ⟨H.next, 0, none⟩) ∧ t 0 = cv ∧ Ow H H' [.row H.next ⟨161, true, [cv, .int .i64 0, .int .u64 h]⟩]) nb ?_ ?_
  · refine ⟨0, h0, by omega, by omega, ?_⟩
    try simp (disch := first | omega | (simp only [ints_length, List.length_replicate, List.length_set] <;> omega)) only [Sall,evalOp,init,binE,binI,unE,convE,okNil,builtE,gv,TD.isAgg,resV,↓reduceIte,Nat.reduceEqDiff,reduceCtorEq,Nat.reduceAdd,Nat.reduceMul,Nat.reduceLeDiff,quietOp,blindOp,Int.reduceEq,Int.reduceLT,Int.reduceLE,Nat.reduceLT,tiA,tiXA, Int.natCast_zero]
    exact o1
  · rintro z t H' ⟨j, h, hz, hj, h4, h3, h0', o2⟩
    have g0 := (o2.rowAt 0 rfl).1
    have n0 := (o2.rowAt 0 rfl).2
    by_cases c1 : j < nb
    · have e1 : decide ((j : Int) < (nb : Int)) = true := decide_eq_true (by omega)
      by_cases c2 : j < 4096
      · have e2 : decide ((j : Int) < 4096) = true := decide_eq_true (by omega)
        try simp (disch := first | omega | (simp only [ints_length, List.length_replicate, List.length_set] <;> omega)) only [Sall,evalOp,init,binE,binI,unE,convE,okNil,builtE,gv,TD.isAgg,resV,↓reduceIte,Nat.reduceEqDiff,reduceCtorEq,Nat.reduceAdd,Nat.reduceMul,Nat.reduceLeDiff,quietOp,blindOp,Int.reduceEq,Int.reduceLT,Int.reduceLE,Nat.reduceLT,tiA,tiXA, h4, h0', builtE, hln, e1, e2]
        have hc' : CodeOk H' cv nb := by
          rcases hc with ⟨q1, q2⟩ | ⟨i, o, u, c, r, q1, q2, q3⟩
          · exact .inl ⟨q1, q2⟩
          · exact .inr ⟨i, o, u, c, r, q1, o2.old hs _ _ q2, q3⟩
        obtain ⟨ci, co, cu, cc, cr, b, rfl, cr1, cr2, cb1, cb2⟩ := hc'.get c1
        try simp (disch := first | omega | (simp only [ints_length, List.length_replicate, List.length_set] <;> omega)) only [Sall,evalOp,init,binE,binI,unE,convE,okNil,builtE,gv,TD.isAgg,resV,↓reduceIte,Nat.reduceEqDiff,reduceCtorEq,Nat.reduceAdd,Nat.reduceMul,Nat.reduceLeDiff,quietOp,blindOp,Int.reduceEq,Int.reduceLT,Int.reduceLE,Nat.reduceLT,tiA,tiXA, h4, h3]
        refine draw_id (by kernel_rfl) (by kernel_rfl) ?_
        try simp (disch := first | omega | (simp only [ints_length, List.length_replicate, List.length_set] <;> omega)) only [Sall,evalOp,init,binE,binI,unE,convE,okNil,builtE,gv,TD.isAgg,resV,↓reduceIte,Nat.reduceEqDiff,reduceCtorEq,Nat.reduceAdd,Nat.reduceMul,Nat.reduceLeDiff,quietOp,blindOp,Int.reduceEq,Int.reduceLT,Int.reduceLE,Nat.reduceLT,tiA,tiXA, h4, h3, h0', g0, cr1, cr2, hone]
        (repeat refine And.intro (by omega) ?_)
        exact ⟨.inr (.inl (by kernel_rfl)), nb - (j + 1), by omega, j + 1, _, rfl, by omega, w64 (by omega), o2.putRow 0 rfl⟩
      · have e2 : decide ((j : Int) < 4096) = false := decide_eq_false (by omega)
        try simp (disch := first | omega | (simp only [ints_length, List.length_replicate, List.length_set] <;> omega)) only [Sall,evalOp,init,binE,binI,unE,convE,okNil,builtE,gv,TD.isAgg,resV,↓reduceIte,Nat.reduceEqDiff,reduceCtorEq,Nat.reduceAdd,Nat.reduceMul,Nat.reduceLeDiff,quietOp,blindOp,Int.reduceEq,Int.reduceLT,Int.reduceLE,Nat.reduceLT,tiA,tiXA, h4, h0', h3, builtE, hln, e1, e2]
        exact ⟨o2.up, o2.sc, by omega, ⟨0, h, g0, Nat.zero_le _⟩⟩
    · have e1 : decide ((j : Int) < (nb : Int)) = false := decide_eq_false (by omega)
      try simp (disch := first | omega | (simp only [ints_length, List.length_replicate, List.length_set] <;> omega)) only [Sall,evalOp,init,binE,binI,unE,convE,okNil,builtE,gv,TD.isAgg,resV,↓reduceIte,Nat.reduceEqDiff,reduceCtorEq,Nat.reduceAdd,Nat.reduceMul,Nat.reduceLeDiff,quietOp,blindOp,Int.reduceEq,Int.reduceLT,Int.reduceLE,Nat.reduceLT,tiA,tiXA, h4, h0', h3, builtE, hln, e1]
      exact ⟨o2.up, o2.sc, by omega, ⟨0, h, g0, Nat.zero_le _⟩⟩

structure PermL (n : Nat) (l : List Int) : Prop where
  len : l.length = n
  nod : l.Nodup
  rng : ∀ x ∈ l, 0 ≤ x ∧ x < (n : Int)
  all : ∀ x : Nat, x < n → (x : Int) ∈ l
theorem PermL.zero : PermL 0 [] := ⟨rfl, by simp, by simp, fun x hx => by omega⟩
theorem PermL.ins {n : Nat} {l : List Int} (h : PermL n l) (a : Nat) (ha : a ≤ n) : PermL (n + 1) (l.take a ++ [(n : Int)] ++ l.drop a) := by
  have hta := List.take_append_drop a l
  have hp : (l.take a ++ [(n : Int)] ++ l.drop a).Perm ((n : Int) :: l) := by
    rw [List.append_assoc]
    refine (List.perm_middle (l₁ := l.take a) (l₂ := l.drop a) (a := (n : Int))).trans ?_
    rw [hta]
  refine ⟨?_, ?_, fun x hx => ?_, fun x hx => ?_⟩
  · rw [hp.length_eq, List.length_cons, h.len]
  · rw [hp.nodup_iff, List.nodup_cons]
    exact ⟨fun hm => by have := h.rng _ hm; omega, h.nod⟩
  · have := hp.mem_iff.1 hx
    rcases List.mem_cons.1 this with e | e
    · omega
    · have := h.rng _ e; omega
  · rw [hp.mem_iff]
    by_cases e : x = n
    · rw [e]; simp
    · exact List.mem_cons_of_mem _ (h.all x (by omega))
theorem frcut {P : Program} {E : TI} {K : Value → AH → Prop} {H : AH} {i n a b : Nat} {lo hi : Option Int} (hE : E.size = 1) (ha : lo.getD 0 = (a : Int)) (hb : hi.getD (n : Int) = (b : Int)) (hab : a ≤ b) (hbn : b ≤ n) (hK : K (.slice (some ⟨i, a, some 1⟩) (b - a) (b - a)) H) :
    runOut P H (sliceE E (.slice (some ⟨i, 0, some 1⟩) n n) lo hi none H) K := by
  unfold sliceE
  rw [if_neg (by simp)]
  simp only [asSl_some, runOut_need, runOut_val, ha, hb, Int.toNat_natCast, hE, Nat.mul_one, Nat.zero_add]
  exact ⟨⟨by omega, by omega, by omega, trivial⟩, hK⟩
theorem appE_zero {P : Program} {E : TI} {K : Value → AH → Prop} {H : AH} {ty : TypeId} {i o z n c : Nat} {xs : List Value} (hK : K (.slice (some ⟨i, o, some z⟩) n c) H) : runOut P H (appE E ty (.slice (some ⟨i, o, some z⟩) n c) xs 0 H) K := by
  unfold appE
  rw [if_pos rfl]
  simp only [asSl_some, runOut_need, runOut_val]
  exact ⟨(fun h => by cases h), hK⟩
theorem cp_pre {H : AH} {i a n : Nat} {ty : TypeId} {l : List Int} (hr : H.row i = some ⟨ty, true, ints l⟩) (ha : a ≤ l.length) : Cp H (.slice (some ⟨i, 0, some 1⟩) a n) (l.take a) := by
  have hl : (l.take a).length = a := by rw [List.length_take]; omega
  refine ⟨⟨by omega, .inr ⟨i, 0, some 1, n, _, by rw [hl], hr, by rw [hl, ints_length]; omega, ?_⟩⟩, fun h => .inr ⟨i, n, _, by rw [show a = 0 by omega], hr, rfl⟩⟩
  rw [hl, Nat.mul_one]
  simp [seg, ints, List.map_take]

theorem l01DrawOrder_c (cv : Value) (nb si : Nat) (n : Int) (H : AH) (hn : n ≤ 4096) (hnb : nb ≤ 4611686018427387904) (hs : Src cv nb si H) (hc : CodeX cv nb si H) :
    ACalls Try.prog 189 [.pointer (some ⟨si, 0, none⟩), .int .i64 n] H (fun v H' => ∃ (l : List Int) (H1 : AH), SrcB cv nb si H H1 ∧ Ow H1 H' [.sl 1 2 v n.toNat (ints l)] ∧ PermL n.toNat l) := by
  refine ACalls.wf (by kernel_rfl) fun hsc => acalls_of_awp [.tmp 4] Try.func189 (by kernel_rfl) rfl rfl (Nat.le_of_ble_eq_true rfl) (by kernel_rfl) ?_
  obtain ⟨_, _, hrow, _⟩ := id hs
  have hsi := hsc _ _ hrow
  have o1 := (Ow.refl hsc).pushSl (k := 1) (n := 0) (ty := 2) (vs := ints []) rfl
  try simp (disch := first | omega | (simp only [ints_length, List.length_replicate, List.length_set] <;> omega)) only [Sall,evalOp,init,binE,binI,unE,convE,okNil,builtE,gv,TD.isAgg,resV,↓reduceIte,Nat.reduceEqDiff,reduceCtorEq,Nat.reduceAdd,Nat.reduceMul,Nat.reduceLeDiff,quietOp,blindOp,Int.reduceEq,Int.reduceLT,Int.reduceLE,Nat.reduceLT,tiA,tiXA, zeros_zero]
  refine awp_loop (fun z t H' => ∃ (i ui : Nat) (l : List Int) (B : AH), z = n.toNat - i ∧ i ≤ n.toNat ∧ t 6 = .int .i64 i ∧ t 5 = .slice (some ⟨ui, 0, some 1⟩) i i ∧ t 0 = .pointer (some ⟨si, 0, none⟩) ∧ t 1 = .int .i64 n ∧ SrcB cv nb si H B ∧ Ow B H' [.sl 1 2 (.slice (some ⟨ui, 0, some 1⟩) i i) i (ints l)] ∧ PermL i l) n.toNat ?_ ?_
  · refine ⟨0, H.next, [], H, by omega, by omega, ?_⟩
    try simp (disch := first | omega | (simp only [ints_length, List.length_replicate, List.length_set] <;> omega)) only [Sall,evalOp,init,binE,binI,unE,convE,okNil,builtE,gv,TD.isAgg,resV,↓reduceIte,Nat.reduceEqDiff,reduceCtorEq,Nat.reduceAdd,Nat.reduceMul,Nat.reduceLeDiff,quietOp,blindOp,Int.reduceEq,Int.reduceLT,Int.reduceLE,Nat.reduceLT,tiA,tiXA, Int.natCast_zero]
    exact ⟨SrcB.refl hs, o1, PermL.zero⟩
  · rintro z t H' ⟨i, ui, l, B, hz, hi, h6, h5, h0, h1, hB, o2, hp⟩
    try simp (disch := first | omega | (simp only [ints_length, List.length_replicate, List.length_set] <;> omega)) only [Sall,evalOp,init,binE,binI,unE,convE,okNil,builtE,gv,TD.isAgg,resV,↓reduceIte,Nat.reduceEqDiff,reduceCtorEq,Nat.reduceAdd,Nat.reduceMul,Nat.reduceLeDiff,quietOp,blindOp,Int.reduceEq,Int.reduceLT,Int.reduceLE,Nat.reduceLT,tiA,tiXA, h6, h1]
    have hsiB : si < B.next := by rw [hB.next]; exact hsi
    refine condC_dec (fun hh => ?_) (fun hh => ?_)
    · try simp (disch := first | omega | (simp only [ints_length, List.length_replicate, List.length_set] <;> omega)) only [Sall,evalOp,init,binE,binI,unE,convE,okNil,builtE,gv,TD.isAgg,resV,↓reduceIte,Nat.reduceEqDiff,reduceCtorEq,Nat.reduceAdd,Nat.reduceMul,Nat.reduceLeDiff,quietOp,blindOp,Int.reduceEq,Int.reduceLT,Int.reduceLE,Nat.reduceLT,tiA,tiXA, h6, h0, w64]
      refine (l01Next_c cv nb si ((i : Int) + 1) H' (by omega) hnb (Ow.srcAt o2 hB hsi) (hc.later fun j r hj hr => Ow.oldX o2 hB hsc j r hj hr)).ex ?_
      rintro a H2 ⟨ha, hS⟩
      have hai : a ≤ i := by omega
      obtain ⟨B2, b1, o3⟩ := Ow.src o2 hsiB hS
      have hB2 := hB.trans b1
      have hl := hp.len
      have rU3 := (o3.getV 0 rfl).2.2
      refine Holds.mp ?_
      try simp (disch := first | omega | (simp only [ints_length, List.length_replicate, List.length_set] <;> omega)) only [Sall,evalOp,init,binE,binI,unE,convE,okNil,builtE,gv,TD.isAgg,resV,↓reduceIte,Nat.reduceEqDiff,reduceCtorEq,Nat.reduceAdd,Nat.reduceMul,Nat.reduceLeDiff,quietOp,blindOp,Int.reduceEq,Int.reduceLT,Int.reduceLE,Nat.reduceLT,tiA,tiXA, h6, h5]
      refine draw_tree (OT.run [0, 1, 2, 4, 7, 8, 9] (.two 3 5 (OT.run [5, 6, 10, 11] .nil) (OT.run [3, 6, 10, 11] .nil))) (by kernel_rfl) (by kernel_rfl) (Nat.le_of_ble_eq_true rfl) ?_
      try simp (disch := first | omega | (simp only [ints_length, List.length_replicate, List.length_set] <;> omega)) only [Sall,evalOp,init,binE,binI,unE,convE,okNil,builtE,gv,TD.isAgg,resV,↓reduceIte,Nat.reduceEqDiff,reduceCtorEq,Nat.reduceAdd,Nat.reduceMul,Nat.reduceLeDiff,quietOp,blindOp,Int.reduceEq,Int.reduceLT,Int.reduceLE,Nat.reduceLT,tiA,tiXA, awpT_nil, awpT_one, awpT_run_nil, awpT_run_cons, h6, h5]
      refine frcut (a := 0) (b := a) rfl rfl rfl (Nat.zero_le _) hai ?_
      try simp (disch := first | omega | (simp only [ints_length, List.length_replicate, List.length_set] <;> omega)) only [Sall,evalOp,init,binE,binI,unE,convE,okNil,builtE,gv,TD.isAgg,resV,↓reduceIte,Nat.reduceEqDiff,reduceCtorEq,Nat.reduceAdd,Nat.reduceMul,Nat.reduceLeDiff,quietOp,blindOp,Int.reduceEq,Int.reduceLT,Int.reduceLE,Nat.reduceLT,tiA,tiXA, awpT_nil, awpT_one, awpT_run_nil, awpT_run_cons, h6, h5]
      refine frcut (a := a) (b := i) rfl rfl rfl hai (Nat.le_refl _) ?_
      have hsg : seg (ints l) a (i - a) = ints (l.drop a) := by
        rw [ints_seg, List.take_of_length_le (by rw [List.length_drop]; omega)]
      have hm6 : PermL (i + 1) (l.take a ++ [(i : Int)] ++ l.drop a) := hp.ins a hai
      have fin7 : ∀ (A : AH) (H7 : AH) (x y : Th), Ow A H7 [x, y] → Ow A H7 [y] := fun A H7 x y o => o.sub (fun _ => 1) (fun j hj => by
          obtain rfl : j = 0 := by simp at hj; omega
          rfl) (fun x y hx hy _ => by simp at hx hy; omega)
      have hla : (l.take a).length = a := by rw [List.length_take]; omega
      have zz : zeros 1 [.int .i64 0] = [.int .i64 0] := rfl
      try simp (disch := first | omega | (simp only [ints_length, List.length_replicate, List.length_set] <;> omega)) only [Sall,evalOp,init,binE,binI,unE,convE,okNil,builtE,gv,TD.isAgg,resV,↓reduceIte,Nat.reduceEqDiff,reduceCtorEq,Nat.reduceAdd,Nat.reduceMul,Nat.reduceLeDiff,quietOp,blindOp,Int.reduceEq,Int.reduceLT,Int.reduceLE,Nat.reduceLT,tiA,tiXA, awpT_nil, awpT_one, awpT_run_nil, awpT_run_cons, h6, h5, Nat.sub_zero]
      refine awpT_two ?_ ?_
      · try simp (disch := first | omega | (simp only [ints_length, List.length_replicate, List.length_set] <;> omega)) only [Sall,evalOp,init,binE,binI,unE,convE,okNil,builtE,gv,TD.isAgg,resV,↓reduceIte,Nat.reduceEqDiff,reduceCtorEq,Nat.reduceAdd,Nat.reduceMul,Nat.reduceLeDiff,quietOp,blindOp,Int.reduceEq,Int.reduceLT,Int.reduceLE,Nat.reduceLT,tiA,tiXA, awpT_nil, awpT_one, awpT_run_nil, awpT_run_cons, h6, h5]
        refine (l01Own_c _ (l.take a) H2 (cp_pre rU3 (by omega)) (by omega)).sc.mono ?_
        rintro w H4 ⟨⟨up4, hf4⟩, sc4⟩
        have o4 := o3.call (Ow.of_fr up4 sc4 hf4)
        rw [hla] at o4
        have rU4 := (o4.getV 0 rfl).2
        refine ⟨.inr (.inr (up4.le o3.sc)), ?_⟩
        have ne4 : ¬ ui = H4.next := by omega
        try simp (disch := first | omega | (simp only [ints_length, List.length_replicate, List.length_set] <;> omega)) only [Sall,evalOp,init,binE,binI,unE,convE,okNil,builtE,gv,TD.isAgg,resV,↓reduceIte,Nat.reduceEqDiff,reduceCtorEq,Nat.reduceAdd,Nat.reduceMul,Nat.reduceLeDiff,quietOp,blindOp,Int.reduceEq,Int.reduceLT,Int.reduceLE,Nat.reduceLT,tiA,tiXA, awpT_nil, awpT_one, awpT_run_nil, awpT_run_cons, h6, h5, zz, slCells]
        (repeat refine And.intro (by omega) ?_)
        refine ⟨.inr (.inr (o4.sc.le _)), ?_⟩
        try simp (disch := first | omega | (simp only [ints_length, List.length_replicate, List.length_set] <;> omega)) only [Sall,evalOp,init,binE,binI,unE,convE,okNil,builtE,gv,TD.isAgg,resV,↓reduceIte,Nat.reduceEqDiff,reduceCtorEq,Nat.reduceAdd,Nat.reduceMul,Nat.reduceLeDiff,quietOp,blindOp,Int.reduceEq,Int.reduceLT,Int.reduceLE,Nat.reduceLT,tiA,tiXA, awpT_nil, awpT_one, awpT_run_nil, awpT_run_cons, h6, h5, zz, slCells]
        (repeat refine And.intro (by omega) ?_)
        refine (o4.tmp ⟨2, true, [.int .i64 i]⟩).app 1 (ms := ints [(i : Int)]) rfl rfl (by omega) rfl (by omega) (by decide) (by omega) ?_
        intro v6 H6 n6 o6
        rw [ints_append] at o6
        refine ⟨.inr (.inl (by kernel_rfl)), ?_⟩
        try simp (disch := first | omega | (simp only [ints_length, List.length_replicate, List.length_set] <;> omega)) only [Sall,evalOp,init,binE,binI,unE,convE,okNil,builtE,gv,TD.isAgg,resV,↓reduceIte,Nat.reduceEqDiff,reduceCtorEq,Nat.reduceAdd,Nat.reduceMul,Nat.reduceLeDiff,quietOp,blindOp,Int.reduceEq,Int.reduceLT,Int.reduceLE,Nat.reduceLT,tiA,tiXA, awpT_nil, awpT_one, awpT_run_nil, awpT_run_cons, h6, h5]
        have rU := (o6.getV 0 rfl).2.2
        try simp (disch := first | omega | (simp only [ints_length, List.length_replicate, List.length_set] <;> omega)) only [Sall,evalOp,init,binE,binI,unE,convE,okNil,builtE,gv,TD.isAgg,resV,↓reduceIte,Nat.reduceEqDiff,reduceCtorEq,Nat.reduceAdd,Nat.reduceMul,Nat.reduceLeDiff,quietOp,blindOp,Int.reduceEq,Int.reduceLT,Int.reduceLE,Nat.reduceLT,tiA,tiXA, awpT_nil, awpT_one, awpT_run_nil, awpT_run_cons, h6, h5, slCells, rU, hsg, hl, ints_length]
        (repeat refine And.intro (by omega) ?_)
        by_cases hd : a < i
        · refine o6.app 1 (vs := ints (l.take a ++ [(i : Int)])) (n := a + 1) (c := i - a) (ms := ints (l.drop a)) rfl rfl (by omega) (by rw [ints_length, List.length_drop]; omega) (by omega) (by decide) (by omega) ?_
          intro v7 H7 n7 o7
          rw [show a + 1 + (i - a) = i + 1 by omega, ints_append] at o7
          have o8 : Ow B2 H7 [.sl 1 2 (.slice (some ⟨ui, 0, some 1⟩) i i) i (ints l), .sl 1 2 v7 (i + 1) (ints (l.take a ++ [(i : Int)] ++ l.drop a))] := o7
          obtain ⟨u7, q1, q2, rfl, q4⟩ := o8.get 1 rfl (by omega)
          try simp (disch := first | omega | (simp only [ints_length, List.length_replicate, List.length_set] <;> omega)) only [Sall,evalOp,init,binE,binI,unE,convE,okNil,builtE,gv,TD.isAgg,resV,↓reduceIte,Nat.reduceEqDiff,reduceCtorEq,Nat.reduceAdd,Nat.reduceMul,Nat.reduceLeDiff,quietOp,blindOp,Int.reduceEq,Int.reduceLT,Int.reduceLE,Nat.reduceLT,tiA,tiXA, awpT_nil, awpT_one, awpT_run_nil, awpT_run_cons, h6, h5, h0, h1, w64]
          exact ⟨.inr (.inl (by kernel_rfl)), n.toNat - (i + 1), by omega, i + 1, u7, _, B2, rfl, by omega, by omega, rfl, hB2, fin7 _ _ _ _ o8, hm6⟩
        · have hai2 : a = i := by omega
          subst hai2
          have o8 : Ow B2 H6 [.sl 1 2 (.slice (some ⟨ui, 0, some 1⟩) a a) a (ints l), .sl 1 2 v6 (a + 1) (ints (l.take a ++ [(a : Int)]))] := o6
          obtain ⟨u7, q1, q2, rfl, q4⟩ := o8.get 1 rfl (by omega)
          rw [Nat.sub_self]
          refine appE_zero ?_
          have hd0 : l.drop a = [] := List.drop_eq_nil_of_le (by omega)
          rw [hd0, List.append_nil] at hm6
          try simp (disch := first | omega | (simp only [ints_length, List.length_replicate, List.length_set] <;> omega)) only [Sall,evalOp,init,binE,binI,unE,convE,okNil,builtE,gv,TD.isAgg,resV,↓reduceIte,Nat.reduceEqDiff,reduceCtorEq,Nat.reduceAdd,Nat.reduceMul,Nat.reduceLeDiff,quietOp,blindOp,Int.reduceEq,Int.reduceLT,Int.reduceLE,Nat.reduceLT,tiA,tiXA, awpT_nil, awpT_one, awpT_run_nil, awpT_run_cons, h6, h5, h0, h1, w64]
          exact ⟨.inr (.inl (by kernel_rfl)), n.toNat - (a + 1), by omega, a + 1, u7, _, B2, rfl, by omega, by omega, rfl, hB2, fin7 _ _ _ _ o8, hm6⟩
      · try simp (disch := first | omega | (simp only [ints_length, List.length_replicate, List.length_set] <;> omega)) only [Sall,evalOp,init,binE,binI,unE,convE,okNil,builtE,gv,TD.isAgg,resV,↓reduceIte,Nat.reduceEqDiff,reduceCtorEq,Nat.reduceAdd,Nat.reduceMul,Nat.reduceLeDiff,quietOp,blindOp,Int.reduceEq,Int.reduceLT,Int.reduceLE,Nat.reduceLT,tiA,tiXA, awpT_nil, awpT_one, awpT_run_nil, awpT_run_cons, h6, h5, zz, slCells]
        (repeat refine And.intro (by omega) ?_)
        refine ⟨.inr (.inr (o3.sc.le _)), ?_⟩
        have o3t := o3.tmp ⟨2, true, [.int .i64 i]⟩
        have rT : (H2.push ⟨2, true, [.int .i64 i]⟩).row H2.next = some ⟨2, true, [.int .i64 i]⟩ := by rw [AH.push_row, if_pos rfl]
        have nT : (H2.push ⟨2, true, [.int .i64 i]⟩).next = H2.next + 1 := rfl
        revert o3t rT nT
        generalize H2.push ⟨2, true, [.int .i64 i]⟩ = H3
        intro o3t rT nT
        try simp (disch := first | omega | (simp only [ints_length, List.length_replicate, List.length_set] <;> omega)) only [Sall,evalOp,init,binE,binI,unE,convE,okNil,builtE,gv,TD.isAgg,resV,↓reduceIte,Nat.reduceEqDiff,reduceCtorEq,Nat.reduceAdd,Nat.reduceMul,Nat.reduceLeDiff,quietOp,blindOp,Int.reduceEq,Int.reduceLT,Int.reduceLE,Nat.reduceLT,tiA,tiXA, awpT_nil, awpT_one, awpT_run_nil, awpT_run_cons, h6, h5]
        have rU3' := (o3t.getV 0 rfl).2.2
        refine (l01Own_c _ (l.take a) H3 (cp_pre rU3' (by omega)) (by omega)).sc.mono ?_
        rintro w H4 ⟨⟨up4, hf4⟩, sc4⟩
        have o4 := o3t.call (Ow.of_fr up4 sc4 hf4)
        rw [hla] at o4
        have rT4 : H4.row H2.next = some ⟨2, true, [.int .i64 i]⟩ := by rw [up4.row _ (by omega)]; exact rT
        refine ⟨.inr (.inr (up4.le o3t.sc)), ?_⟩
        try simp (disch := first | omega | (simp only [ints_length, List.length_replicate, List.length_set] <;> omega)) only [Sall,evalOp,init,binE,binI,unE,convE,okNil,builtE,gv,TD.isAgg,resV,↓reduceIte,Nat.reduceEqDiff,reduceCtorEq,Nat.reduceAdd,Nat.reduceMul,Nat.reduceLeDiff,quietOp,blindOp,Int.reduceEq,Int.reduceLT,Int.reduceLE,Nat.reduceLT,tiA,tiXA, awpT_nil, awpT_one, awpT_run_nil, awpT_run_cons, h6, h5, zz, slCells, rT4]
        (repeat refine And.intro (by omega) ?_)
        refine o4.app 1 (ms := ints [(i : Int)]) rfl rfl (by omega) rfl (by omega) (by decide) (by omega) ?_
        intro v6 H6 n6 o6
        rw [ints_append] at o6
        refine ⟨.inr (.inl (by kernel_rfl)), ?_⟩
        try simp (disch := first | omega | (simp only [ints_length, List.length_replicate, List.length_set] <;> omega)) only [Sall,evalOp,init,binE,binI,unE,convE,okNil,builtE,gv,TD.isAgg,resV,↓reduceIte,Nat.reduceEqDiff,reduceCtorEq,Nat.reduceAdd,Nat.reduceMul,Nat.reduceLeDiff,quietOp,blindOp,Int.reduceEq,Int.reduceLT,Int.reduceLE,Nat.reduceLT,tiA,tiXA, awpT_nil, awpT_one, awpT_run_nil, awpT_run_cons, h6, h5]
        have rU := (o6.getV 0 rfl).2.2
        try simp (disch := first | omega | (simp only [ints_length, List.length_replicate, List.length_set] <;> omega)) only [Sall,evalOp,init,binE,binI,unE,convE,okNil,builtE,gv,TD.isAgg,resV,↓reduceIte,Nat.reduceEqDiff,reduceCtorEq,Nat.reduceAdd,Nat.reduceMul,Nat.reduceLeDiff,quietOp,blindOp,Int.reduceEq,Int.reduceLT,Int.reduceLE,Nat.reduceLT,tiA,tiXA, awpT_nil, awpT_one, awpT_run_nil, awpT_run_cons, h6, h5, slCells, rU, hsg, hl, ints_length]
        (repeat refine And.intro (by omega) ?_)
        by_cases hd : a < i
        · refine o6.app 1 (vs := ints (l.take a ++ [(i : Int)])) (n := a + 1) (c := i - a) (ms := ints (l.drop a)) rfl rfl (by omega) (by rw [ints_length, List.length_drop]; omega) (by omega) (by decide) (by omega) ?_
          intro v7 H7 n7 o7
          rw [show a + 1 + (i - a) = i + 1 by omega, ints_append] at o7
          have o8 : Ow B2 H7 [.sl 1 2 (.slice (some ⟨ui, 0, some 1⟩) i i) i (ints l), .sl 1 2 v7 (i + 1) (ints (l.take a ++ [(i : Int)] ++ l.drop a))] := o7
          obtain ⟨u7, q1, q2, rfl, q4⟩ := o8.get 1 rfl (by omega)
          try simp (disch := first | omega | (simp only [ints_length, List.length_replicate, List.length_set] <;> omega)) only [Sall,evalOp,init,binE,binI,unE,convE,okNil,builtE,gv,TD.isAgg,resV,↓reduceIte,Nat.reduceEqDiff,reduceCtorEq,Nat.reduceAdd,Nat.reduceMul,Nat.reduceLeDiff,quietOp,blindOp,Int.reduceEq,Int.reduceLT,Int.reduceLE,Nat.reduceLT,tiA,tiXA, awpT_nil, awpT_one, awpT_run_nil, awpT_run_cons, h6, h5, h0, h1, w64]
          exact ⟨.inr (.inl (by kernel_rfl)), n.toNat - (i + 1), by omega, i + 1, u7, _, B2, rfl, by omega, by omega, rfl, hB2, fin7 _ _ _ _ o8, hm6⟩
        · have hai2 : a = i := by omega
          subst hai2
          have o8 : Ow B2 H6 [.sl 1 2 (.slice (some ⟨ui, 0, some 1⟩) a a) a (ints l), .sl 1 2 v6 (a + 1) (ints (l.take a ++ [(a : Int)]))] := o6
          obtain ⟨u7, q1, q2, rfl, q4⟩ := o8.get 1 rfl (by omega)
          rw [Nat.sub_self]
          refine appE_zero ?_
          have hd0 : l.drop a = [] := List.drop_eq_nil_of_le (by omega)
          rw [hd0, List.append_nil] at hm6
          try simp (disch := first | omega | (simp only [ints_length, List.length_replicate, List.length_set] <;> omega)) only [Sall,evalOp,init,binE,binI,unE,convE,okNil,builtE,gv,TD.isAgg,resV,↓reduceIte,Nat.reduceEqDiff,reduceCtorEq,Nat.reduceAdd,Nat.reduceMul,Nat.reduceLeDiff,quietOp,blindOp,Int.reduceEq,Int.reduceLT,Int.reduceLE,Nat.reduceLT,tiA,tiXA, awpT_nil, awpT_one, awpT_run_nil, awpT_run_cons, h6, h5, h0, h1, w64]
          exact ⟨.inr (.inl (by kernel_rfl)), n.toNat - (a + 1), by omega, a + 1, u7, _, B2, rfl, by omega, by omega, rfl, hB2, fin7 _ _ _ _ o8, hm6⟩
    · have hie : i = n.toNat := by omega
      subst hie
      try simp (disch := first | omega | (simp only [ints_length, List.length_replicate, List.length_set] <;> omega)) only [Sall,evalOp,init,binE,binI,unE,convE,okNil,builtE,gv,TD.isAgg,resV,↓reduceIte,Nat.reduceEqDiff,reduceCtorEq,Nat.reduceAdd,Nat.reduceMul,Nat.reduceLeDiff,quietOp,blindOp,Int.reduceEq,Int.reduceLT,Int.reduceLE,Nat.reduceLT,tiA,tiXA, h5]
      exact ⟨l, B, hB, o2, hp⟩
end Go.Proofs.Ytgkmdfjjlghecaa.A
end

section
set_option linter.unusedSimpArgs false
set_option linter.unusedVariables false
set_option maxRecDepth 100000
set_option maxHeartbeats 2000000
namespace Go.Proofs.Ytgkmdfjjlghecaa.A
open Go Go.Abs Go.RowKit

theorem Ow.rebase {cv : Value} {nb si : Nat} {H H1 B H' : AH} {L : List Th} (o : Ow B H' L) (up : Up H.next H H1) (k : SrcB cv nb si H1 B) (hsi : H.next ≤ si) : Ow H H' L := by
  obtain ⟨w, hw⟩ := o.own
  have h1 := up.next
  have h2 := k.next
  have h3 := o.next
  refine ⟨o.sc, by omega, fun i hi => by rw [o.low i (by omega), k.row i (by omega), up.row i hi], w, fun j q hj => q.loc H' H' _ _ (fun i hi => ⟨by omega, hi.2⟩) (fun _ _ _ h => h) (hw j q hj)⟩
theorem CodeX.of {cv : Value} {nb : Nat} {H H1 : AH} (h : CodeOk H cv nb) (hs : Sc H) (up : Up H.next H H1) : CodeX cv nb H.next H1 := fun H' hk => by
  rcases h with ⟨q1, q2⟩ | ⟨i, o, u, c, r, q1, q2, q3⟩
  · exact .inl ⟨q1, q2⟩
  · have := hs _ _ q2
    exact .inr ⟨i, o, u, c, r, q1, hk _ _ (by omega) (by rw [up.row i this]; exact q2), q3⟩
theorem CodeOk.up {cv : Value} {nb : Nat} {H H1 : AH} (h : CodeOk H cv nb) (hs : ∀ i r, H.row i = some r → H1.row i = some r) : CodeOk H1 cv nb := by
  rcases h with ⟨q1, q2⟩ | ⟨i, o, u, c, r, q1, q2, q3⟩
  · exact .inl ⟨q1, q2⟩
  · exact .inr ⟨i, o, u, c, r, q1, hs _ _ q2, q3⟩

end Go.Proofs.Ytgkmdfjjlghecaa.A
end

section
set_option linter.unusedSimpArgs false
set_option linter.unusedVariables false
set_option maxRecDepth 100000
set_option maxHeartbeats 2000000
namespace Go.Proofs.Ytgkmdfjjlghecaa.A
open Go Go.Abs Go.RowKit

theorem big_c (cv : Value) (nb : Nat) (H : AH) (hc : CodeOk H cv nb) : ACalls Try.prog 38 [cv] H (is (.bool (decide (4096 < (nb : Int)))) H) := by
  refine acalls_of_awp [.tmp 2] Try.func38 (by kernel_rfl) rfl rfl (Nat.le_of_ble_eq_true rfl) (by kernel_rfl) ?_
  have hln := hc.len
  try simp (disch := first | omega | (simp only [ints_length, List.length_replicate, List.length_set] <;> omega)) only [Sall,evalOp,init,binE,binI,unE,convE,okNil,builtE,gv,TD.isAgg,resV,↓reduceIte,Nat.reduceEqDiff,reduceCtorEq,Nat.reduceAdd,Nat.reduceMul,Nat.reduceLeDiff,quietOp,blindOp,Int.reduceEq,Int.reduceLT,Int.reduceLE,Nat.reduceLT,tiA,tiXA, hln, builtE]
  exact ⟨rfl, rfl⟩

theorem likeInts_c (a b : Value) (n : Nat) (l : List Int) (H : AH) (hn : n ≤ 4294967296) (ha : Rd 1 H a n l) (hb : Rd 1 H b n l) : ACalls Try.prog 48 [a, b] H (is (.bool true) H) := by
  refine acalls_of_awp [.tmp 4] Try.func48 (by kernel_rfl) rfl rfl (Nat.le_of_ble_eq_true rfl) (by kernel_rfl) ?_
  have la := ha.len
  have lb := hb.len
  try simp (disch := first | omega | (simp only [ints_length, List.length_replicate, List.length_set] <;> omega)) only [Sall,evalOp,init,binE,binI,unE,convE,okNil,builtE,gv,TD.isAgg,resV,↓reduceIte,Nat.reduceEqDiff,reduceCtorEq,Nat.reduceAdd,Nat.reduceMul,Nat.reduceLeDiff,quietOp,blindOp,Int.reduceEq,Int.reduceLT,Int.reduceLE,Nat.reduceLT,tiA,tiXA, la, lb, builtE, bne_self_eq_false]
  refine awp_loop (fun z t H' => H' = H ∧ ∃ j : Nat, z = n - j ∧ j ≤ n ∧ t 5 = .int .i64 j ∧ t 0 = a ∧ t 1 = b) n ?_ ?_
  · refine ⟨rfl, 0, by omega, by omega, ?_⟩
    try simp (disch := first | omega | (simp only [ints_length, List.length_replicate, List.length_set] <;> omega)) only [Sall,evalOp,init,binE,binI,unE,convE,okNil,builtE,gv,TD.isAgg,resV,↓reduceIte,Nat.reduceEqDiff,reduceCtorEq,Nat.reduceAdd,Nat.reduceMul,Nat.reduceLeDiff,quietOp,blindOp,Int.reduceEq,Int.reduceLT,Int.reduceLE,Nat.reduceLT,tiA,tiXA, Int.natCast_zero]
  · rintro z t H' ⟨rfl, j, hz, hj, h5, h0, h1⟩
    try simp (disch := first | omega | (simp only [ints_length, List.length_replicate, List.length_set] <;> omega)) only [Sall,evalOp,init,binE,binI,unE,convE,okNil,builtE,gv,TD.isAgg,resV,↓reduceIte,Nat.reduceEqDiff,reduceCtorEq,Nat.reduceAdd,Nat.reduceMul,Nat.reduceLeDiff,quietOp,blindOp,Int.reduceEq,Int.reduceLT,Int.reduceLE,Nat.reduceLT,tiA,tiXA, h5, h0, la, builtE]
    refine condC_dec (fun hh => ?_) (fun hh => ?_)
    · obtain ⟨ai, ao, au, ac, ar, rfl, a1, a2, a3, a4⟩ := ha.get (by omega)
      obtain ⟨bi, bo, bu, bc, br, rfl, b1, b2, b3, b4⟩ := hb.get (by omega)
      have a5 := a3 j (by omega)
      have b5 := b3 j (by omega)
      try simp (disch := first | omega | (simp only [ints_length, List.length_replicate, List.length_set] <;> omega)) only [Sall,evalOp,init,binE,binI,unE,convE,okNil,builtE,gv,TD.isAgg,resV,↓reduceIte,Nat.reduceEqDiff,reduceCtorEq,Nat.reduceAdd,Nat.reduceMul,Nat.reduceLeDiff,quietOp,blindOp,Int.reduceEq,Int.reduceLT,Int.reduceLE,Nat.reduceLT,tiA,tiXA, h5, h0, h1]
      refine draw_id (by kernel_rfl) (by kernel_rfl) ?_
      try simp (disch := first | omega | (simp only [ints_length, List.length_replicate, List.length_set] <;> omega)) only [Sall,evalOp,init,binE,binI,unE,convE,okNil,builtE,gv,TD.isAgg,resV,↓reduceIte,Nat.reduceEqDiff,reduceCtorEq,Nat.reduceAdd,Nat.reduceMul,Nat.reduceLeDiff,quietOp,blindOp,Int.reduceEq,Int.reduceLT,Int.reduceLE,Nat.reduceLT,tiA,tiXA, h5, h0, h1, a1, a5, b1, b5, bne_self_eq_false, w64]
      (repeat refine And.intro (by omega) ?_)
      try simp (disch := first | omega | (simp only [ints_length, List.length_replicate, List.length_set] <;> omega)) only [Sall,evalOp,init,binE,binI,unE,convE,okNil,builtE,gv,TD.isAgg,resV,↓reduceIte,Nat.reduceEqDiff,reduceCtorEq,Nat.reduceAdd,Nat.reduceMul,Nat.reduceLeDiff,quietOp,blindOp,Int.reduceEq,Int.reduceLT,Int.reduceLE,Nat.reduceLT,tiA,tiXA, h5, h0, h1, a1, a5, b1, b5, bne_self_eq_false, w64]
      exact ⟨n - (j + 1), by omega, j + 1, rfl, by omega, rfl⟩
    · try simp (disch := first | omega | (simp only [ints_length, List.length_replicate, List.length_set] <;> omega)) only [Sall,evalOp,init,binE,binI,unE,convE,okNil,builtE,gv,TD.isAgg,resV,↓reduceIte,Nat.reduceEqDiff,reduceCtorEq,Nat.reduceAdd,Nat.reduceMul,Nat.reduceLeDiff,quietOp,blindOp,Int.reduceEq,Int.reduceLT,Int.reduceLE,Nat.reduceLT,tiA,tiXA, true_and]
      exact ⟨rfl, rfl⟩

structure Dr (cv : Value) (nb : Nat) (H H1 H' : AH) (L : List Th) : Prop where
  ex : ∃ B, SrcB cv nb H.next H1 B ∧ Ow B H' L
section
variable {cv : Value} {nb : Nat} {H H1 H' : AH} {L : List Th}
theorem Dr.src (h : Dr cv nb H H1 H' L) (hn : H.next < H1.next) : Src cv nb H.next H' := by
  obtain ⟨B, b, o⟩ := h.ex; exact Ow.srcAt o b hn
theorem Dr.code (h : Dr cv nb H H1 H' L) (hx : CodeX cv nb H.next H1) (sc : Sc H1) : CodeX cv nb H.next H' := by
  obtain ⟨B, b, o⟩ := h.ex; exact hx.later fun i r hi hr => Ow.oldX o b sc i r hi hr
theorem Dr.sc (h : Dr cv nb H H1 H' L) : Sc H' := by obtain ⟨B, b, o⟩ := h.ex; exact o.sc
theorem Dr.next (h : Dr cv nb H H1 H' L) (hn : H.next < H1.next) {H2 : AH} (k : SrcB cv nb H.next H' H2) : Dr cv nb H H1 H2 L := by
  obtain ⟨B, b, o⟩ := h.ex
  obtain ⟨B2, b2, o2⟩ := Ow.src o (by rw [b.next]; exact hn) k
  exact ⟨B2, b.trans b2, o2⟩
theorem Dr.call (h : Dr cv nb H H1 H' L) (hn : H.next < H1.next) {H2 H3 : AH} {M : List Th} (k : SrcB cv nb H.next H' H2) (o3 : Ow H2 H3 M) : Dr cv nb H H1 H3 (L ++ M) := by
  obtain ⟨B, b, o⟩ := h.ex
  obtain ⟨B2, b2, o2⟩ := Ow.srcCall o (by rw [b.next]; exact hn) k o3
  exact ⟨B2, b.trans b2, o2⟩
theorem Dr.calls (h : Dr cv nb H H1 H' L) {H3 : AH} {M : List Th} (o3 : Ow H' H3 M) : Dr cv nb H H1 H3 (L ++ M) := by
  obtain ⟨B, b, o⟩ := h.ex
  exact ⟨B, b, o.call o3⟩
theorem Dr.map (h : Dr cv nb H H1 H' L) {H2 : AH} {M : List Th} (f : ∀ B, Ow B H' L → Ow B H2 M) : Dr cv nb H H1 H2 M := by
  obtain ⟨B, b, o⟩ := h.ex
  exact ⟨B, b, f B o⟩
theorem Dr.fin (h : Dr cv nb H H1 H' L) (up : Up H.next H H1) : Ow H H' L := by
  obtain ⟨B, b, o⟩ := h.ex
  exact Ow.rebase o up b (Nat.le_refl _)
end
end Go.Proofs.Ytgkmdfjjlghecaa.A
end

section
set_option linter.unusedSimpArgs false
set_option linter.unusedVariables false
namespace Go.Abs

end Go.Abs
end

section
set_option linter.unusedSimpArgs false
set_option linter.unusedVariables false
set_option maxRecDepth 100000
set_option maxHeartbeats 2000000
namespace Go.Proofs.Ytgkmdfjjlghecaa.A
open Go Go.Abs Go.RowKit

end Go.Proofs.Ytgkmdfjjlghecaa.A
end

section
set_option linter.unusedSimpArgs false
set_option linter.unusedVariables false
set_option maxRecDepth 100000
set_option maxHeartbeats 2000000
namespace Go.Proofs.Ytgkmdfjjlghecaa.A
open Go Go.Abs Go.RowKit

end Go.Proofs.Ytgkmdfjjlghecaa.A
end

section
set_option linter.unusedSimpArgs false
set_option linter.unusedVariables false
namespace Go.Abs

end Go.Abs
end

section
set_option linter.unusedSimpArgs false
set_option linter.unusedVariables false
set_option maxRecDepth 100000
set_option maxHeartbeats 2000000
namespace Go.Proofs.Ytgkmdfjjlghecaa.A
open Go Go.Abs Go.RowKit

end Go.Proofs.Ytgkmdfjjlghecaa.A
end

section
set_option linter.unusedSimpArgs false
set_option linter.unusedVariables false
set_option maxRecDepth 100000
set_option maxHeartbeats 2000000
namespace Go.Proofs.Ytgkmdfjjlghecaa.A
open Go Go.Abs Go.RowKit

def VL (n : Nat) (l : List Int) : Prop := ∀ x, x ∈ l → 0 ≤ x ∧ x < (n : Int)
theorem VL.getD {n : Nat} {l : List Int} (h : VL n l) {j : Nat} (hj : j < l.length) : 0 ≤ l.getD j 0 ∧ l.getD j 0 < (n : Int) := by
  rw [List.getD_eq_getElem?_getD, List.getElem?_eq_getElem hj]
  exact h _ (List.getElem_mem _)
theorem VL.set {n : Nat} {l : List Int} (h : VL n l) {x : Int} (hx : 0 ≤ x ∧ x < (n : Int)) (j : Nat) : VL n (l.set j x) := fun y hy => by
  rcases List.mem_or_eq_of_mem_set hy with h1 | h1
  · exact h y h1
  · rw [h1]; exact hx
theorem VL.app {n : Nat} {l m : List Int} (h : VL n l) (k : VL n m) : VL n (l ++ m) := fun y hy => by
  rcases List.mem_append.1 hy with h1 | h1
  · exact h y h1
  · exact k y h1
theorem VL.zeros {n : Nat} (h : 0 < n) (k : Nat) : VL n (List.replicate k 0) := fun y hy => by
  rw [List.eq_of_mem_replicate hy]; omega
theorem VL.nil (n : Nat) : VL n [] := fun y hy => by simp at hy

end Go.Proofs.Ytgkmdfjjlghecaa.A
end

section
set_option linter.unusedSimpArgs false
set_option linter.unusedVariables false
set_option maxRecDepth 100000
set_option maxHeartbeats 2000000
namespace Go.Proofs.Ytgkmdfjjlghecaa.A
open Go Go.Abs Go.RowKit

end Go.Proofs.Ytgkmdfjjlghecaa.A
end

section
set_option linter.unusedSimpArgs false
set_option linter.unusedVariables false
set_option maxRecDepth 100000
set_option maxHeartbeats 2000000
namespace Go.Proofs.Ytgkmdfjjlghecaa.A
open Go Go.Abs Go.RowKit

structure Dq (cv : Value) (nb si : Nat) (H H' : AH) (L : List Th) : Prop where
  ex : ∃ B, SrcB cv nb si H B ∧ Ow B H' L
section
variable {cv : Value} {nb si : Nat} {H H' : AH} {L : List Th}
theorem Dq.start (h : Src cv nb si H) (sc : Sc H) : Dq cv nb si H H [] := ⟨⟨H, SrcB.refl h, Ow.refl sc⟩⟩
theorem Dq.src (h : Dq cv nb si H H' L) (hn : si < H.next) : Src cv nb si H' := by
  obtain ⟨B, b, o⟩ := h.ex; exact Ow.srcAt o b hn
theorem Dq.code (h : Dq cv nb si H H' L) (hx : CodeX cv nb si H) (sc : Sc H) : CodeX cv nb si H' := by
  obtain ⟨B, b, o⟩ := h.ex; exact hx.later fun i r hi hr => Ow.oldX o b sc i r hi hr
theorem Dq.sc (h : Dq cv nb si H H' L) : Sc H' := by obtain ⟨B, b, o⟩ := h.ex; exact o.sc
theorem Dq.le (h : Dq cv nb si H H' L) : H.next ≤ H'.next := by obtain ⟨B, b, o⟩ := h.ex; have := b.next; have := o.next; omega
theorem Dq.old (h : Dq cv nb si H H' L) (sc : Sc H) : ∀ i r, i ≠ si → H.row i = some r → H'.row i = some r := by
  obtain ⟨B, b, o⟩ := h.ex; exact Ow.oldX o b sc
theorem Dq.next (h : Dq cv nb si H H' L) (hn : si < H.next) {H2 : AH} (k : SrcB cv nb si H' H2) : Dq cv nb si H H2 L := by
  obtain ⟨B, b, o⟩ := h.ex
  obtain ⟨B2, b2, o2⟩ := Ow.src o (by rw [b.next]; exact hn) k
  exact ⟨B2, b.trans b2, o2⟩
theorem Dq.call (h : Dq cv nb si H H' L) (hn : si < H.next) {H2 H3 : AH} {M : List Th} (k : SrcB cv nb si H' H2) (o3 : Ow H2 H3 M) : Dq cv nb si H H3 (L ++ M) := by
  obtain ⟨B, b, o⟩ := h.ex
  obtain ⟨B2, b2, o2⟩ := Ow.srcCall o (by rw [b.next]; exact hn) k o3
  exact ⟨B2, b.trans b2, o2⟩
theorem Dq.bind (h : Dq cv nb si H H' L) (hn : si < H.next) {H3 : AH} {M : List Th} (k : Dq cv nb si H' H3 M) : Dq cv nb si H H3 (L ++ M) := by
  obtain ⟨B, b, o⟩ := k.ex
  exact h.call hn b o
theorem Dq.calls (h : Dq cv nb si H H' L) {H3 : AH} {M : List Th} (o3 : Ow H' H3 M) : Dq cv nb si H H3 (L ++ M) := by
  obtain ⟨B, b, o⟩ := h.ex
  exact ⟨B, b, o.call o3⟩
theorem Dq.map (h : Dq cv nb si H H' L) {H2 : AH} {M : List Th} (f : ∀ B, Ow B H' L → Ow B H2 M) : Dq cv nb si H H2 M := by
  obtain ⟨B, b, o⟩ := h.ex
  exact ⟨B, b, f B o⟩
theorem Dq.push (h : Dq cv nb si H H' L) (r : Row) : Dq cv nb si H (H'.push r) (L ++ [.row H'.next r]) := h.map fun B o => o.push r
theorem Dq.tmp (h : Dq cv nb si H H' L) (r : Row) : Dq cv nb si H (H'.push r) L := h.map fun B o => o.tmp r
theorem Dq.left {M : List Th} (h : Dq cv nb si H H' (L ++ M)) : Dq cv nb si H H' L := h.map fun B o => o.left
theorem Dq.putRow (h : Dq cv nb si H H' L) (k : Nat) {i : Nat} {ty : TypeId} {b : Bool} {cs cs' : List Value} (hk : L[k]? = some (.row i ⟨ty, b, cs⟩)) : Dq cv nb si H (H'.setCells i cs') (L.set k (.row i ⟨ty, b, cs'⟩)) := h.map fun B o => o.putRow k hk
theorem Dq.rowAt (h : Dq cv nb si H H' L) (k : Nat) {i : Nat} {r : Row} (hk : L[k]? = some (.row i r)) : H'.row i = some r := by
  obtain ⟨B, b, o⟩ := h.ex
  exact (o.rowAt k hk).1
theorem Dq.rd (h : Dq cv nb si H H' L) (k : Nat) {z n : Nat} {ty : TypeId} {v : Value} {l : List Int} (hk : L[k]? = some (.sl z ty v n (ints l))) : Rd z H' v n l := by
  obtain ⟨B, b, o⟩ := h.ex
  exact o.rd k hk
theorem Dq.rd2 (h : Dq cv nb si H H' L) (k : Nat) {ty ty' : TypeId} {v : Value} {ll : List (List Int)} (hk : L[k]? = some (.sl2 (Value.int .i64) ty ty' v ll)) : Rd2 1 H' v ll := by
  obtain ⟨B, b, o⟩ := h.ex
  exact o.rd2 k hk
theorem Dq.one (h : Dq cv nb si H H' L) (k : Nat) {z n : Nat} {ty : TypeId} {v : Value} {vs : List Value} (hk : L[k]? = some (.sl z ty v n vs)) : v.oneCell' = true := by
  obtain ⟨B, b, o⟩ := h.ex
  exact o.one k hk
theorem Dq.capOne (h : Dq cv nb si H H' L) (k : Nat) {z n : Nat} {ty : TypeId} {v : Value} {vs : List Value} (hk : L[k]? = some (.cap z ty v n vs)) : v.oneCell' = true := by
  obtain ⟨B, b, o⟩ := h.ex
  exact o.capOne k hk
theorem Dq.capRs (h : Dq cv nb si H H' L) (k : Nat) {z n : Nat} {ty : TypeId} {v : Value} {l : List Int} (hk : L[k]? = some (.cap z ty v n (ints l))) : Rs z H' v n l := by
  obtain ⟨B, b, o⟩ := h.ex
  exact o.capRs k hk
end

end Go.Proofs.Ytgkmdfjjlghecaa.A
end

section
set_option linter.unusedSimpArgs false
set_option linter.unusedVariables false
namespace Go.Abs
open Go Go.RowKit

structure LES (S : Nat → Prop) (H H' : AH) : Prop where
  next : H.next ≤ H'.next
  row : ∀ i r, S i → H.row i = some r → H'.row i = some r
theorem LES.refl (S : Nat → Prop) (H : AH) : LES S H H := ⟨Nat.le_refl _, fun _ _ _ h => h⟩
theorem LE.les {S : Nat → Prop} {H H' : AH} (h : LE H H') : LES S H H' := ⟨h.next, fun i r _ => h.row i r⟩

def loadOk (S : Nat → Prop) (t : T) : Op → Prop
  | .load _ a => match evo t a with | some (.pointer (some ⟨i, _, _⟩)) => S i | _ => True
  | _ => True
def Safe (P : Program) (S : Nat → Prop) (t : T) (op : Op) : Prop := ∀ H H' v, LES S H H' → yl (evalOp P t H op) v → yl (evalOp P t H' op) v
theorem safe_of {P : Program} {S : Nat → Prop} {t : T} {op : Op} (hq : quietOp op = true) (h : loadOk S t op) : Safe P S t op := by
  intro H H' v hle h
  by_cases hb : blindOp op = true
  · rw [blind_setH P t H H' op hb]; exact yl_setH _ h
  · cases op with
    | load ty a =>
      rename_i hS
      simp only [evalOp] at h ⊢
      cases hI : ti P ty with
      | none => simp only [hI] at h; exact h.elim
      | some I =>
        simp only [hI, bindO_some] at h ⊢
        cases hv : evo t a with
        | none => simp only [hv] at h; exact h.elim
        | some u =>
          simp only [hv, bindO_some] at h ⊢
          unfold asP at h ⊢
          split at h
          · rename_i i o
            unfold loadOk at hS
            simp only [hv] at hS
            cases hr : H.row i with
            | none => simp only [hr] at h; exact h.elim
            | some r =>
              have hr2 := hle.row i r hS hr
              simp only [hr, hr2, bindO_some] at h ⊢
              split at h
              · rename_i hd; rw [if_pos hd]; exact h
              · rename_i hd
                rw [if_neg hd]
                cases hx : r.cells[o]? with
                | none => simp only [hx] at h; exact h.elim
                | some x => simp only [hx, bindO_some] at h ⊢; exact h
          · exact h.elim
    | _ => simp_all [quietOp, blindOp]
theorem Safe.upd {P : Program} {S : Nat → Prop} {ops : Array Oper} {o : Oper} {t : T} {u : Value} {d : Option Nat} (h : ∀ i, d = some i → i ∉ o.looksAt ops) (k : Safe P S t o.op) : Safe P S (updO t d u) o.op := by
  intro H H' v hle
  rw [evalOp_updO o h, evalOp_updO o h]
  exact k H H' v hle
theorem aYield.safe {P : Program} {S : Nat → Prop} {ops : Array Oper} {o : Oper} {t : T} {H H' : AH} {v : Value} (hs : Safe P S t o.op) (hle : LES S H H') (h : aYield P ops o t H v) : aYield P ops o t H' v := by
  unfold aYield at *
  split at h
  · rename_i hg; exact hs _ _ _ hle h
  · rename_i g hg; exact condW_mono h (hs _ _ _ hle) id
def AAnyS (P : Program) (ops : Array Oper) (S : Nat → Prop) (Q : T → AH → Prop) : Nat → Array Bool → T → AH → Prop
  | 0, listed, t, H => Region.ready .any ops listed = [] ∧ Q t H
  | f + 1, listed, t, H => (Region.ready .any ops listed = [] → Q t H) ∧
    ∀ i ∈ Region.ready .any ops listed, aStep P ops.toList i t H fun t' H' => (sinkB ops i = true ∨ LES S H H') ∧ AAnyS P ops S Q f (listed.setIfInBounds i true) t' H'

theorem AAnyS_first {P : Program} {ops : Array Oper} {S : Nat → Prop} {Q : T → AH → Prop} {q : Nat} {oq : Oper} {v : Value} (hoq : ops[q]? = some oq) (hqt : quietOp oq.op = true) :
    ∀ (f : Nat) (listed : Array Bool) (t : T) (H : AH), Closed ops listed →
      (∀ j oj, ops[j]? = some oj → j ≠ q → listed.getD j true = false → (∀ e ∈ oj.after, Region.binds .any e = true → e.on ≠ q) → oq.apart ops oj = true) →
      q ∈ Region.ready .any ops listed → Safe P S t oq.op → aYield P ops oq t H v → AAnyS P ops S Q f (listed.setIfInBounds q true) (updO t oq.dst v) H → AAnyS P ops S Q (f + 1) listed t H := by
  intro f
  induction f with
  | zero =>
    intro listed t H hc _ hr hsf hy hA
    refine ⟨fun h => (by rw [h] at hr; cases hr), fun j hj => ?_⟩
    by_cases hjq : j = q
    · subst hjq; exact hy.step hoq hqt ⟨.inr (LES.refl _ _), hA⟩
    · have := ready_mono hj hjq
      rw [hA.1] at this
      cases this
  | succ f ih =>
    intro listed t H hc hfree hr hsf hy hA
    refine ⟨fun h => (by rw [h] at hr; cases hr), fun j hj => ?_⟩
    by_cases hjq : j = q
    · subst hjq; exact hy.step hoq hqt ⟨.inr (LES.refl _ _), hA⟩
    · have h1 := hA.2 j (ready_mono hj hjq)
      obtain ⟨hjun, oj, hoj, hall⟩ := ready_iff.1 hj
      obtain ⟨hqun, oq', hoq', hallq⟩ := ready_iff.1 hr
      have : oq' = oq := Option.some.inj (hoq'.symm.trans hoq)
      subst this
      have hqf : listed.getD q false = false := getD_unlisted hqun
      have hjf : listed.getD j false = false := getD_unlisted hjun
      have hnot : ∀ e ∈ oj.after, Region.binds .any e = true → e.on ≠ q := fun e he hb heq => by
        have h1 := hall e he hb
        rw [heq, hqf] at h1; cases h1
      have hap := hfree j oj hoj hjq hjun hnot
      obtain ⟨_, _, h3⟩ := Oper.apart_spec hap
      have h2 := aStep_put hoj hap h1
      refine aStep_mono h2 fun t' H' hk => ?_
      obtain ⟨⟨u, rfl⟩, hs, hk⟩ := hk
      refine ⟨hs, ih (listed.setIfInBounds j true) _ H' (hc.set hj) ?_ (ready_mono hr (Ne.symm hjq)) (hsf.upd h3) ?_ ?_⟩
      · intro k ok hk2 hkq hun hno
        refine hfree k ok hk2 hkq ?_ hno
        by_cases hjk : j = k
        · subst hjk; exact hjun
        · rw [getD_set_ne true hjk] at hun; exact hun
      · by_cases hb : blindOp oq'.op = true
        · exact (hy.later (H' := H') hqt (.inl hb)).upd h3
        · refine (hy.safe (H' := H') hsf ?_).upd h3
          rcases hs with hs | hs
          · rcases sinkB_spec hs hoq (Ne.symm hjq) hqt (by simpa using hb) with hbf | hbf
            · have := hc.bef ops.size j oj hoj hall hbf
              rw [hqf] at this; cases this
            · have := hc.bef ops.size q oq' hoq hallq hbf
              rw [hjf] at this; cases this
          · exact hs
      · rw [Array.setIfInBounds_comm _ _ hjq]
        exact hk

def awpOrdS (P : Program) (ops : Array Oper) (S : Nat → Prop) (Q : T → AH → Prop) : List Nat → T → AH → Prop
  | [], t, H => Q t H
  | i :: is, t, H =>
    match ops.toList[i]? with
    | none => False
    | some o =>
      if quietOp o.op = true then Safe P S t o.op ∧ aStep P ops.toList i t H (awpOrdS P ops S Q is)
      else aStep P ops.toList i t H fun t' H' => (sinkB ops i = true ∨ LES S H H') ∧ awpOrdS P ops S Q is t' H'

theorem AAnyS_ord {P : Program} {ops : Array Oper} {S : Nat → Prop} {Q : T → AH → Prop} : ∀ (is : List Nat) (listed : Array Bool) (t : T) (H : AH) (f : Nat), is.length ≤ f → Closed ops listed → okOrd ops is listed = true → awpOrdS P ops S Q is t H → AAnyS P ops S Q f listed t H
  | [], listed, t, H, f, _, _, hok, h => by
    have hr : Region.ready .any ops listed = [] := by simpa [okOrd] using hok
    cases f with
    | zero => exact ⟨hr, h⟩
    | succ f => exact ⟨fun _ => h, by rw [hr]; simp⟩
  | i :: is, listed, t, H, 0, hl, _, _, _ => by simp at hl
  | i :: is, listed, t, H, f + 1, hl, hc, hok, h => by
    simp only [okOrd, Bool.and_eq_true] at hok
    obtain ⟨h1, h2⟩ := hok
    unfold awpOrdS at h
    cases ho : ops[i]? with
    | none => simp [ho] at h1
    | some o =>
      have e : ops.toList[i]? = some o := by simpa using ho
      simp only [ho] at h1
      rw [e] at h
      simp only at h
      split at h1
      · rename_i hq
        rw [if_pos hq] at h
        simp only [Bool.and_eq_true] at h1
        obtain ⟨hr, hfr⟩ := h1
        have hr' : i ∈ Region.ready .any ops listed := by simpa using hr
        obtain ⟨v, hy, hk⟩ := aStep_quiet ho hq h.2
        exact AAnyS_first ho hq f listed t H hc (Region.free_spec ho hfr) hr' h.1 hy (AAnyS_ord is _ _ H f (by simp at hl; omega) (hc.set hr') h2 hk)
      · rename_i hq
        rw [if_neg hq] at h
        have hr : Region.ready .any ops listed = [i] := by simpa using h1
        refine ⟨fun h0 => (by rw [hr] at h0; cases h0), fun j hj => ?_⟩
        have hji : j = i := by rw [hr] at hj; simpa using hj
        subst hji
        exact aStep_mono h fun t' H' hk => ⟨hk.1, AAnyS_ord is _ t' H' f (by simp at hl; omega) (hc.set hj) h2 hk.2⟩

theorem AAnyS_ok {P : Program} {ops : Array Oper} {S : Nat → Prop} {Q : T → AH → Prop} {QC : Exit → Act → World → Prop} {base : Nat} :
    ∀ (f : Nat) (listed : Array Bool) (t : T) (H : AH) (ρ : Nat → Nat) (w : World) (tmps : Array Value), AAnyS P ops S Q f listed t H → St base ρ t H tmps w → (∀ o ∈ ops.toList, ∀ i, o.dst = some i → i < tmps.size) →
      (∀ t' H' ρ' w' tmps', Q t' H' → St base ρ' t' H' tmps' w' → Ext base ρ H.next w ρ' H'.next w' → tmps'.size = tmps.size → QC .normal ⟨tmps', []⟩ w') →
      wpAny P .any ops QC f listed ⟨tmps, []⟩ w
  | 0, listed, t, H, ρ, w, tmps, h, hS, _, hQ => ⟨h.1, hQ t H ρ w tmps h.2 hS (Ext.refl _ _ _ _) rfl⟩
  | f + 1, listed, t, H, ρ, w, tmps, h, hS, hd, hQ => by
    refine ⟨fun h0 => hQ t H ρ w tmps (h.1 h0) hS (Ext.refl _ _ _ _) rfl, fun i hi => ?_⟩
    have hstep := h.2 i hi
    obtain ⟨_, o, ho, _⟩ := ready_iff.1 hi
    have e : ops.toList[i]? = some o := by simpa using ho
    have hom : o ∈ ops.toList := List.mem_of_getElem? e
    unfold aStep at hstep
    rw [e] at hstep
    simp only at hstep
    have hgo : ∀ v v' H' ρ' w', AAnyS P ops S Q f (listed.setIfInBounds i true) (updO t o.dst v) H' → Rel base ρ' H' w' → Ext base ρ H.next w ρ' H'.next w' → VR ρ' H'.next w' v v' →
        wpAny P .any ops QC f (listed.setIfInBounds i true) (Act.put ⟨tmps, []⟩ o.dst v') w' := by
      intro v v' H' ρ' w' hK R' E hV
      rw [put_eta]
      refine AAnyS_ok f _ _ H' ρ' w' _ hK ⟨R', (hS.2.ext E).put hV o.dst (hd o hom)⟩ (fun o' ho' k hk => by rw [put_size]; exact hd o' ho' k hk) ?_
      intro t' H'' ρ'' w'' tmps' hq hs he hz
      exact hQ t' H'' ρ'' w'' tmps' hq hs (E.trans he) (by rw [hz, put_size])
    have hall := wp_one (P := P) (QC := QC) ops i o ho hS (hnext := fun a w' => wpAny P .any ops QC f (listed.setIfInBounds i true) a w') hgo
      (K := fun v H' => AAnyS P ops S Q f (listed.setIfInBounds i true) (updO t o.dst v) H')
    refine hall ?_
    cases hg : o.guard with
    | none =>
      simp only [hg] at hstep ⊢
      exact runOut_mono (fun v H' hk => hk.2) _ hstep
    | some g =>
      simp only [hg] at hstep ⊢
      exact condW_mono hstep (runOut_mono (fun v H' hk => hk.2) _) (fun hk => hk.2)

theorem draw_okS {P : Program} {id : Nat} {ops : Array Oper} {Q : Exit → T → AH → Prop} {t : T} {H : AH} (S : Nat → Prop) (is : List Nat) (hm : P.follows .mixedOrders = true) (hok : okOrd ops is (Array.replicate ops.size false) = true) (hl : is.length = ops.size)
    (h : awpOrdS P ops S (Q .normal) is t H) : awp P (.region id ops true) Q t H := by
  intro base ρ w tmps QC hS hd hQ
  have hA := AAnyS_ord is _ t H ops.size (by omega) ⟨by simp, fun j oj hj hl => by rw [getD_replicate_false'] at hl; cases hl⟩ hok h
  refine wp_region_any hm (AAnyS_ok ops.size _ t H ρ w.drew tmps hA ⟨hS.1.drew, hS.2.ext (ext_drew (base := base) (H := H) w)⟩ ?_ fun t' H' ρ' w' tmps' hq hs he hz => ?_)
  · intro o ho i hi
    have := List.all_eq_true.1 hd o ho
    simp only [hi, decide_eq_true_eq] at this
    exact this
  · exact hQ .normal t' H' ρ' w' tmps' hq hs ((ext_drew (base := base) (H := H) (ρ := ρ) w).trans he) hz

def stepIS (P : Program) (ops : Array Oper) (S : Nat → Prop) (K : T → AH → Prop) (i : Nat) : Option Oper → T → AH → (fun _ => Prop) (ops, K, i)
  | none, _, _ => False
  | some o, t, H =>
    match o.guard with
    | none => loadOk S t o.op ∧ runOut P H (evalOp P t H o.op) fun v H' => (quietOp o.op = true ∨ sinkB ops i = true ∨ LES S H H') ∧ K (updO t o.dst v) H'
    | some g => loadOk S t o.op ∧ condW (gv ops.toList t g.1) g.2 (runOut P H (evalOp P t H o.op) fun v H' => (quietOp o.op = true ∨ sinkB ops i = true ∨ LES S H H') ∧ K (updO t o.dst v) H') (K (updO t o.dst undef) H)

def awpIS (P : Program) (ops : Array Oper) (S : Nat → Prop) (Q : T → AH → Prop) : (is : List Nat) → T → AH → (fun _ => Prop) (ops, Q, is)
  | [], t, H => Q t H
  | i :: is, t, H => stepIS P ops S (awpIS P ops S Q is) i (ops.toList[i]?) t H

theorem awpIS_ord {P : Program} {ops : Array Oper} {S : Nat → Prop} {Q : T → AH → Prop} : ∀ (is : List Nat) (t : T) (H : AH), awpIS P ops S Q is t H → awpOrdS P ops S Q is t H
  | [], t, H, h => h
  | i :: is, t, H, h => by
    have ih := fun t H => awpIS_ord (P := P) (ops := ops) (S := S) (Q := Q) is t H
    unfold awpIS at h
    unfold awpOrdS
    cases e : ops.toList[i]? with
    | none => rw [e] at h; exact h.elim
    | some o =>
    rw [e] at h
    unfold stepIS at h
    have hs : ∀ K K' : T → AH → Prop, (∀ v H', K (updO t o.dst v) H' → K' (updO t o.dst v) H') → (∀ H', K (updO t o.dst undef) H' → K' (updO t o.dst undef) H') → aStep P ops.toList i t H K → aStep P ops.toList i t H K' := by
      intro K K' k1 k2 hh
      unfold aStep at hh ⊢
      rw [e] at hh ⊢
      simp only at hh ⊢
      cases hg : o.guard with
      | none => simp only [hg] at hh ⊢; exact runOut_mono (fun v H' => k1 v H') _ hh
      | some g => simp only [hg] at hh ⊢; exact condW_mono hh (runOut_mono (fun v H' => k1 v H') _) (k2 H)
    have hload : loadOk S t o.op := by
      cases hg : o.guard <;> simp only [hg] at h <;> exact h.1
    have base : aStep P ops.toList i t H fun t' H' => (quietOp o.op = true ∨ sinkB ops i = true ∨ LES S H H') ∧ awpOrdS P ops S Q is t' H' := by
      unfold aStep
      rw [e]
      simp only
      cases hg : o.guard with
      | none => simp only [hg] at h ⊢; exact runOut_mono (fun v H' k => ⟨k.1, ih _ _ k.2⟩) _ h.2
      | some g => simp only [hg] at h ⊢; exact condW_mono h.2 (runOut_mono (fun v H' k => ⟨k.1, ih _ _ k.2⟩) _) (fun k => ⟨.inr (.inr (LES.refl S H)), ih _ _ k⟩)
    simp only
    split
    · rename_i hqq
      exact ⟨safe_of hqq hload, hs _ _ (fun v H' k => k.2) (fun H' k => k.2) base⟩
    · rename_i hq
      refine hs _ _ ?_ ?_ base
      · rintro v H' ⟨k | k, k2⟩
        · exact absurd k hq
        · exact ⟨k, k2⟩
      · rintro H' ⟨k | k, k2⟩
        · exact absurd k hq
        · exact ⟨k, k2⟩

theorem draw_inS {P : Program} {id : Nat} {ops : Array Oper} {Q : Exit → T → AH → Prop} {t : T} {H : AH} (S : Nat → Prop) (is : List Nat) (hm : P.follows .mixedOrders = true) (hok : okOrd ops is (Array.replicate ops.size false) = true) (hl : is.length = ops.size)
    (h : awpIS P ops S (Q .normal) is t H) : awp P (.region id ops true) Q t H := draw_okS S is hm hok hl (awpIS_ord is _ _ h)

theorem awpIS_nil (P : Program) (ops : Array Oper) (S : Nat → Prop) (Q : T → AH → Prop) (t : T) (H : AH) : awpIS P ops S Q [] t H = Q t H := (rfl)
theorem awpIS_cons (P : Program) (ops : Array Oper) (S : Nat → Prop) (Q : T → AH → Prop) (i : Nat) (is : List Nat) (t : T) (H : AH) : awpIS P ops S Q (i :: is) t H = stepIS P ops S (awpIS P ops S Q is) i (ops.toList[i]?) t H := (rfl)
theorem stepIS_op (P : Program) (ops : Array Oper) (S : Nat → Prop) (K : T → AH → Prop) (i : Nat) (d : Option Tmp) (op : Op) (ty : TypeId) (pos : String) (af : Array Edge) (t : T) (H : AH) :
    stepIS P ops S K i (some ⟨d, op, ty, pos, af, none⟩) t H = (loadOk S t op ∧ runOut P H (evalOp P t H op) fun v H' => (quietOp op = true ∨ sinkB ops i = true ∨ LES S H H') ∧ K (updO t d v) H') := (rfl)
@[congr] theorem stepIS_congr {P : Program} {ops : Array Oper} {S : Nat → Prop} {K : T → AH → Prop} {i : Nat} {o o' : Option Oper} {t t' : T} {H H' : AH} (ho : o = o') (h : t = t') (k : H = H') : stepIS P ops S K i o t H = stepIS P ops S K i o' t' H' := by rw [ho, h, k]
@[congr] theorem awpIS_congr {P : Program} {ops : Array Oper} {S : Nat → Prop} {is : List Nat} {Q : T → AH → Prop} {t t' : T} {H H' : AH} (h : t = t') (k : H = H') : awpIS P ops S Q is t H = awpIS P ops S Q is t' H' := by rw [h, k]
end Go.Abs
end

section
set_option linter.unusedSimpArgs false
set_option linter.unusedVariables false
set_option maxRecDepth 100000
set_option maxHeartbeats 2000000
namespace Go.Proofs.Ytgkmdfjjlghecaa.A
open Go Go.Abs Go.RowKit

theorem pickD {cv : Value} {nb si k m : Nat} {H Hp : AH} {L : List Th} {ty : TypeId} {lv : Value} {ls : List Int} (d : Dq cv nb si H Hp L) (hsi : si < H.next) (hc : CodeX cv nb si H) (hsc : Sc H) (hnb : nb ≤ 4611686018427387904) (hk : L[k]? = some (.sl 1 ty lv m (ints ls))) (hm : 0 < m ∧ m ≤ 100) :
    ACalls Try.prog 183 [.pointer (some ⟨si, 0, none⟩), lv] Hp (fun v H' => ∃ x : Int, v = .int .i64 x ∧ x ∈ ls ∧ SrcB cv nb si Hp H') :=
  l01Pick_c cv nb si lv m ls Hp hm.1 (by omega) hnb (d.src hsi) (d.code hc hsc) fun H' hS => (d.next hsi hS).rd k hk
theorem nextD {cv : Value} {nb si : Nat} {H Hp : AH} {L : List Th} (n : Int) (d : Dq cv nb si H Hp L) (hsi : si < H.next) (hc : CodeX cv nb si H) (hsc : Sc H) (hnb : nb ≤ 4611686018427387904) (hn : n ≤ 9223372036854775807) :
    ACalls Try.prog 182 [.pointer (some ⟨si, 0, none⟩), .int .i64 n] Hp (fun v H' => ∃ x : Nat, v = .int .i64 x ∧ ((n < 1 ∧ x = 0) ∨ (x : Int) < n) ∧ Dq cv nb si H H' L) := by
  refine (l01Next_c cv nb si n Hp hn hnb (d.src hsi) (d.code hc hsc)).mono ?_
  rintro v H' ⟨x, hv, hx, hS⟩
  exact ⟨x, hv, hx, d.next hsi hS⟩

theorem ACalls.ex2 {P : Program} {f : FuncId} {args : List Value} {H : AH} {α β : Type} {g : α → β → Value} {X : α → β → AH → Prop} {R : Value → AH → Prop} (h : ACalls P f args H (fun v H' => ∃ u w, v = g u w ∧ X u w H')) (k : ∀ u w H', X u w H' → R (g u w) H') : ACalls P f args H R :=
  h.mono fun v H' hh => by obtain ⟨u, w, rfl, hx⟩ := hh; exact k _ _ _ hx
theorem ACalls.ex4 {P : Program} {f : FuncId} {args : List Value} {H : AH} {α β γ δ : Type} {g : α → β → γ → δ → Value} {X : α → β → γ → δ → AH → Prop} {R : Value → AH → Prop} (h : ACalls P f args H (fun v H' => ∃ a b c d, v = g a b c d ∧ X a b c d H')) (k : ∀ a b c d H', X a b c d H' → R (g a b c d) H') : ACalls P f args H R :=
  h.mono fun v H' hh => by obtain ⟨a, b, c, d, rfl, hx⟩ := hh; exact k _ _ _ _ _ hx
theorem Dq.les {cv : Value} {nb si : Nat} {H H' : AH} {L : List Th} (h : Dq cv nb si H H' L) (sc : Sc H) : LES (fun j => j ≠ si) H H' := ⟨h.le, fun i r hi hr => h.old sc i r hi hr⟩
theorem les_of {cv : Value} {nb si : Nat} {H B H' : AH} {M : List Th} (k : SrcB cv nb si H B) (o : Ow B H' M) (sc : Sc H) : LES (fun j => j ≠ si) H H' := Dq.les (⟨⟨B, k, o⟩⟩ : Dq cv nb si H H' M) sc
theorem ACalls.scz {P : Program} {f : FuncId} {args : List Value} {H : AH} {α : Type} {g : α → Value} {X : α → AH → Prop} (h : ACalls P f args H (fun v H' => ∃ u, v = g u ∧ X u H')) : ACalls P f args H (fun v H' => ∃ u, v = g u ∧ X u H' ∧ Sc H') :=
  h.sc.mono fun _ _ ⟨⟨u, h1, h2⟩, h3⟩ => ⟨u, h1, h2, h3⟩
theorem pickL {cv : Value} {nb si : Nat} {H Hp : AH} {L : List Th} (ls : List Int) (m : Nat) (hm : ls.length = m) (hm0 : 0 < m) (hm1 : m ≤ 100) (d : Dq cv nb si H Hp L) (hsi : si < H.next) (hc : CodeX cv nb si H) (hsc : Sc H) (hnb : nb ≤ 4611686018427387904) :
    ACalls Try.prog 183 [.pointer (some ⟨si, 0, none⟩), .slice (some ⟨Hp.next, 0, some 1⟩) m m] (Hp.push ⟨2, true, ints ls⟩) (fun v H' => ∃ x : Int, v = .int .i64 x ∧ x ∈ ls ∧ Dq cv nb si H H' L) := by
  have d6 : Dq cv nb si H (Hp.push ⟨2, true, ints ls⟩) L := d.tmp _
  have d7 : Dq cv nb si H (Hp.push ⟨2, true, ints ls⟩) (L ++ [.sl 1 2 (.slice (some ⟨Hp.next, 0, some 1⟩) m m) m (ints ls)]) := d.map fun B o => o.pushSl (by rw [ints_length, hm, Nat.mul_one])
  refine (pickD (k := L.length) (ty := 2) (ls := ls) d7 hsi hc hsc hnb (by simp) ⟨hm0, hm1⟩).mono ?_
  rintro v H' ⟨x, h1, h2, h3⟩
  exact ⟨x, h1, h2, d6.next hsi h3⟩

end Go.Proofs.Ytgkmdfjjlghecaa.A
end

section
set_option linter.unusedSimpArgs false
set_option linter.unusedVariables false
namespace Go.Abs
open Go Go.RowKit

def awpTS (P : Program) (ops : Array Oper) (S : Nat → Prop) (Q : T → AH → Prop) : (ot : OT) → T → AH → (fun _ => Prop) (ops, Q, ot)
  | .nil, t, H => Q t H
  | .one i r, t, H => stepIS P ops S (awpTS P ops S Q r) i (ops.toList[i]?) t H
  | .two i j a b, t, H => stepIS P ops S (awpTS P ops S Q a) i (ops.toList[i]?) t H ∧ stepIS P ops S (awpTS P ops S Q b) j (ops.toList[j]?) t H
  | .three i j k a b c, t, H => stepIS P ops S (awpTS P ops S Q a) i (ops.toList[i]?) t H ∧ stepIS P ops S (awpTS P ops S Q b) j (ops.toList[j]?) t H ∧ stepIS P ops S (awpTS P ops S Q c) k (ops.toList[k]?) t H

theorem stepIS_a {P : Program} {ops : Array Oper} {S : Nat → Prop} {K : T → AH → Prop} {i : Nat} {t : T} {H : AH} (h : stepIS P ops S K i (ops.toList[i]?) t H) :
    (∃ o, ops.toList[i]? = some o ∧ loadOk S t o.op) ∧ aStep P ops.toList i t H fun t' H' => ((∃ o, ops.toList[i]? = some o ∧ quietOp o.op = true) ∨ sinkB ops i = true ∨ LES S H H') ∧ K t' H' := by
  unfold aStep
  cases e : ops.toList[i]? with
  | none => rw [e] at h; exact h.elim
  | some o =>
    rw [e] at h
    unfold stepIS at h
    simp only
    cases hg : o.guard with
    | none => simp only [hg] at h ⊢; exact ⟨⟨o, rfl, h.1⟩, runOut_mono (fun v H' k => ⟨k.1.imp (fun q => ⟨o, rfl, q⟩) id, k.2⟩) _ h.2⟩
    | some g => simp only [hg] at h ⊢; exact ⟨⟨o, rfl, h.1⟩, condW_mono h.2 (runOut_mono (fun v H' k => ⟨k.1.imp (fun q => ⟨o, rfl, q⟩) id, k.2⟩) _) (fun k => ⟨.inr (.inr (LES.refl S H)), k⟩)⟩

theorem stepIS_s {P : Program} {ops : Array Oper} {S : Nat → Prop} {K : T → AH → Prop} {i : Nat} {t : T} {H : AH} (h : stepIS P ops S K i (ops.toList[i]?) t H) :
    aStep P ops.toList i t H fun t' H' => (sinkB ops i = true ∨ LES S H H') ∧ K t' H' := by
  cases e : ops.toList[i]? with
  | none => rw [e] at h; exact h.elim
  | some o =>
    by_cases hq : quietOp o.op = true
    · have ho : ops[i]? = some o := by simpa using e
      obtain ⟨v, hy, hk⟩ := aStep_quiet ho hq (stepIS_a h).2
      exact hy.step ho hq ⟨.inr (LES.refl _ _), hk.2⟩
    · refine aStep_mono (stepIS_a h).2 fun t' H' hk => ⟨?_, hk.2⟩
      rcases hk.1 with ⟨o', e', q'⟩ | k
      · rw [e] at e'; cases e'; exact absurd q' hq
      · exact k

theorem AAnyS_tree {P : Program} {ops : Array Oper} {S : Nat → Prop} {Q : T → AH → Prop} : ∀ (ot : OT) (listed : Array Bool) (t : T) (H : AH) (f : Nat), ot.depth ≤ f → Closed ops listed → okOT ops ot listed = true → awpTS P ops S Q ot t H → AAnyS P ops S Q f listed t H
  | .nil, listed, t, H, f, _, _, hok, h => by
    have hr : Region.ready .any ops listed = [] := by simpa [okOT] using hok
    cases f with
    | zero => exact ⟨hr, h⟩
    | succ f => exact ⟨fun _ => h, by rw [hr]; simp⟩
  | .one i r, listed, t, H, 0, hl, _, _, _ => by simp [OT.depth] at hl
  | .two i j a b, listed, t, H, 0, hl, _, _, _ => by simp [OT.depth] at hl
  | .three i j k a b c, listed, t, H, 0, hl, _, _, _ => by simp [OT.depth] at hl
  | .one i r, listed, t, H, f + 1, hl, hc, hok, h => by
    simp only [okOT, Bool.and_eq_true] at hok
    simp only [OT.depth] at hl
    obtain ⟨h1, h2⟩ := hok
    unfold awpTS at h
    cases ho : ops[i]? with
    | none => simp [ho] at h1
    | some o =>
      simp only [ho] at h1
      split at h1
      · rename_i hq
        simp only [Bool.and_eq_true] at h1
        obtain ⟨hr, hfr⟩ := h1
        have hr' : i ∈ Region.ready .any ops listed := by simpa using hr
        obtain ⟨v, hy, hk⟩ := aStep_quiet ho hq (stepIS_s h)
        obtain ⟨⟨o', e', hl'⟩, _⟩ := stepIS_a h
        have eo : o' = o := by
          have e2 : ops.toList[i]? = some o := by simpa using ho
          exact Option.some.inj (e'.symm.trans e2)
        subst eo
        exact AAnyS_first ho hq f listed t H hc (Region.free_spec ho hfr) hr' (safe_of hq hl') hy (AAnyS_tree r _ _ H f (by omega) (hc.set hr') h2 hk.2)
      · have hr : Region.ready .any ops listed = [i] := by simpa using h1
        refine ⟨fun h0 => (by rw [hr] at h0; cases h0), fun j hj => ?_⟩
        have hji : j = i := by rw [hr] at hj; simpa using hj
        subst hji
        exact aStep_mono (stepIS_s h) fun t' H' hk => ⟨hk.1, AAnyS_tree r _ t' H' f (by omega) (hc.set hj) h2 hk.2⟩
  | .two i j a b, listed, t, H, f + 1, hl, hc, hok, h => by
    simp only [okOT, Bool.and_eq_true] at hok
    simp only [OT.depth] at hl
    obtain ⟨⟨h1, h2⟩, h3⟩ := hok
    unfold awpTS at h
    have hr : Region.ready .any ops listed = [i, j] := by simpa using h1
    refine ⟨fun h0 => (by rw [hr] at h0; cases h0), fun x hx => ?_⟩
    have hx2 : x = i ∨ x = j := by rw [hr] at hx; simpa using hx
    rcases hx2 with rfl | rfl
    · exact aStep_mono (stepIS_s h.1) fun t' H' hk => ⟨hk.1, AAnyS_tree a _ t' H' f (by omega) (hc.set hx) h2 hk.2⟩
    · exact aStep_mono (stepIS_s h.2) fun t' H' hk => ⟨hk.1, AAnyS_tree b _ t' H' f (by omega) (hc.set hx) h3 hk.2⟩
  | .three i j k a b c, listed, t, H, f + 1, hl, hc, hok, h => by
    simp only [okOT, Bool.and_eq_true] at hok
    simp only [OT.depth] at hl
    obtain ⟨⟨⟨h1, h2⟩, h3⟩, h4⟩ := hok
    unfold awpTS at h
    have hr : Region.ready .any ops listed = [i, j, k] := by simpa using h1
    refine ⟨fun h0 => (by rw [hr] at h0; cases h0), fun x hx => ?_⟩
    have hx2 : x = i ∨ x = j ∨ x = k := by rw [hr] at hx; simpa using hx
    rcases hx2 with rfl | rfl | rfl
    · exact aStep_mono (stepIS_s h.1) fun t' H' hk => ⟨hk.1, AAnyS_tree a _ t' H' f (by omega) (hc.set hx) h2 hk.2⟩
    · exact aStep_mono (stepIS_s h.2.1) fun t' H' hk => ⟨hk.1, AAnyS_tree b _ t' H' f (by omega) (hc.set hx) h3 hk.2⟩
    · exact aStep_mono (stepIS_s h.2.2) fun t' H' hk => ⟨hk.1, AAnyS_tree c _ t' H' f (by omega) (hc.set hx) h4 hk.2⟩

theorem draw_treeS {P : Program} {id : Nat} {ops : Array Oper} {Q : Exit → T → AH → Prop} {t : T} {H : AH} (S : Nat → Prop) (ot : OT) (hm : P.follows .mixedOrders = true) (hok : okOT ops ot (Array.replicate ops.size false) = true) (hl : ot.depth ≤ ops.size)
    (h : awpTS P ops S (Q .normal) ot t H) : awp P (.region id ops true) Q t H := by
  intro base ρ w tmps QC hS hd hQ
  have hA := AAnyS_tree ot _ t H ops.size hl ⟨by simp, fun j oj hj hl => by rw [getD_replicate_false'] at hl; cases hl⟩ hok h
  refine wp_region_any hm (AAnyS_ok ops.size _ t H ρ w.drew tmps hA ⟨hS.1.drew, hS.2.ext (ext_drew (base := base) (H := H) w)⟩ ?_ fun t' H' ρ' w' tmps' hq hs he hz => ?_)
  · intro o ho i hi
    have := List.all_eq_true.1 hd o ho
    simp only [hi, decide_eq_true_eq] at this
    exact this
  · exact hQ .normal t' H' ρ' w' tmps' hq hs ((ext_drew (base := base) (H := H) (ρ := ρ) w).trans he) hz

theorem awpTS_nil (P : Program) (ops : Array Oper) (S : Nat → Prop) (Q : T → AH → Prop) (t : T) (H : AH) : awpTS P ops S Q .nil t H = Q t H := (rfl)
theorem awpTS_one (P : Program) (ops : Array Oper) (S : Nat → Prop) (Q : T → AH → Prop) (i : Nat) (r : OT) (t : T) (H : AH) : awpTS P ops S Q (.one i r) t H = stepIS P ops S (awpTS P ops S Q r) i (ops.toList[i]?) t H := (rfl)
theorem awpTS_two {P : Program} {ops : Array Oper} {S : Nat → Prop} {Q : T → AH → Prop} {i j : Nat} {a b : OT} {t : T} {H : AH} (h : stepIS P ops S (awpTS P ops S Q a) i (ops.toList[i]?) t H) (k : stepIS P ops S (awpTS P ops S Q b) j (ops.toList[j]?) t H) : awpTS P ops S Q (.two i j a b) t H := ⟨h, k⟩
theorem awpTS_run_nil (P : Program) (ops : Array Oper) (S : Nat → Prop) (Q : T → AH → Prop) (r : OT) (t : T) (H : AH) : awpTS P ops S Q (OT.run [] r) t H = awpTS P ops S Q r t H := (rfl)
theorem awpTS_run_cons (P : Program) (ops : Array Oper) (S : Nat → Prop) (Q : T → AH → Prop) (i : Nat) (is : List Nat) (r : OT) (t : T) (H : AH) : awpTS P ops S Q (OT.run (i :: is) r) t H = stepIS P ops S (awpTS P ops S Q (OT.run is r)) i (ops.toList[i]?) t H := (rfl)
@[congr] theorem awpTS_congr {P : Program} {ops : Array Oper} {S : Nat → Prop} {ot : OT} {Q : T → AH → Prop} {t t' : T} {H H' : AH} (h : t = t') (k : H = H') : awpTS P ops S Q ot t H = awpTS P ops S Q ot t' H' := by rw [h, k]
end Go.Abs
end

section
set_option linter.unusedSimpArgs false
set_option linter.unusedVariables false
set_option maxRecDepth 100000
set_option maxHeartbeats 2000000
namespace Go.Proofs.Ytgkmdfjjlghecaa.A
open Go Go.Abs Go.RowKit

theorem Dq.toCap {cv : Value} {nb si : Nat} {H H' : AH} {L : List Th} (h : Dq cv nb si H H' L) (k : Nat) {z n : Nat} {ty : TypeId} {v : Value} {vs : List Value} (hk : L[k]? = some (.sl z ty v n vs)) : Dq cv nb si H H' (L.set k (.cap z ty v n vs)) := h.map fun B o => o.toCap k hk
theorem Dq.cut {cv : Value} {nb si : Nat} {H H' : AH} {L : List Th} (h : Dq cv nb si H H' L) (k : Nat) {z n : Nat} {ty : TypeId} {v : Value} {l : List Int} (hk : L[k]? = some (.cap z ty v n (ints l))) {hi : Option Int} {b : Nat} (hb : hi.getD (n : Int) = (b : Int)) (hbn : b ≤ n) :
    ∃ w, (∀ (P : Program) (E : TI) (K : Value → AH → Prop) (H2 : AH), E.size = z → K w H2 → runOut P H2 (sliceE E v none hi none H2) K) ∧ Dq cv nb si H H' (L.set k (.cap z ty w b (ints (l.take (b * z))))) := by
  obtain ⟨B, b1, o⟩ := h.ex
  obtain ⟨w, h1, h2⟩ := o.cut k hk hb hbn
  exact ⟨w, h1, ⟨⟨B, b1, h2⟩⟩⟩
theorem SrcB.les {cv : Value} {nb si : Nat} {H H' : AH} (k : SrcB cv nb si H H') : LES (fun j => j ≠ si) H H' := ⟨Nat.le_of_eq k.next.symm, fun i r hi hr => by rw [k.row i hi]; exact hr⟩
theorem nextE {cv : Value} {nb si : Nat} {H Hp : AH} {L : List Th} (n : Int) (d : Dq cv nb si H Hp L) (hsi : si < H.next) (hc : CodeX cv nb si H) (hsc : Sc H) (hnb : nb ≤ 4611686018427387904) (hn : n ≤ 9223372036854775807) :
    ACalls Try.prog 182 [.pointer (some ⟨si, 0, none⟩), .int .i64 n] Hp (fun v H' => ∃ x : Nat, v = .int .i64 x ∧ ((n < 1 ∧ x = 0) ∨ (x : Int) < n) ∧ LES (fun j => j ≠ si) Hp H' ∧ Dq cv nb si H H' L) := by
  refine (l01Next_c cv nb si n Hp hn hnb (d.src hsi) (d.code hc hsc)).mono ?_
  rintro v H' ⟨x, hv, hx, hS⟩
  exact ⟨x, hv, hx, hS.les, d.next hsi hS⟩
theorem VL.take {n : Nat} {l : List Int} (h : VL n l) (k : Nat) : VL n (l.take k) := fun x hx => h x (List.mem_of_mem_take hx)

end Go.Proofs.Ytgkmdfjjlghecaa.A
end

section
set_option linter.unusedSimpArgs false
set_option linter.unusedVariables false
set_option maxRecDepth 100000
set_option maxHeartbeats 2000000
namespace Go.Proofs.Ytgkmdfjjlghecaa.A
open Go Go.Abs Go.RowKit

end Go.Proofs.Ytgkmdfjjlghecaa.A
end

section
set_option linter.unusedSimpArgs false
set_option linter.unusedVariables false
set_option maxRecDepth 100000
set_option maxHeartbeats 2000000
namespace Go.Proofs.Ytgkmdfjjlghecaa.A
open Go Go.Abs Go.RowKit

theorem VL.bad {n : Nat} {l : List Int} (h : VL n l) (hn : n ≤ 14) : ∀ x, x ∈ l → -1 ≤ x ∧ x ≤ 14 := fun x hx => by
  have := h x hx
  omega

end Go.Proofs.Ytgkmdfjjlghecaa.A
end

section
set_option linter.unusedSimpArgs false
set_option linter.unusedVariables false
set_option maxRecDepth 100000
set_option maxHeartbeats 2000000
namespace Go.Proofs.Ytgkmdfjjlghecaa.A
open Go Go.Abs Go.RowKit

end Go.Proofs.Ytgkmdfjjlghecaa.A
end
