/- Contracts: golfs. And what follows. -/
import Derived.Test.YtollphjompimjaaGreatM2
set_option linter.unusedSimpArgs false
set_option linter.unusedVariables false
section
set_option maxRecDepth 100000
set_option maxHeartbeats 2000000
namespace Go.Proofs.YtollphjompimjaaGreat.A
open Go Go.Abs Go.RowKit
theorem golf_push {H : AH} (hs : Sc H) (q g : Int) (v : Value) : Ow H (H.push ⟨26, true, [.int .i64 q, .int .i64 g, v]⟩) [.row H.next ⟨26, true, [.int .i64 q, .int .i64 g, v]⟩] := (Ow.refl hs).push _
theorem l08Size_c (q g m : Int) (H : AH) (hm : m ≤ 1000) : ACalls Tryz.prog 45 [.int .i64 q, .int .i64 g, .int .i64 m] H (is (.bool (golfS q g m)) H) := by
  refine acalls_of_awp [.tmp 6] Tryz.func45 (by kernel_rfl) rfl rfl (Nat.le_of_ble_eq_true rfl) (by kernel_rfl) ?_
  unfold golfS
  try simp (disch := first | omega | (simp only [ints_length, List.length_replicate, bools_length, metL_length] <;> omega)) only [Sall,evalOp,init,binA_s,binE,binI,unE,convE,okNil,builtE,gv,TD.isAgg,resV,↓reduceIte,Nat.reduceEqDiff,reduceCtorEq,Nat.reduceAdd,Nat.reduceMul,Nat.reduceLeDiff,quietOp,blindOp,Int.reduceEq,Int.reduceLT,Int.reduceLE,Nat.reduceLT,tiA,tiXA, true_and]
  refine (l01In_c _ _ _ _).to ?_
  by_cases h1 : 2 ≤ q ∧ q ≤ m
  · rw [decide_eq_true h1]
    refine Holds.mp ?_
    try simp (disch := first | omega | (simp only [ints_length, List.length_replicate, bools_length, metL_length] <;> omega)) only [Sall,evalOp,init,binA_s,binE,binI,unE,convE,okNil,builtE,gv,TD.isAgg,resV,↓reduceIte,Nat.reduceEqDiff,reduceCtorEq,Nat.reduceAdd,Nat.reduceMul,Nat.reduceLeDiff,quietOp,blindOp,Int.reduceEq,Int.reduceLT,Int.reduceLE,Nat.reduceLT,tiA,tiXA, true_and]
    refine (l01In_c _ _ _ _).to ?_
    by_cases h2 : 2 ≤ g ∧ g ≤ q
    · rw [decide_eq_true h2]
      have hg : ¬ g = 0 := by omega
      have hw : IntKind.i64.wrap (Int.tmod q g) = Int.tmod q g := by
        obtain ⟨n, rfl⟩ : ∃ n : Nat, q = n := ⟨q.toNat, by omega⟩
        obtain ⟨k, rfl⟩ : ∃ k : Nat, g = k := ⟨g.toNat, by omega⟩
        have e : Int.tmod (n : Int) (k : Int) = ((n % k : Nat) : Int) := rfl
        have := Nat.mod_lt n (show 0 < k by omega)
        rw [e]
        exact w64 ⟨by omega, by omega⟩
      refine Holds.mp ?_
      try simp (disch := first | omega | (simp only [ints_length, List.length_replicate, bools_length, metL_length] <;> omega)) only [Sall,evalOp,init,binA_s,binE,binI,unE,convE,okNil,builtE,gv,TD.isAgg,resV,↓reduceIte,Nat.reduceEqDiff,reduceCtorEq,Nat.reduceAdd,Nat.reduceMul,Nat.reduceLeDiff,quietOp,blindOp,Int.reduceEq,Int.reduceLT,Int.reduceLE,Nat.reduceLT,tiA,tiXA, hg, hw]
      exact ⟨rfl, rfl⟩
    · rw [decide_eq_false h2]
      refine Holds.mp ?_
      try simp (disch := first | omega | (simp only [ints_length, List.length_replicate, bools_length, metL_length] <;> omega)) only [Sall,evalOp,init,binA_s,binE,binI,unE,convE,okNil,builtE,gv,TD.isAgg,resV,↓reduceIte,Nat.reduceEqDiff,reduceCtorEq,Nat.reduceAdd,Nat.reduceMul,Nat.reduceLeDiff,quietOp,blindOp,Int.reduceEq,Int.reduceLT,Int.reduceLE,Nat.reduceLT,tiA,tiXA, Bool.false_and]
      exact ⟨rfl, rfl⟩
  · rw [decide_eq_false h1]
    refine Holds.mp ?_
    try simp (disch := first | omega | (simp only [ints_length, List.length_replicate, bools_length, metL_length] <;> omega)) only [Sall,evalOp,init,binA_s,binE,binI,unE,convE,okNil,builtE,gv,TD.isAgg,resV,↓reduceIte,Nat.reduceEqDiff,reduceCtorEq,Nat.reduceAdd,Nat.reduceMul,Nat.reduceLeDiff,quietOp,blindOp,Int.reduceEq,Int.reduceLT,Int.reduceLE,Nat.reduceLT,tiA,tiXA, Bool.false_and]
    exact ⟨rfl, rfl⟩
theorem l08Round_c (n : Nat) (hn : n ≤ 1024) (v : Value) (y : List Int) (H : AH) (hv : Rd 1 H v y.length y) (hy : y.length ≤ 4294967296) :
    ACalls Tryz.prog 54 [.int .i64 n, v] H (is (.bool (ordB n y)) H) := by
  refine acalls_up rfl (ACalls.wf (by kernel_rfl) fun hs => acalls_of_awp [.tmp 4] Tryz.func54 (by kernel_rfl) rfl rfl (Nat.le_of_ble_eq_true rfl) (by kernel_rfl) ?_)
  try simp (disch := first | omega | (simp only [ints_length, List.length_replicate, bools_length, metL_length] <;> omega)) only [Sall,evalOp,init,binA_s,binE,binI,unE,convE,okNil,builtE,gv,TD.isAgg,resV,↓reduceIte,Nat.reduceEqDiff,reduceCtorEq,Nat.reduceAdd,Nat.reduceMul,Nat.reduceLeDiff,quietOp,blindOp,Int.reduceEq,Int.reduceLT,Int.reduceLE,Nat.reduceLT,tiA, zeros_bools, ← metL_nil]
  (repeat refine And.intro (by omega) ?_)
  have hml := metL_length n []
  refine awp_loop (fun m t H' => ∃ a : Nat, m = y.length - a ∧ a ≤ y.length ∧ t 6 = .int .i64 a ∧ t 5 = .slice (some ⟨H.next, 0, some 1⟩) n n ∧ t 1 = v ∧ t 0 = .int .i64 n ∧ H.next < H'.next ∧ (∀ i, i < H.next → H'.row i = H.row i) ∧ H'.row H.next = some ⟨4, true, bools (metL n (y.take a))⟩ ∧ goodTo n y a) y.length ?_ ?_
  · refine ⟨0, by omega, by omega, ?_⟩
    try simp (disch := first | omega | (simp only [ints_length, List.length_replicate, bools_length, metL_length] <;> omega)) only [Sall,evalOp,init,binA_s,binE,binI,unE,convE,okNil,builtE,gv,TD.isAgg,resV,↓reduceIte,Nat.reduceEqDiff,reduceCtorEq,Nat.reduceAdd,Nat.reduceMul,Nat.reduceLeDiff,quietOp,blindOp,Int.reduceEq,Int.reduceLT,Int.reduceLE,Nat.reduceLT,tiA, Int.natCast_zero, List.take_zero]
    refine ⟨by omega, fun i hi => by rw [if_neg (by omega)], goodTo_zero n y⟩
  · rintro m t H' ⟨a, hm, han, h6, h5, h1, h0, hnx, hrows, hrow, hgood⟩
    have hv' : Rd 1 H' v y.length y := hv.same fun i r hr => by rw [hrows i (hs _ _ hr)]; exact hr
    have up : Up H.next H H' := ⟨by omega, hrows⟩
    try simp (disch := first | omega | (simp only [ints_length, List.length_replicate, bools_length, metL_length] <;> omega)) only [Sall,evalOp,init,binA_s,binE,binI,unE,convE,okNil,builtE,gv,TD.isAgg,resV,↓reduceIte,Nat.reduceEqDiff,reduceCtorEq,Nat.reduceAdd,Nat.reduceMul,Nat.reduceLeDiff,quietOp,blindOp,Int.reduceEq,Int.reduceLT,Int.reduceLE,Nat.reduceLT,tiA, h6, h1, builtE, hv'.len]
    refine condC_dec (fun h => ?_) (fun h => ?_)
    · obtain ⟨i, o, uu, cc, r, rfl, hr, hc, hg, _⟩ := hv'.get (by omega)
      have g1 := hg a (by omega)
      obtain ⟨x, hx⟩ : ∃ x, x = y.getD a 0 := ⟨_, rfl⟩
      rw [← hx] at g1
      by_cases hin : 0 ≤ x ∧ x ≤ (n : Int) - 1
      · have hin' : 0 ≤ x ∧ x < (n : Int) := by omega
        have g2 := metL_get? n (y.take a) x hin'
        have g3 := metL_put n (y.take a) x hin'
        try simp (disch := first | omega | (simp only [ints_length, List.length_replicate, bools_length, metL_length] <;> omega)) only [Sall,evalOp,init,binA_s,binE,binI,unE,convE,okNil,builtE,gv,TD.isAgg,resV,↓reduceIte,Nat.reduceEqDiff,reduceCtorEq,Nat.reduceAdd,Nat.reduceMul,Nat.reduceLeDiff,quietOp,blindOp,Int.reduceEq,Int.reduceLT,Int.reduceLE,Nat.reduceLT,tiA, h6, h0, h1, hr, g1, w64]
        (repeat refine And.intro (by omega) ?_)
        refine (l01In_c _ _ _ _).to ?_
        rw [decide_eq_true hin]
        cases hct : (y.take a).contains x with
        | true =>
          rw [hct] at g2
          try simp (disch := first | omega | (simp only [ints_length, List.length_replicate, bools_length, metL_length] <;> omega)) only [Sall,evalOp,init,binA_s,binE,binI,unE,convE,okNil,builtE,gv,TD.isAgg,resV,↓reduceIte,Nat.reduceEqDiff,reduceCtorEq,Nat.reduceAdd,Nat.reduceMul,Nat.reduceLeDiff,quietOp,blindOp,Int.reduceEq,Int.reduceLT,Int.reduceLE,Nat.reduceLT,tiA, Bool.not_true, h6, h5, h0, h1, hr, g1, hrow, g2, w64]
          (repeat refine And.intro (by omega) ?_)
          rw [ordB_bad (i := a) (by omega) (.inr (by rw [← hx]; exact hct))]
          exact ⟨rfl, up⟩
        | false =>
          rw [hct] at g2
          have ne : ¬ i = H.next := by
            rintro rfl
            rw [hrow] at hr
            cases hr
            rcases hv.2 with ⟨h9, _⟩ | ⟨i9, o9, u9, c9, r9, e9, hr9, _⟩
            · omega
            · cases e9
              have := hs _ _ hr9
              omega
          try simp (disch := first | omega | (simp only [ints_length, List.length_replicate, bools_length, metL_length] <;> omega)) only [Sall,evalOp,init,binA_s,binE,binI,unE,convE,okNil,builtE,gv,TD.isAgg,resV,↓reduceIte,Nat.reduceEqDiff,reduceCtorEq,Nat.reduceAdd,Nat.reduceMul,Nat.reduceLeDiff,quietOp,blindOp,Int.reduceEq,Int.reduceLT,Int.reduceLE,Nat.reduceLT,tiA, Bool.not_true, h6, h5, h0, h1, hr, g1, hrow, g2, g3, ne, w64]
          (repeat refine And.intro (by omega) ?_)
          refine ⟨by rw [bools_length, metL_length]; omega, y.length - (a + 1), by omega, a + 1, rfl, by omega, rfl, hnx, fun i hi => by rw [if_neg (by omega)]; exact hrows i hi, by rw [take_snoc y 0 a (by omega), ← hx], goodTo_succ (by omega) hgood (by rw [← hx]; exact hin') (by rw [← hx]; exact hct)⟩
      · try simp (disch := first | omega | (simp only [ints_length, List.length_replicate, bools_length, metL_length] <;> omega)) only [Sall,evalOp,init,binA_s,binE,binI,unE,convE,okNil,builtE,gv,TD.isAgg,resV,↓reduceIte,Nat.reduceEqDiff,reduceCtorEq,Nat.reduceAdd,Nat.reduceMul,Nat.reduceLeDiff,quietOp,blindOp,Int.reduceEq,Int.reduceLT,Int.reduceLE,Nat.reduceLT,tiA, h6, h0, h1, hr, g1, w64]
        (repeat refine And.intro (by omega) ?_)
        refine (l01In_c _ _ _ _).to ?_
        rw [decide_eq_false hin]
        try simp (disch := first | omega | (simp only [ints_length, List.length_replicate, bools_length, metL_length] <;> omega)) only [Sall,evalOp,init,binA_s,binE,binI,unE,convE,okNil,builtE,gv,TD.isAgg,resV,↓reduceIte,Nat.reduceEqDiff,reduceCtorEq,Nat.reduceAdd,Nat.reduceMul,Nat.reduceLeDiff,quietOp,blindOp,Int.reduceEq,Int.reduceLT,Int.reduceLE,Nat.reduceLT,tiA, Bool.not_false]
        rw [ordB_bad (i := a) (by omega) (.inl (by rw [← hx]; omega))]
        exact ⟨rfl, up⟩
    · have ha : a = y.length := by omega
      subst ha
      try simp (disch := first | omega | (simp only [ints_length, List.length_replicate, bools_length, metL_length] <;> omega)) only [Sall,evalOp,init,binA_s,binE,binI,unE,convE,okNil,builtE,gv,TD.isAgg,resV,↓reduceIte,Nat.reduceEqDiff,reduceCtorEq,Nat.reduceAdd,Nat.reduceMul,Nat.reduceLeDiff,quietOp,blindOp,Int.reduceEq,Int.reduceLT,Int.reduceLE,Nat.reduceLT,tiA, h0, h1, builtE, hv'.len]
      rw [goodTo_all hgood]
      refine ⟨?_, up⟩
      by_cases e : y.length = n
      · rw [decide_eq_true e, e]; simp
      · rw [decide_eq_false e]; simp; omega
theorem l08Is_c (q g : Int) (v : Value) (R : List (List Int)) (H : AH) (hv : Rd2 1 H v R) (hl : R.length ≤ 4194304) (hl2 : ∀ r ∈ R, r.length ≤ 4194304) :
    ACalls Tryz.prog 26 [.agg #[.int .i64 q, .int .i64 g, v]] H (is (.bool (golfB q g R)) H) := by
  refine acalls_up rfl (ACalls.wf (by kernel_rfl) fun hs => acalls_of_awp [.tmp 2] Tryz.func26 (by kernel_rfl) rfl rfl (Nat.le_of_ble_eq_true rfl) (by kernel_rfl) ?_)
  have hone := hv.one
  have o1 := golf_push hs q g v
  try simp (disch := first | omega | (simp only [ints_length, List.length_replicate, bools_length, metL_length] <;> omega)) only [Sall,evalOp,init,binA_s,binE,binI,unE,convE,okNil,builtE,gv,TD.isAgg,resV,↓reduceIte,Nat.reduceEqDiff,reduceCtorEq,Nat.reduceAdd,Nat.reduceMul,Nat.reduceLeDiff,quietOp,blindOp,Int.reduceEq,Int.reduceLT,Int.reduceLE,Nat.reduceLT,tiA,tiXA, hone]
  obtain ⟨pi, epi⟩ : ∃ pi, pi = H.next := ⟨_, rfl⟩
  rw [← epi] at o1 ⊢
  generalize H.push ⟨26, true, [.int .i64 q, .int .i64 g, v]⟩ = H1 at o1 ⊢
  have up : Up pi H H1 := by rw [epi]; exact o1.up
  have e1 := (o1.rowAt 0 rfl).1
  have hv1 := hv.same (o1.old hs)
  have hvl := hv1.len
  try simp (disch := first | omega | (simp only [ints_length, List.length_replicate, bools_length, metL_length] <;> omega)) only [Sall,evalOp,init,binA_s,binE,binI,unE,convE,okNil,builtE,gv,TD.isAgg,resV,↓reduceIte,Nat.reduceEqDiff,reduceCtorEq,Nat.reduceAdd,Nat.reduceMul,Nat.reduceLeDiff,quietOp,blindOp,Int.reduceEq,Int.reduceLT,Int.reduceLE,Nat.reduceLT,tiA,tiXA, e1]
  refine (l08Size_c q g 25 H1 (by omega)).to ?_
  refine Holds.mp ?_
  unfold golfB
  cases hS : golfS q g 25 with
  | false =>
    try simp (disch := first | omega | (simp only [ints_length, List.length_replicate, bools_length, metL_length] <;> omega)) only [Sall,evalOp,init,binA_s,binE,binI,unE,convE,okNil,builtE,gv,TD.isAgg,resV,↓reduceIte,Nat.reduceEqDiff,reduceCtorEq,Nat.reduceAdd,Nat.reduceMul,Nat.reduceLeDiff,quietOp,blindOp,Int.reduceEq,Int.reduceLT,Int.reduceLE,Nat.reduceLT,tiA,tiXA, Bool.not_false, Bool.false_and]
    exact up
  | true =>
    obtain ⟨n, gN, c, rfl, rfl, ec, q1, q2, q3, q4, q5⟩ := golfS_at hS
    rw [Int.toNat_natCast]
    by_cases h12 : R.length ≤ 12
    · have k : ¬ (12 : Int) < (R.length : Int) := by omega
      rw [decide_eq_true h12]
      try simp (disch := first | omega | (simp only [ints_length, List.length_replicate, bools_length, metL_length] <;> omega)) only [Sall,evalOp,init,binA_s,binE,binI,unE,convE,okNil,builtE,gv,TD.isAgg,resV,↓reduceIte,Nat.reduceEqDiff,reduceCtorEq,Nat.reduceAdd,Nat.reduceMul,Nat.reduceLeDiff,quietOp,blindOp,Int.reduceEq,Int.reduceLT,Int.reduceLE,Nat.reduceLT,tiA,tiXA, e1, builtE, hvl, k, decide_false, Bool.not_true, Bool.true_and]
      refine awp_loop (fun m t H' => ∃ a : Nat, m = R.length - a ∧ a ≤ R.length ∧ t 3 = .int .i64 a ∧ t 1 = .pointer (some ⟨pi, 0, none⟩) ∧ H' = H1 ∧ (∀ i, i < a → ordB n (R.getD i []) = true)) R.length ?_ ?_
      · refine ⟨0, by omega, by omega, ?_⟩
        try simp (disch := first | omega | (simp only [ints_length, List.length_replicate, bools_length, metL_length] <;> omega)) only [Sall,evalOp,init,binA_s,binE,binI,unE,convE,okNil,builtE,gv,TD.isAgg,resV,↓reduceIte,Nat.reduceEqDiff,reduceCtorEq,Nat.reduceAdd,Nat.reduceMul,Nat.reduceLeDiff,quietOp,blindOp,Int.reduceEq,Int.reduceLT,Int.reduceLE,Nat.reduceLT,tiA,tiXA, Int.natCast_zero, Nat.not_lt_zero, false_implies]
      · rintro m t H' ⟨a, hm, ha, h3, h1, rfl, hall⟩
        try simp (disch := first | omega | (simp only [ints_length, List.length_replicate, bools_length, metL_length] <;> omega)) only [Sall,evalOp,init,binA_s,binE,binI,unE,convE,okNil,builtE,gv,TD.isAgg,resV,↓reduceIte,Nat.reduceEqDiff,reduceCtorEq,Nat.reduceAdd,Nat.reduceMul,Nat.reduceLeDiff,quietOp,blindOp,Int.reduceEq,Int.reduceLT,Int.reduceLE,Nat.reduceLT,tiA,tiXA, h3, h1, e1, builtE, hvl]
        refine condC_dec (fun h => ?_) (fun h => ?_)
        · obtain ⟨xi, xo, xuu, xc, xr, y, my, ex, hxr, hy, hsx, hok⟩ := hv1.get (j := a) (by omega)
          have hmm := hsx.lenK1
          subst hmm
          have hll := hl2 (R.getD a []) (by rw [List.getD_eq_getElem?_getD, List.getElem?_eq_getElem (by omega)]; exact List.getElem_mem _)
          refine draw_id (by kernel_rfl) (by kernel_rfl) ?_
          try simp (disch := first | omega | (simp only [ints_length, List.length_replicate, bools_length, metL_length] <;> omega)) only [Sall,evalOp,init,binA_s,binE,binI,unE,convE,okNil,builtE,gv,TD.isAgg,resV,↓reduceIte,Nat.reduceEqDiff,reduceCtorEq,Nat.reduceAdd,Nat.reduceMul,Nat.reduceLeDiff,quietOp,blindOp,Int.reduceEq,Int.reduceLT,Int.reduceLE,Nat.reduceLT,tiA,tiXA, h3, h1, e1, ex, hxr, hy, hok]
          (repeat refine And.intro (by omega) ?_)
          refine (l08Round_c n (by omega) y _ H' hsx (by omega)).to ?_
          refine ⟨.inr (.inr (LE.refl _)), ?_⟩
          cases hr : ordB n (R.getD a []) with
          | true =>
            try simp (disch := first | omega | (simp only [ints_length, List.length_replicate, bools_length, metL_length] <;> omega)) only [Sall,evalOp,init,binA_s,binE,binI,unE,convE,okNil,builtE,gv,TD.isAgg,resV,↓reduceIte,Nat.reduceEqDiff,reduceCtorEq,Nat.reduceAdd,Nat.reduceMul,Nat.reduceLeDiff,quietOp,blindOp,Int.reduceEq,Int.reduceLT,Int.reduceLE,Nat.reduceLT,tiA,tiXA, Bool.not_true, h3, h1, w64]
            refine ⟨R.length - (a + 1), by omega, a + 1, rfl, by omega, by omega, fun i hi => ?_⟩
            by_cases e : i = a
            · rw [e]; exact hr
            · exact hall i (by omega)
          | false =>
            try simp (disch := first | omega | (simp only [ints_length, List.length_replicate, bools_length, metL_length] <;> omega)) only [Sall,evalOp,init,binA_s,binE,binI,unE,convE,okNil,builtE,gv,TD.isAgg,resV,↓reduceIte,Nat.reduceEqDiff,reduceCtorEq,Nat.reduceAdd,Nat.reduceMul,Nat.reduceLeDiff,quietOp,blindOp,Int.reduceEq,Int.reduceLT,Int.reduceLE,Nat.reduceLT,tiA,tiXA, Bool.not_false]
            rw [all_false_of (i := a) (by omega) hr]
            exact ⟨rfl, up⟩
        · try simp (disch := first | omega | (simp only [ints_length, List.length_replicate, bools_length, metL_length] <;> omega)) only [Sall,evalOp,init,binA_s,binE,binI,unE,convE,okNil,builtE,gv,TD.isAgg,resV,↓reduceIte,Nat.reduceEqDiff,reduceCtorEq,Nat.reduceAdd,Nat.reduceMul,Nat.reduceLeDiff,quietOp,blindOp,Int.reduceEq,Int.reduceLT,Int.reduceLE,Nat.reduceLT,tiA,tiXA, true_and]
          have ha2 : a = R.length := by omega
          subst ha2
          rw [all_true_of hall]
          exact ⟨rfl, up⟩
    · have k : (12 : Int) < (R.length : Int) := by omega
      rw [decide_eq_false h12]
      try simp (disch := first | omega | (simp only [ints_length, List.length_replicate, bools_length, metL_length] <;> omega)) only [Sall,evalOp,init,binA_s,binE,binI,unE,convE,okNil,builtE,gv,TD.isAgg,resV,↓reduceIte,Nat.reduceEqDiff,reduceCtorEq,Nat.reduceAdd,Nat.reduceMul,Nat.reduceLeDiff,quietOp,blindOp,Int.reduceEq,Int.reduceLT,Int.reduceLE,Nat.reduceLT,tiA,tiXA, e1, builtE, hvl, k, decide_true, Bool.not_true, Bool.false_and, Bool.and_false]
      exact up
theorem IsGolfC_c (n : Nat) (g : Int) (u : Value) (y : Value) (l : List Int) (c0 : Nat) (H : AH) (h0 : H.row c0 = some ⟨26, true, [.int .i64 n, .int .i64 g, u]⟩) (hy : Rd 1 H y l.length l) (hl : l.length ≤ 4194304) :
    ACalls Tryz.prog 56 [y, .pointer (some ⟨c0, 0, none⟩)] H (is (.bool (!ordB n l)) H) := by
  refine acalls_of_awp [.tmp 3] Tryz.func56 (by kernel_rfl) rfl rfl (Nat.le_of_ble_eq_true rfl) (by kernel_rfl) ?_
  try simp (disch := first | omega | (simp only [ints_length, List.length_replicate, bools_length, metL_length] <;> omega)) only [Sall,evalOp,init,binA_s,binE,binI,unE,convE,okNil,builtE,gv,TD.isAgg,resV,↓reduceIte,Nat.reduceEqDiff,reduceCtorEq,Nat.reduceAdd,Nat.reduceMul,Nat.reduceLeDiff,quietOp,blindOp,Int.reduceEq,Int.reduceLT,Int.reduceLE,Nat.reduceLT,tiA,tiXA, h0]
  refine (isOrder_c n y l H hy (by omega)).to ?_
  refine Holds.mp ?_
  try simp (disch := first | omega | (simp only [ints_length, List.length_replicate, bools_length, metL_length] <;> omega)) only [Sall,evalOp,init,binA_s,binE,binI,unE,convE,okNil,builtE,gv,TD.isAgg,resV,↓reduceIte,Nat.reduceEqDiff,reduceCtorEq,Nat.reduceAdd,Nat.reduceMul,Nat.reduceLeDiff,quietOp,blindOp,Int.reduceEq,Int.reduceLT,Int.reduceLE,Nat.reduceLT,tiA,tiXA, is]
theorem IsGolf_c (q g : Int) (v : Value) (R : List (List Int)) (H : AH) (hv : Rd2 1 H v R) (hl : R.length ≤ 4194304) (hl2 : ∀ r ∈ R, r.length ≤ 4194304) :
    ACalls Tryz.prog 28 [.agg #[.int .i64 q, .int .i64 g, v]] H (is (.bool (golfB q g R)) H) := by
  refine acalls_up rfl (ACalls.wf (by kernel_rfl) fun hs => acalls_of_awp [.tmp 2] Tryz.func28 (by kernel_rfl) rfl rfl (Nat.le_of_ble_eq_true rfl) (by kernel_rfl) ?_)
  have hone := hv.one
  have o1 := golf_push hs q g v
  try simp (disch := first | omega | (simp only [ints_length, List.length_replicate, bools_length, metL_length] <;> omega)) only [Sall,evalOp,init,binA_s,binE,binI,unE,convE,okNil,builtE,gv,TD.isAgg,resV,↓reduceIte,Nat.reduceEqDiff,reduceCtorEq,Nat.reduceAdd,Nat.reduceMul,Nat.reduceLeDiff,quietOp,blindOp,Int.reduceEq,Int.reduceLT,Int.reduceLE,Nat.reduceLT,tiA,tiXA, hone]
  obtain ⟨pi, epi⟩ : ∃ pi, pi = H.next := ⟨_, rfl⟩
  rw [← epi] at o1 ⊢
  generalize H.push ⟨26, true, [.int .i64 q, .int .i64 g, v]⟩ = H1 at o1 ⊢
  have up : Up pi H H1 := by rw [epi]; exact o1.up
  have e1 := (o1.rowAt 0 rfl).1
  have hv1 := hv.same (o1.old hs)
  have hvl := hv1.len
  try simp (disch := first | omega | (simp only [ints_length, List.length_replicate, bools_length, metL_length] <;> omega)) only [Sall,evalOp,init,binA_s,binE,binI,unE,convE,okNil,builtE,gv,TD.isAgg,resV,↓reduceIte,Nat.reduceEqDiff,reduceCtorEq,Nat.reduceAdd,Nat.reduceMul,Nat.reduceLeDiff,quietOp,blindOp,Int.reduceEq,Int.reduceLT,Int.reduceLE,Nat.reduceLT,tiA,tiXA, e1]
  refine (between_c _ _ _ _).to ?_
  unfold golfB golfS
  by_cases hq : 2 ≤ q ∧ q ≤ 25
  · rw [decide_eq_true hq]
    refine Holds.mp ?_
    try simp (disch := first | omega | (simp only [ints_length, List.length_replicate, bools_length, metL_length] <;> omega)) only [Sall,evalOp,init,binA_s,binE,binI,unE,convE,okNil,builtE,gv,TD.isAgg,resV,↓reduceIte,Nat.reduceEqDiff,reduceCtorEq,Nat.reduceAdd,Nat.reduceMul,Nat.reduceLeDiff,quietOp,blindOp,Int.reduceEq,Int.reduceLT,Int.reduceLE,Nat.reduceLT,tiA,tiXA, e1]
    refine (between_c _ _ _ _).to ?_
    by_cases hg : 2 ≤ g ∧ g ≤ q
    · rw [decide_eq_true hg]
      obtain ⟨n, rfl⟩ : ∃ n : Nat, q = n := ⟨q.toNat, by omega⟩
      obtain ⟨gN, rfl⟩ : ∃ gN : Nat, g = gN := ⟨g.toNat, by omega⟩
      rw [Int.toNat_natCast]
      have em : Int.tmod (n : Int) (gN : Int) = ((n % gN : Nat) : Int) := rfl
      have hlt := Nat.mod_lt n (show 0 < gN by omega)
      have hg0 : ¬ (gN : Int) = 0 := by omega
      by_cases h0 : n % gN = 0
      · have h0' : (((n % gN : Nat) : Int) == 0) = true := by rw [h0]; rfl
        have h0'' : decide (((n % gN : Nat) : Int) = 0) = true := by rw [h0]; rfl
        by_cases h12 : R.length ≤ 12
        · have k : (R.length : Int) ≤ 12 := by omega
          rw [em, h0'', decide_eq_true h12]
          refine Holds.mp ?_
          try simp (disch := first | omega | (simp only [ints_length, List.length_replicate, bools_length, metL_length] <;> omega)) only [Sall,evalOp,init,binA_s,binE,binI,unE,convE,okNil,builtE,gv,TD.isAgg,resV,↓reduceIte,Nat.reduceEqDiff,reduceCtorEq,Nat.reduceAdd,Nat.reduceMul,Nat.reduceLeDiff,quietOp,blindOp,Int.reduceEq,Int.reduceLT,Int.reduceLE,Nat.reduceLT,tiA,tiXA, e1, hg0, em, h0', builtE, hvl, k, decide_true, List.mem_cons, List.not_mem_nil, or_false, forall_eq_or_imp, forall_eq, Array.size_empty, w64]
          refine (containsFuncLL_c 56 [.pointer (some ⟨pi, 0, none⟩)] (fun l => !ordB n l) v R H1 hv1 (by omega) fun y r hr hy => IsGolfC_c n gN v y r pi H1 e1 hy (hl2 r hr)).to ?_
          have hany : ((List.range R.length).any fun i => !ordB n (R.getD i [])) = !((List.range R.length).all fun i => ordB n (R.getD i [])) := by rw [List.not_all_eq_any_not]
          rw [hany]
          refine Holds.mp ?_
          try simp (disch := first | omega | (simp only [ints_length, List.length_replicate, bools_length, metL_length] <;> omega)) only [Sall,evalOp,init,binA_s,binE,binI,unE,convE,okNil,builtE,gv,TD.isAgg,resV,↓reduceIte,Nat.reduceEqDiff,reduceCtorEq,Nat.reduceAdd,Nat.reduceMul,Nat.reduceLeDiff,quietOp,blindOp,Int.reduceEq,Int.reduceLT,Int.reduceLE,Nat.reduceLT,tiA,tiXA, Bool.not_not, Bool.true_and]
          first | exact up | exact ⟨rfl, up⟩
        · have k : ¬ (R.length : Int) ≤ 12 := by omega
          rw [em, h0'', decide_eq_false h12]
          refine Holds.mp ?_
          try simp (disch := first | omega | (simp only [ints_length, List.length_replicate, bools_length, metL_length] <;> omega)) only [Sall,evalOp,init,binA_s,binE,binI,unE,convE,okNil,builtE,gv,TD.isAgg,resV,↓reduceIte,Nat.reduceEqDiff,reduceCtorEq,Nat.reduceAdd,Nat.reduceMul,Nat.reduceLeDiff,quietOp,blindOp,Int.reduceEq,Int.reduceLT,Int.reduceLE,Nat.reduceLT,tiA,tiXA, e1, hg0, em, h0', builtE, hvl, k, decide_false, Bool.false_and, Bool.and_false, w64]
          exact up
      · have h0' : (((n % gN : Nat) : Int) == 0) = false := beq_eq_false_iff_ne.2 (by omega)
        have h0'' : decide (((n % gN : Nat) : Int) = 0) = false := decide_eq_false (by omega)
        rw [em, h0'']
        refine Holds.mp ?_
        try simp (disch := first | omega | (simp only [ints_length, List.length_replicate, bools_length, metL_length] <;> omega)) only [Sall,evalOp,init,binA_s,binE,binI,unE,convE,okNil,builtE,gv,TD.isAgg,resV,↓reduceIte,Nat.reduceEqDiff,reduceCtorEq,Nat.reduceAdd,Nat.reduceMul,Nat.reduceLeDiff,quietOp,blindOp,Int.reduceEq,Int.reduceLT,Int.reduceLE,Nat.reduceLT,tiA,tiXA, e1, hg0, em, h0', Bool.false_and, Bool.and_false, w64]
        exact up
    · rw [decide_eq_false hg]
      refine Holds.mp ?_
      try simp (disch := first | omega | (simp only [ints_length, List.length_replicate, bools_length, metL_length] <;> omega)) only [Sall,evalOp,init,binA_s,binE,binI,unE,convE,okNil,builtE,gv,TD.isAgg,resV,↓reduceIte,Nat.reduceEqDiff,reduceCtorEq,Nat.reduceAdd,Nat.reduceMul,Nat.reduceLeDiff,quietOp,blindOp,Int.reduceEq,Int.reduceLT,Int.reduceLE,Nat.reduceLT,tiA,tiXA, Bool.false_and, Bool.and_false]
      exact up
  · rw [decide_eq_false hq]
    refine Holds.mp ?_
    try simp (disch := first | omega | (simp only [ints_length, List.length_replicate, bools_length, metL_length] <;> omega)) only [Sall,evalOp,init,binA_s,binE,binI,unE,convE,okNil,builtE,gv,TD.isAgg,resV,↓reduceIte,Nat.reduceEqDiff,reduceCtorEq,Nat.reduceAdd,Nat.reduceMul,Nat.reduceLeDiff,quietOp,blindOp,Int.reduceEq,Int.reduceLT,Int.reduceLE,Nat.reduceLT,tiA,tiXA, Bool.false_and]
    exact up
theorem golfCode_c (q g : Int) (v : Value) (R : List (List Int)) (b : Bool) (H : AH) (hv : Rd2 1 H v R) (hl : R.length ≤ 4194304) (hl2 : ∀ r ∈ R, r.length ≤ 4194304) :
    ACalls Tryz.prog 36 [.agg #[.int .i64 q, .int .i64 g, v], .bool b] H (is (.int .i64 (glC q g R b)) H) := by
  refine acalls_up rfl (ACalls.wf (by kernel_rfl) fun hs => acalls_of_awp [.tmp 4] Tryz.func36 (by kernel_rfl) rfl rfl (Nat.le_of_ble_eq_true rfl) (by kernel_rfl) ?_)
  have hone := hv.one
  have o1 := golf_push hs q g v
  try simp (disch := first | omega | (simp only [ints_length, List.length_replicate, bools_length, metL_length] <;> omega)) only [Sall,evalOp,init,binA_s,binE,binI,unE,convE,okNil,builtE,gv,TD.isAgg,resV,↓reduceIte,Nat.reduceEqDiff,reduceCtorEq,Nat.reduceAdd,Nat.reduceMul,Nat.reduceLeDiff,quietOp,blindOp,Int.reduceEq,Int.reduceLT,Int.reduceLE,Nat.reduceLT,tiA,tiXA, hone]
  refine (IsGolf_c q g v R _ (hv.same (o1.old hs)) hl hl2).to ?_
  refine Holds.mp ?_
  have up := o1.up
  unfold glC
  obtain hE | hE : golfB q g R = true ∨ golfB q g R = false := by cases golfB q g R <;> simp
  · rw [hE, if_pos rfl]
    obtain hb | hb : b = true ∨ b = false := by cases b <;> simp
    · rw [hb, if_pos rfl]
      try simp (disch := first | omega | (simp only [ints_length, List.length_replicate, bools_length, metL_length] <;> omega)) only [Sall,evalOp,init,binA_s,binE,binI,unE,convE,okNil,builtE,gv,TD.isAgg,resV,↓reduceIte,Nat.reduceEqDiff,reduceCtorEq,Nat.reduceAdd,Nat.reduceMul,Nat.reduceLeDiff,quietOp,blindOp,Int.reduceEq,Int.reduceLT,Int.reduceLE,Nat.reduceLT,tiA,tiXA, Bool.not_true]
      exact up
    · rw [hb, if_neg (by simp)]
      try simp (disch := first | omega | (simp only [ints_length, List.length_replicate, bools_length, metL_length] <;> omega)) only [Sall,evalOp,init,binA_s,binE,binI,unE,convE,okNil,builtE,gv,TD.isAgg,resV,↓reduceIte,Nat.reduceEqDiff,reduceCtorEq,Nat.reduceAdd,Nat.reduceMul,Nat.reduceLeDiff,quietOp,blindOp,Int.reduceEq,Int.reduceLT,Int.reduceLE,Nat.reduceLT,tiA,tiXA, Bool.not_true, Bool.not_false]
      exact up
  · rw [hE, if_neg (by simp)]
    try simp (disch := first | omega | (simp only [ints_length, List.length_replicate, bools_length, metL_length] <;> omega)) only [Sall,evalOp,init,binA_s,binE,binI,unE,convE,okNil,builtE,gv,TD.isAgg,resV,↓reduceIte,Nat.reduceEqDiff,reduceCtorEq,Nat.reduceAdd,Nat.reduceMul,Nat.reduceLeDiff,quietOp,blindOp,Int.reduceEq,Int.reduceLT,Int.reduceLE,Nat.reduceLT,tiA,tiXA, Bool.not_false]
    exact up
theorem hasRound_c (q g : Int) (v : Value) (R : List (List Int)) (i : Int) (H : AH) (hv : Rd2 1 H v R) (hl : R.length ≤ 4194304) :
    ACalls Tryz.prog 51 [.agg #[.int .i64 q, .int .i64 g, v], .int .i64 i] H (is (.bool (decide (0 ≤ i ∧ i ≤ (R.length : Int) - 1))) H) := by
  refine acalls_up rfl (ACalls.wf (by kernel_rfl) fun hs => acalls_of_awp [.tmp 4] Tryz.func51 (by kernel_rfl) rfl rfl (Nat.le_of_ble_eq_true rfl) (by kernel_rfl) ?_)
  have hone := hv.one
  have o1 := golf_push hs q g v
  have up := o1.up
  try simp (disch := first | omega | (simp only [ints_length, List.length_replicate, bools_length, metL_length] <;> omega)) only [Sall,evalOp,init,binA_s,binE,binI,unE,convE,okNil,builtE,gv,TD.isAgg,resV,↓reduceIte,Nat.reduceEqDiff,reduceCtorEq,Nat.reduceAdd,Nat.reduceMul,Nat.reduceLeDiff,quietOp,blindOp,Int.reduceEq,Int.reduceLT,Int.reduceLE,Nat.reduceLT,tiA,tiXA, hone]
  refine (sizeLL_c v R _ (hv.same (o1.old hs)) (by omega)).to ?_
  refine Holds.mp ?_
  try simp (disch := first | omega | (simp only [ints_length, List.length_replicate, bools_length, metL_length] <;> omega)) only [Sall,evalOp,init,binA_s,binE,binI,unE,convE,okNil,builtE,gv,TD.isAgg,resV,↓reduceIte,Nat.reduceEqDiff,reduceCtorEq,Nat.reduceAdd,Nat.reduceMul,Nat.reduceLeDiff,quietOp,blindOp,Int.reduceEq,Int.reduceLT,Int.reduceLE,Nat.reduceLT,tiA,tiXA, w64]
  refine (between_c _ _ _ _).to ?_
  refine Holds.mp ?_
  try simp (disch := first | omega | (simp only [ints_length, List.length_replicate, bools_length, metL_length] <;> omega)) only [Sall,evalOp,init,binA_s,binE,binI,unE,convE,okNil,builtE,gv,TD.isAgg,resV,↓reduceIte,Nat.reduceEqDiff,reduceCtorEq,Nat.reduceAdd,Nat.reduceMul,Nat.reduceLeDiff,quietOp,blindOp,Int.reduceEq,Int.reduceLT,Int.reduceLE,Nat.reduceLT,tiA,tiXA, true_and]
  exact up
end Go.Proofs.YtollphjompimjaaGreat.A
end

section
namespace Go.Abs
open Go Go.RowKit
def Rg (H : AH) (v : Value) (ll : List (List Int)) : Prop :=
  (ll = [] ∧ ∃ a c, v = .slice a 0 c ∧ (a = none → c = 0)) ∨ ∃ i o u c r, v = .slice (some ⟨i, o, u⟩) ll.length c ∧ H.row i = some r ∧
    ∀ j, j < ll.length → ∃ x m, r.cells[o + j]? = some x ∧ Rs 1 H x m (ll.getD j [])
theorem Rg.rd2 {H : AH} {v : Value} {ll : List (List Int)} (h : Rg H v ll) : Rd2 1 H v ll := by
  rcases h with h | ⟨i, o, u, c, r, hv, hr, hj⟩
  · exact .inl h
  · refine .inr ⟨i, o, u, c, r, hv, hr, fun j hjl => ?_⟩
    obtain ⟨x, m, hx, hf⟩ := hj j hjl
    exact ⟨x, m, hx, hf.rd⟩
theorem Rg.same {H H' : AH} {v : Value} {ll : List (List Int)} (h : Rg H v ll) (hs : ∀ i r, H.row i = some r → H'.row i = some r) : Rg H' v ll := by
  rcases h with h | ⟨i, o, u, c, r, hv, hr, hj⟩
  · exact .inl h
  · refine .inr ⟨i, o, u, c, r, hv, hs _ _ hr, fun j hjl => ?_⟩
    obtain ⟨x, m, hx, hf⟩ := hj j hjl
    exact ⟨x, m, hx, hf.same hs⟩
theorem Rg.len {H : AH} {v : Value} {ll : List (List Int)} (h : Rg H v ll) (H' : AH) : asSl v (.val (.int .i64 0) H') (fun _ _ _ n _ => .val (.int .i64 (n : Int)) H') = .val (.int .i64 (ll.length : Int)) H' := h.rd2.len H'
theorem Rg.one {H : AH} {v : Value} {ll : List (List Int)} (h : Rg H v ll) : v.oneCell' = true := h.rd2.one
theorem Rg.get {H : AH} {v : Value} {ll : List (List Int)} (h : Rg H v ll) {j : Nat} (hj : j < ll.length) :
    ∃ i o u c r x, v = .slice (some ⟨i, o, u⟩) ll.length c ∧ H.row i = some r ∧ r.cells[o + j]? = some x ∧ Rs 1 H x (ll.getD j []).length (ll.getD j []) ∧ Row.ok r [x] := by
  rcases h with ⟨rfl, _⟩ | ⟨i, o, u, c, r, rfl, hr, h3⟩
  · simp at hj
  · obtain ⟨x, m, hx, hf⟩ := h3 j hj
    have hm := hf.rd.lenK1
    subst hm
    exact ⟨i, o, u, c, r, x, rfl, hr, hx, hf, ok_one hf.rd.one⟩
theorem sl2_rg {ty ty' : TypeId} {v : Value} {ll : List (List Int)} {H : AH} {S : Nat → Prop} (hp : (Th.sl2 (Value.int .i64) ty ty' v ll).p H S) : Rg H v ll := by
  rcases hp with ⟨h1, h2⟩ | ⟨i, vs, o, h1, h2, h3, h4, h5, h6⟩
  · exact .inl ⟨h1, none, 0, h2, fun _ => rfl⟩
  · refine .inr ⟨i, 0, some 1, _, _, h3, h4, fun j hj => ?_⟩
    obtain ⟨x, hx, hq⟩ := h6 j hj
    have hf : (Th.sl 1 ty' x (ll.getD j []).length (ints (ll.getD j []))).p H (fun z => S z ∧ o z = j + 1) := hq
    exact ⟨x, _, by simpa using hx, cap_rs (cap_of_sl hf)⟩
theorem Ow.rg {B H : AH} {L : List Th} (h : Ow B H L) (k : Nat) {ty ty' : TypeId} {v : Value} {ll : List (List Int)} (hk : L[k]? = some (.sl2 (Value.int .i64) ty ty' v ll)) : Rg H v ll := by
  obtain ⟨S, _, hp⟩ := h.at hk
  exact sl2_rg hp
theorem Ow.rs {B H : AH} {L : List Th} (h : Ow B H L) (k : Nat) {z n : Nat} {ty : TypeId} {v : Value} {l : List Int} (hk : L[k]? = some (.sl z ty v n (ints l))) : Rs z H v n l := by
  obtain ⟨S, _, hp⟩ := h.at hk
  exact cap_rs (cap_of_sl hp)
def RowsC (vs : List Value) (ll : List (List Int)) (H : AH) : Prop := vs.length = ll.length ∧ ∀ j, j < ll.length → ∃ x, vs[j]? = some x ∧ Rs 1 H x (ll.getD j []).length (ll.getD j [])
theorem RowsC.nil (H : AH) : RowsC [] [] H := ⟨rfl, fun j h => by simp at h⟩
theorem RowsC.snoc {vs : List Value} {ll : List (List Int)} {H : AH} {x : Value} {l : List Int} (h : RowsC vs ll H) (hx : Rs 1 H x l.length l) : RowsC (vs ++ [x]) (ll ++ [l]) H := by
  refine ⟨by simp [h.1], fun j hj => ?_⟩
  rw [List.length_append, List.length_singleton] at hj
  by_cases e : j < ll.length
  · obtain ⟨y, h1, h2⟩ := h.2 j e
    have e2 : (ll ++ [l]).getD j [] = ll.getD j [] := by rw [List.getD_eq_getElem?_getD, List.getD_eq_getElem?_getD, List.getElem?_append_left e]
    rw [e2]
    exact ⟨y, by rw [List.getElem?_append_left (by rw [h.1]; exact e)]; exact h1, h2⟩
  · obtain rfl : j = ll.length := by omega
    have e2 : (ll ++ [l]).getD ll.length [] = l := by rw [List.getD_eq_getElem?_getD, List.getElem?_append_right (Nat.le_refl _), Nat.sub_self]; rfl
    rw [e2]
    exact ⟨x, by rw [← h.1, List.getElem?_append_right (Nat.le_refl _), Nat.sub_self]; rfl, hx⟩
theorem RowsC.app {vs ws : List Value} {ll mm : List (List Int)} {H : AH} (h : RowsC vs ll H) (k : RowsC ws mm H) : RowsC (vs ++ ws) (ll ++ mm) H := by
  refine ⟨by simp [h.1, k.1], fun j hj => ?_⟩
  rw [List.length_append] at hj
  by_cases e : j < ll.length
  · obtain ⟨y, h1, h2⟩ := h.2 j e
    have e2 : (ll ++ mm).getD j [] = ll.getD j [] := by rw [List.getD_eq_getElem?_getD, List.getD_eq_getElem?_getD, List.getElem?_append_left e]
    rw [e2]
    exact ⟨y, by rw [List.getElem?_append_left (by rw [h.1]; exact e)]; exact h1, h2⟩
  · obtain ⟨y, h1, h2⟩ := k.2 (j - ll.length) (by omega)
    have e2 : (ll ++ mm).getD j [] = mm.getD (j - ll.length) [] := by rw [List.getD_eq_getElem?_getD, List.getD_eq_getElem?_getD, List.getElem?_append_right (by omega)]
    rw [e2]
    exact ⟨y, by rw [List.getElem?_append_right (by rw [h.1]; omega), h.1]; exact h1, h2⟩
theorem RowsC.rg {ty : TypeId} {vs : List Value} {ll : List (List Int)} {H : AH} {S : Nat → Prop} {u : Value} {m : Nat} (h : RowsC vs ll H) (hp : (Th.sl 1 ty u m vs).p H S) : Rg H u ll := by
  have hm : m = ll.length := by have := hp.1; have := h.1; omega
  rcases hp.2 with ⟨h0, h1⟩ | ⟨i, _, h1, h2⟩
  · exact .inl ⟨List.eq_nil_of_length_eq_zero (by omega), none, 0, h1, fun _ => rfl⟩
  · refine .inr ⟨i, 0, some 1, _, _, by rw [h1, hm], h2, fun j hj => ?_⟩
    obtain ⟨x, hx, hr⟩ := h.2 j hj
    exact ⟨x, _, by simpa using hx, hr⟩
def Rc (u : Value) (ws : List Value) (ll : List (List Int)) (H : AH) : Prop :=
  RowsC ws ll H ∧ ((u = .slice none 0 0 ∧ ws = []) ∨ ∃ i o s c r, u = .slice (some ⟨i, o, s⟩) ws.length c ∧ H.row i = some r ∧ o + ws.length ≤ r.cells.length ∧ seg r.cells o ws.length = ws)
theorem Rc.rg {u : Value} {ws : List Value} {ll : List (List Int)} {H : AH} (h : Rc u ws ll H) : Rg H u ll := by
  obtain ⟨h1, h2⟩ := h
  rcases h2 with ⟨e1, e2⟩ | ⟨i, o, s, c, r, e1, h3, h4, h5⟩
  · exact .inl ⟨List.eq_nil_of_length_eq_zero (by rw [← h1.1, e2]; rfl), none, 0, e1, fun _ => rfl⟩
  · refine .inr ⟨i, o, s, c, r, by rw [e1, h1.1], h3, fun j hj => ?_⟩
    obtain ⟨x, hx, hr⟩ := h1.2 j hj
    refine ⟨x, _, ?_, hr⟩
    rw [← h5] at hx
    simp only [seg, List.getElem?_take, List.getElem?_drop] at hx
    rw [if_pos (by rw [h1.1]; exact hj)] at hx
    exact hx
theorem rc_of_sl {ty : TypeId} {vs : List Value} {ll : List (List Int)} {H : AH} {S : Nat → Prop} {u : Value} {m : Nat} (h : RowsC vs ll H) (hp : (Th.sl 1 ty u m vs).p H S) : Rc u vs ll H := by
  have hm : m = vs.length := by have := hp.1; omega
  refine ⟨h, ?_⟩
  rcases hp.2 with ⟨h0, h1⟩ | ⟨i, _, h1, h2⟩
  · exact .inl ⟨h1, List.eq_nil_of_length_eq_zero (by omega)⟩
  · exact .inr ⟨i, 0, some 1, m, _, by rw [h1, hm], h2, by simp, seg_all _ _ rfl⟩
theorem sl2_rc {ty ty' : TypeId} {u : Value} {ll : List (List Int)} {H : AH} {S : Nat → Prop} (hp : (Th.sl2 (Value.int .i64) ty ty' u ll).p H S) : ∃ ws, ∀ S', (Th.sl2 (Value.int .i64) ty ty' u ll).p H S' → (Th.see (Rc u ws ll)).p H S' := by
  rcases hp with ⟨h1, h2⟩ | ⟨i, vs, o, h1, h2, h3, h4, h5, h6⟩
  · subst h1; subst h2
    exact ⟨[], fun S' _ H' _ => ⟨RowsC.nil _, .inl ⟨rfl, rfl⟩⟩⟩
  · refine ⟨vs, fun S' hp' H' hH => ?_⟩
    rcases hp' with ⟨g1, g2⟩ | ⟨i', vs', o', g1, g2, g3, g4, g5, g6⟩
    · rw [g2] at h3; cases h3
    · obtain rfl : i = i' := by rw [h3] at g3; cases g3; rfl
      obtain rfl : vs = vs' := by rw [h4] at g4; cases g4; rfl
      refine ⟨⟨g5, fun j hj => ?_⟩, .inr ⟨i, 0, some 1, ll.length, _, by rw [g3, g5], hH _ _ g1 g4, by simp, seg_all _ _ rfl⟩⟩
      obtain ⟨x, hx, hq⟩ := g6 j hj
      have hf : (Th.sl 1 ty' x (ll.getD j []).length (ints (ll.getD j []))).p H (fun z => S' z ∧ o' z = j + 1) := hq
      exact ⟨x, hx, cap_rs (cap_of_sl (sl_at hf (fun _ h => h) fun z r hz hr => hH z r hz.1 hr))⟩
theorem Ow.sl2Rc {B H : AH} {L : List Th} (h : Ow B H L) (k : Nat) {ty ty' : TypeId} {u : Value} {ll : List (List Int)} (hk : L[k]? = some (.sl2 (Value.int .i64) ty ty' u ll)) : ∃ ws, Ow B H [.see (Rc u ws ll)] := by
  obtain ⟨S, _, hp⟩ := h.at hk
  obtain ⟨ws, hw⟩ := sl2_rc hp
  exact ⟨ws, (h.tell k hk hw).only k (by rw [List.getElem?_set, if_pos rfl, if_pos (List.getElem?_eq_some_iff.1 hk).1])⟩
theorem Ow.appWC {P : Program} {E : TI} {n : Nat} {ty : TypeId} {B H : AH} {L : List Th} {w u : Value} {vs ws : List Value} {ll : List (List Int)} {K : Value → AH → Prop} (h : Ow B H L) (k : Nat) (hk : L[k]? = some (.sl 1 ty w n vs)) (hv : Rc u ws ll H) (hz : E.size = 1) (hb : E.bytes ≤ 32768) (hn : n + ws.length ≤ 4294967296)
    (hK : ∀ v' H', H.next ≤ H'.next → Ow B H' (L.set k (.sl 1 ty v' (n + ws.length) (vs ++ ws))) → K v' H') : runOut P H (slCells H 1 u fun xs m => appE E ty w xs m H) K := by
  obtain ⟨hr, hu⟩ := hv
  have hws : ∀ x ∈ ws, x.oneCell' = true := fun x hx => by
    obtain ⟨j, hj, e⟩ := List.getElem_of_mem hx
    obtain ⟨y, hy, hrd⟩ := hr.2 j (by rw [← hr.1]; exact hj)
    rw [List.getElem?_eq_getElem hj] at hy
    cases hy
    rw [← e]; exact hrd.rd.one
  have key : ws = [] → runOut P H (appE E ty w [] 0 H) K := fun e => by
    subst e
    unfold appE
    rw [if_pos rfl]
    obtain ⟨S, hS, hp⟩ := h.at hk
    have eL : L.set k (.sl 1 ty w (n + ([] : List Value).length) (vs ++ [])) = L := by
      rw [List.append_nil]
      apply List.ext_getElem?
      intro j
      rw [List.getElem?_set]
      have hkl := (List.getElem?_eq_some_iff.1 hk).1
      by_cases e : k = j
      · subst e; rw [if_pos rfl, if_pos hkl]; exact hk.symm
      · rw [if_neg e]
    have hK' := hK w H (Nat.le_refl _) (by rw [eL]; exact h)
    rcases hp.2 with ⟨_, rfl⟩ | ⟨i, h1, rfl, hr⟩
    · simp only [asSl_nil, runOut_val]; exact hK'
    · simp only [asSl_some, runOut_need, runOut_val]; exact ⟨(fun h => by cases h), hK'⟩
  refine Holds.mp ?_
  rcases hu with ⟨rfl, e2⟩ | ⟨i, o, s, c, r, rfl, h3, h4, h5⟩
  · unfold slCells
    simp only [asSl_nil, Holds]
    exact key e2
  · unfold slCells
    simp only [Holds]
    simp only [asSl_some, h3, bindO_some, runOut_need, Nat.mul_one, h5]
    refine ⟨⟨h4, .inr hws⟩, ?_⟩
    rcases Nat.eq_zero_or_pos ws.length with e | e
    · have e0 : ws = [] := List.eq_nil_of_length_eq_zero e
      have := key e0
      rw [e0]; exact this
    · exact h.app k hk hz (by omega) (by omega) e hb hn fun v' H' hn' o' => hK v' H' (by omega) o'
theorem Ow.addNil2 {B H : AH} {L : List Th} (h : Ow B H L) {ty ty' : TypeId} : Ow B H (L ++ [.sl2 (Value.int .i64) ty ty' (.slice none 0 0) []]) := h.add _ (Nat.le_refl _) h.sc (fun _ _ => rfl) fun _ _ => .inl ⟨rfl, rfl⟩
theorem Ow.rowNew {B H H' : AH} {L : List Th} (h : Ow B H L) (k : Nat) {z n i m c o : Nat} {u : Option Nat} {ty : TypeId} {vs vs' : List Value} (hk : L[k]? = some (.sl z ty (.slice (some ⟨i, o, u⟩) m c) n vs)) (hl : vs'.length = vs.length) (hn : H.next ≤ H'.next) (hs : Sc H')
    (hr : ∀ j, j < H.next → ¬ j = i → H'.row j = H.row j) (hi : H'.row i = some ⟨ty, true, vs'⟩) : Ow B H' (L.set k (.sl z ty (.slice (some ⟨i, o, u⟩) m c) n vs')) := by
  refine h.upd hk hn hs fun S hS hp => ?_
  have hiS := sl_mem S hp
  refine ⟨fun j hj hjS => hr j hj fun e => hjS (by rw [e]; exact hiS), fun S' hS' _ => ?_⟩
  rcases hp.2 with ⟨_, h1⟩ | ⟨i', h1, h2, h3⟩
  · cases h1
  · cases h2
    exact ⟨by rw [hl]; exact hp.1, .inr ⟨i, hS' i h1, rfl, hi⟩⟩
theorem Ow.seeStab {B H : AH} {L : List Th} (h : Ow B H L) (j k : Nat) {Q : AH → Prop} {z n i m c o : Nat} {u : Option Nat} {ty : TypeId} {vs : List Value} (hj : L[j]? = some (.see Q)) (hk : L[k]? = some (.sl z ty (.slice (some ⟨i, o, u⟩) m c) n vs)) (hjk : j ≠ k) {H' : AH}
    (hr : ∀ x, x < H.next → ¬ x = i → H'.row x = H.row x) : Q H' := by
  obtain ⟨o', ho⟩ := h.own
  have h1 := ho j _ hj
  have h2 := sl_mem _ (ho k _ hk)
  refine h1 H' fun x r hx hxr => ?_
  rw [hr x hx.2.1 (fun e => by rw [e] at hx; exact hjk (hx.2.2.symm.trans h2.2.2))]
  exact hxr
def RowsP (ps : List (Value × List Int)) (H : AH) : Prop := ∀ p ∈ ps, Rs 1 H p.1 p.2.length p.2
theorem RowsP.snoc {ps : List (Value × List Int)} {H : AH} {x : Value} {l : List Int} (h : RowsP ps H) (hx : Rs 1 H x l.length l) : RowsP (ps ++ [(x, l)]) H := by
  intro p hp
  rcases List.mem_append.1 hp with hp | hp
  · exact h p hp
  · rw [List.mem_singleton] at hp; rw [hp]; exact hx
theorem Ow.addP {B H : AH} {L : List Th} (h : Ow B H L) (k m : Nat) {ps : List (Value × List Int)} {q : Th} {x : Value} {l : List Int} (hk : L[k]? = some (.see (RowsP ps))) (hm : L[m]? = some q) (hkm : k ≠ m) (hq : ∀ H S, q.p H S → Rs 1 H x l.length l) :
    Ow B H (((L.set k ((Th.see (RowsP ps)).both q)).set m .no).set k (.see (RowsP (ps ++ [(x, l)])))) := by
  have hM := h.merge k m hk hm hkm
  refine hM.toSee k (p := (Th.see (RowsP ps)).both q) ?_ fun H S hp => ?_
  · rw [List.getElem?_set, if_neg (fun e => hkm e.symm), List.getElem?_set, if_pos rfl, if_pos (List.getElem?_eq_some_iff.1 hk).1]
  · obtain ⟨o, h1, h2⟩ := hp
    exact (h1 H fun _ _ _ h => h).snoc (hq _ _ h2)
theorem sl_rs {ty : TypeId} {k n : Nat} {v : Value} {l : List Int} {H : AH} {S : Nat → Prop} (hp : (Th.sl k ty v n (ints l)).p H S) : Rs k H v n l := cap_rs (cap_of_sl hp)
theorem Ow.slC {P : Program} {B H H' : AH} {L : List Th} (h : Ow B H L) (k : Nat) {z n : Nat} {ty : TypeId} {v : Value} {vs : List Value} (hk : L[k]? = some (.sl z ty v n vs)) (hn : 0 < n) {f : List Value → Nat → Out} {K : Value → AH → Prop} (hf : runOut P H' (f vs n) K) : runOut P H' (slCells H z v f) K := by
  obtain ⟨i, _, _, rfl, hr⟩ := h.get k hk hn
  have hl := h.len k hk
  unfold slCells
  simp only [asSl_some, hr, bindO_some, runOut_need, Nat.zero_add, hl, seg_all _ _ hl.symm]
  exact ⟨⟨Nat.le_refl _, .inl rfl⟩, hf⟩
theorem Rd.slC {P : Program} {H H' : AH} {n : Nat} {v : Value} {l : List Int} (h : Rd 1 H v n l) (hn : 0 < n) {f : List Value → Nat → Out} {K : Value → AH → Prop} (hf : runOut P H' (f (ints l) n) K) : runOut P H' (slCells H 1 v f) K := by
  obtain ⟨i, o, u, c, r, rfl, hr, h2, h3, h4⟩ := h.get hn
  have h5 := h4 0 n (by omega)
  rw [List.drop_zero, List.take_of_length_le (by have := h.1; omega), Nat.add_zero] at h5
  unfold slCells
  simp only [asSl_some, hr, bindO_some, runOut_need, Nat.mul_one, h5]
  exact ⟨⟨by omega, (ok_ints _ _).symm ▸ trivial⟩, hf⟩
theorem Ow.inc {B H : AH} {L : List Th} (h : Ow B H L) (k : Nat) {ty ty' : TypeId} {w : Value} {n : Nat} {E : List Int} (hk : L[k]? = some (.sl2 (Value.int .i64) ty ty' w (cntMx n E))) {a b : Nat} (ha : a < n) (hb : b < n) (hE : E.length ≤ 1000000) :
    ∃ i vs q row x, w = .slice (some ⟨i, 0, some 1⟩) n n ∧ H.row i = some ⟨ty, true, vs⟩ ∧ vs.length = n ∧ vs[a]? = some (.slice (some ⟨q, 0, some 1⟩) n n) ∧ H.row q = some ⟨ty', true, ints row⟩ ∧ row.length = n ∧ (ints row)[b]? = some (.int .i64 x) ∧ (0 ≤ x ∧ x ≤ 1000000) ∧ q ≠ i ∧
      Ow B (H.setCells q (ints (row.set b (x + 1)))) (L.set k (.sl2 (Value.int .i64) ty ty' w (cntMx n (E ++ [ixN n a b])))) := by
  have hsq := cntMx_sq n E
  have hat := cntMx_at n E a b ha hb
  have hrl := hsq.2 a ha
  obtain ⟨i, vs, x, b1, b2, e1, h1, h2, h3, h4, h5⟩ := h.get2 k hk (j := a) (by rw [hsq.1]; exact ha)
  rw [hrl] at h5
  obtain ⟨q, c1, c2, c3, rfl, h6⟩ := h5 (by omega)
  rw [hsq.1] at e1 h2
  subst e1
  have hcnt : List.count (ixN n a b) E ≤ 1000000 := Nat.le_trans List.count_le_length hE
  refine ⟨i, vs, q, (cntMx n E).getD a [], ((cntMx n E).getD a []).getD b 0, rfl, h1, h2, h3, h6, hrl, ints_get? _ b (by omega), by rw [hat]; omega, c3, ?_⟩
  have o := h.set2 k hk (j := a) (by rw [hsq.1]; exact ha) (l' := ((cntMx n E).getD a []).set b (((cntMx n E).getD a []).getD b 0 + 1)) (by simp) h1 h3
  have e2 : (cntMx n E).set a (((cntMx n E).getD a []).set b (((cntMx n E).getD a []).getD b 0 + 1)) = cntMx n (E ++ [ixN n a b]) := by
    rw [← cntMx_inc n E a b ha hb hE]
    unfold incM incR
    simp only [Int.toNat_natCast]
    rw [hat, show IntKind.i64.wrap (((List.count (ixN n a b) E : Nat) : Int) + 1) = ((List.count (ixN n a b) E : Nat) : Int) + 1 from w64 ⟨by omega, by omega⟩]
  rw [e2] at o
  exact o
end Go.Abs
end

section
namespace Go.Abs
/-! ### Insertion -/
structure Ins {α : Type} (key : α → Int) (l : List α) (i : Nat) (A : List α) (x : α) (B C : List α) : Prop where
  eq : l = A ++ x :: (B ++ C)
  len : A.length + B.length = i
  srt : (A ++ B).Pairwise fun a b => key a ≤ key b
  hx : ∀ b ∈ B, key x ≤ key b
theorem Ins.start {α : Type} {key : α → Int} {l : List α} {i : Nat} (h : (l.take i).Pairwise fun a b => key a ≤ key b) (hi : i < l.length) : Ins key l i (l.take i) l[i] [] (l.drop (i + 1)) := by
  refine ⟨?_, by rw [List.length_take, List.length_nil]; omega, by rw [List.append_nil]; exact h, fun b hb => by simp at hb⟩
  rw [List.nil_append, ← List.drop_eq_getElem_cons hi, List.take_append_drop]
theorem Ins.exit0 {α : Type} {key : α → Int} {l : List α} {i : Nat} {x : α} {B C : List α} (h : Ins key l i [] x B C) : (l.take (i + 1)).Pairwise fun a b => key a ≤ key b := by
  have hl : B.length = i := by have := h.len; simp at this; exact this
  rw [h.eq, List.nil_append, List.take_succ_cons, List.take_left' hl, List.pairwise_cons]
  exact ⟨h.hx, h.srt⟩
theorem Ins.exit1 {α : Type} {key : α → Int} {l : List α} {i : Nat} {A : List α} {z x : α} {B C : List α} (h : Ins key l i (A ++ [z]) x B C) (hz : key z ≤ key x) : (l.take (i + 1)).Pairwise fun a b => key a ≤ key b := by
  have e : l = (A ++ [z] ++ x :: B) ++ C := by rw [h.eq]; simp
  have hl : (A ++ [z] ++ x :: B).length = i + 1 := by have := h.len; rw [List.length_append, List.length_cons]; omega
  rw [e, List.take_left' hl]
  have hs := h.srt
  rw [List.pairwise_append] at hs
  obtain ⟨h1, h2, h3⟩ := hs
  rw [List.pairwise_append]
  refine ⟨h1, ?_, ?_⟩
  · rw [List.pairwise_cons]; exact ⟨h.hx, h2⟩
  · intro a ha b hb
    rcases List.mem_cons.1 hb with rfl | hb
    · rw [List.pairwise_append] at h1
      rcases List.mem_append.1 ha with ha | ha
      · have := h1.2.2 a ha z (by simp)
        omega
      · rw [List.mem_singleton] at ha
        rw [ha]; exact hz
    · exact h3 a ha b hb
theorem Ins.step {α : Type} {key : α → Int} {l : List α} {i : Nat} {A : List α} {z x : α} {B C : List α} (h : Ins key l i (A ++ [z]) x B C) (hz : key x ≤ key z) : Ins key (A ++ x :: (z :: B ++ C)) i A x (z :: B) C ∧ (A ++ x :: (z :: B ++ C)).Perm l := by
  refine ⟨⟨rfl, ?_, ?_, ?_⟩, ?_⟩
  · have := h.len
    simp at this ⊢
    omega
  · have := h.srt
    simpa using this
  · intro b hb
    rcases List.mem_cons.1 hb with rfl | hb
    · exact hz
    · exact h.hx b hb
  · rw [h.eq]
    rw [List.append_assoc]
    exact List.Perm.append_left A (by simpa using List.Perm.swap z x (B ++ C))
theorem Ins.at {α : Type} {key : α → Int} {l : List α} {i : Nat} {A : List α} {x : α} {B C : List α} (h : Ins key l i A x B C) : l[A.length]? = some x := by
  rw [h.eq, List.getElem?_append_right (Nat.le_refl _), Nat.sub_self]; rfl
theorem Ins.at1 {α : Type} {key : α → Int} {l : List α} {i : Nat} {A : List α} {z x : α} {B C : List α} (h : Ins key l i (A ++ [z]) x B C) : l[A.length]? = some z := by
  rw [h.eq, List.append_assoc, List.getElem?_append_right (Nat.le_refl _), Nat.sub_self]; rfl
theorem Ins.swap {α : Type} {key : α → Int} {l : List α} {i : Nat} {A : List α} {z x : α} {B C : List α} (h : Ins key l i (A ++ [z]) x B C) : (l.set (A.length + 1) z).set A.length x = A ++ x :: (z :: B ++ C) := by
  rw [h.eq, List.append_assoc]
  rw [List.set_append_right _ _ (by omega), List.set_append_right _ _ (by omega)]
  rw [Nat.add_sub_cancel_left, Nat.sub_self]
  rfl
theorem Ins.len_all {α : Type} {key : α → Int} {l : List α} {i : Nat} {A : List α} {x : α} {B C : List α} (h : Ins key l i A x B C) : A.length + 1 + B.length + C.length = l.length := by
  rw [h.eq]; simp; omega
theorem cons_end {α : Type} {A : List α} (h : 0 < A.length) : ∃ A' z, A = A' ++ [z] := ⟨A.dropLast, A.getLast (by intro e; rw [e] at h; simp at h), (List.dropLast_concat_getLast _).symm⟩
theorem key_unique {α : Type} (key : α → Int) : ∀ {a b : List α}, a.Perm b → a.Pairwise (fun x y => key x < key y) → b.Pairwise (fun x y => key x < key y) → a = b
  | [], b, h, _, _ => by rw [List.nil_perm] at h; exact h.symm
  | x :: a, [], h, _, _ => by rw [List.perm_nil] at h; exact h
  | x :: a, y :: b, h, ha, hb => by
    have hxy : x = y := by
      have h1 : x ∈ y :: b := h.subset List.mem_cons_self
      have h2 : y ∈ x :: a := h.symm.subset List.mem_cons_self
      rcases List.mem_cons.1 h1 with e | e
      · exact e
      · rcases List.mem_cons.1 h2 with e2 | e2
        · exact e2.symm
        · have := List.rel_of_pairwise_cons ha e2
          have := List.rel_of_pairwise_cons hb e
          omega
    subst hxy
    rw [key_unique key ((List.perm_cons x).1 h) ha.of_cons hb.of_cons]
/-! ### Groups -/
def ixOf (l : List Int) (a : Int) : Nat := (firstI (fun i => l.getD i 0 == a) l.length).toNat
theorem ixOf_at {n : Nat} {l : List Int} (h : ordB n l = true) {i : Nat} (hi : i < n) : firstI (fun j => l.getD j 0 == l.getD i 0) l.length = (i : Int) := by
  obtain ⟨h1, h2, h3⟩ := (ordB_iff n l).1 h
  refine firstI_at (by omega) (by simp) fun x hx => ?_
  rw [beq_eq_false_iff_ne]
  exact getD_ne h3 (by omega) (by omega) (by omega)
theorem ord_has {n : Nat} {l : List Int} (h : ordB n l = true) {a : Int} (ha : 0 ≤ a ∧ a < n) : ∃ i, i < n ∧ l.getD i 0 = a := by
  obtain ⟨i, hi, e⟩ := (bij_of h).onto a.toNat (by omega)
  have h2 := ((ordB_iff n l).1 h).2.1 (l.getD i 0) (getD_memI (by rw [((ordB_iff n l).1 h).1]; exact hi))
  exact ⟨i, hi, by unfold sgR at e; omega⟩
def blkL (g : Nat) (l : List Int) (t : Nat) : List Int := sortedL ((l.drop (t * g)).take g)
def grpL (g : Nat) (l : List Int) (a : Int) : List Int := blkL g l (ixOf l a / g)
theorem grpL_at {n g : Nat} {l : List Int} (h : ordB n l = true) {i : Nat} (hi : i < n) : grpL g l (l.getD i 0) = blkL g l (i / g) := by
  unfold grpL ixOf
  rw [ixOf_at h hi, Int.toNat_natCast]
theorem blk_len {n g c : Nat} (hn : n = g * c) {l : List Int} (h : ordB n l = true) {t : Nat} (ht : t < c) : (blkL g l t).length = g := by
  unfold blkL
  rw [sortedL_length, List.length_take, List.length_drop, ((ordB_iff n l).1 h).1]
  have : (t + 1) * g ≤ c * g := Nat.mul_le_mul_right g ht
  rw [Nat.succ_mul, Nat.mul_comm c] at this
  omega
theorem blk_mem {n g c : Nat} (hg : 0 < g) (hn : n = g * c) {l : List Int} (h : ordB n l = true) {t : Nat} {x : Int} : x ∈ blkL g l t ↔ ∃ i, i < n ∧ i / g = t ∧ l.getD i 0 = x := by
  have hl := ((ordB_iff n l).1 h).1
  unfold blkL
  rw [(sortedL_perm _).mem_iff, List.mem_iff_getElem?]
  constructor
  · rintro ⟨j, hj⟩
    rw [List.getElem?_take] at hj
    split at hj
    · rename_i hjg
      rw [List.getElem?_drop] at hj
      have h1 : t * g + j < l.length := (List.getElem?_eq_some_iff.1 hj).1
      refine ⟨t * g + j, by omega, ?_, ?_⟩
      · rw [Nat.add_comm, Nat.add_mul_div_right _ _ hg, Nat.div_eq_of_lt hjg, Nat.zero_add]
      · rw [List.getD_eq_getElem?_getD, hj]; rfl
    · cases hj
  · rintro ⟨i, hi, rfl, rfl⟩
    obtain ⟨h1, h2⟩ := (div_block (x := i) (y := i) hg).2 rfl
    refine ⟨i - i / g * g, ?_⟩
    rw [List.getElem?_take, if_pos (by omega), List.getElem?_drop, show i / g * g + (i - i / g * g) = i by omega, List.getD_eq_getElem?_getD, List.getElem?_eq_getElem (by omega)]
    rfl
def hdL (r : List Int) : Int := r.getD 0 0
theorem hd_blk {n g c : Nat} (hg : 0 < g) (hn : n = g * c) {l : List Int} (h : ordB n l = true) {t : Nat} (ht : t < c) : hdL (blkL g l t) ∈ blkL g l t ∧ ∀ x ∈ blkL g l t, hdL (blkL g l t) ≤ x := by
  have hl := blk_len hn h ht
  refine ⟨getD_memI (by omega), fun x hx => ?_⟩
  have hs := sortedL_sorted ((l.drop (t * g)).take g)
  unfold hdL blkL at *
  generalize sortedL ((l.drop (t * g)).take g) = r at *
  cases r with
  | nil => simp at hx
  | cons a z =>
    rcases List.mem_cons.1 hx with rfl | hx
    · exact Int.le_refl _
    · exact List.rel_of_pairwise_cons hs hx
theorem blk_same {n g c : Nat} (hg : 0 < g) (hn : n = g * c) {l : List Int} (h : ordB n l = true) {t u : Nat} {x : Int} (h1 : x ∈ blkL g l t) (h2 : x ∈ blkL g l u) : t = u := by
  obtain ⟨i, hi, rfl, e⟩ := (blk_mem hg hn h).1 h1
  obtain ⟨j, hj, rfl, e2⟩ := (blk_mem hg hn h).1 h2
  obtain ⟨l1, _, l3⟩ := (ordB_iff n l).1 h
  by_cases e3 : i = j
  · rw [e3]
  · exact absurd (e.trans e2.symm) (getD_ne l3 (by omega) (by omega) e3)
theorem grp_blk {n g c : Nat} (hg : 0 < g) (hn : n = g * c) {l : List Int} (h : ordB n l = true) {t : Nat} {x : Int} (hx : x ∈ blkL g l t) : grpL g l x = blkL g l t := by
  obtain ⟨i, hi, rfl, e⟩ := (blk_mem hg hn h).1 hx
  rw [← e, grpL_at h hi]
theorem grp_own {n g c : Nat} (hg : 0 < g) (hn : n = g * c) {l : List Int} (h : ordB n l = true) {a : Int} (ha : 0 ≤ a ∧ a < n) : ∃ t, t < c ∧ grpL g l a = blkL g l t ∧ a ∈ grpL g l a := by
  obtain ⟨i, hi, e⟩ := ord_has h ha
  refine ⟨i / g, by rw [Nat.div_lt_iff_lt_mul hg, Nat.mul_comm, ← hn]; exact hi, by rw [← e, grpL_at h hi], ?_⟩
  rw [← e, grpL_at h hi]
  exact (blk_mem hg hn h).2 ⟨i, hi, rfl, rfl⟩
/-! ### Tidy rounds -/
def tidF (g : Nat) (l : List Int) : Nat → List Int
  | 0 => []
  | a + 1 => if (tidF g l a).contains (a : Int) = true then tidF g l a else tidF g l a ++ grpL g l (a : Int)
theorem tidF_succ (g : Nat) (l : List Int) (a : Nat) : tidF g l (a + 1) = if (tidF g l a).contains (a : Int) = true then tidF g l a else tidF g l a ++ grpL g l (a : Int) := rfl
def isHd (g : Nat) (l : List Int) (a : Nat) : Bool := hdL (grpL g l (a : Int)) == (a : Int)
def hdsL (g : Nat) (l : List Int) (a : Nat) : List (List Int) := ((List.range a).filter (isHd g l)).map fun (a : Nat) => grpL g l (a : Int)
theorem hdsL_succ (g : Nat) (l : List Int) (a : Nat) : hdsL g l (a + 1) = hdsL g l a ++ if isHd g l a = true then [grpL g l (a : Int)] else [] := by
  unfold hdsL
  rw [List.range_succ, List.filter_append, List.map_append]
  congr 1
  by_cases h : isHd g l a = true
  · rw [if_pos h]; simp [h]
  · rw [if_neg h]; simp [h]
theorem mem_hdsL {g : Nat} {l : List Int} {n : Nat} {r : List Int} : r ∈ hdsL g l n ↔ ∃ a : Nat, a < n ∧ isHd g l a = true ∧ grpL g l (a : Int) = r := by
  unfold hdsL
  rw [List.mem_map]
  constructor
  · rintro ⟨a, ha, rfl⟩
    rw [List.mem_filter, List.mem_range] at ha
    exact ⟨a, ha.1, ha.2, rfl⟩
  · rintro ⟨a, ha, h, rfl⟩
    exact ⟨a, by rw [List.mem_filter, List.mem_range]; exact ⟨ha, h⟩, rfl⟩
theorem tidF_hds {n g c : Nat} (hg : 0 < g) (hn : n = g * c) {l : List Int} (h : ordB n l = true) : ∀ a, a ≤ n → tidF g l a = (hdsL g l a).flatten
  | 0, _ => rfl
  | a + 1, ha => by
    have ih := tidF_hds hg hn h a (by omega)
    have ha2 : (0 : Int) ≤ (a : Int) ∧ (a : Int) < n := by omega
    obtain ⟨t, ht, e1, e2⟩ := grp_own hg hn h ha2
    have hb := hd_blk hg hn h ht
    rw [← e1] at hb
    have key : (tidF g l a).contains (a : Int) = true ↔ isHd g l a = false := by
      rw [List.contains_iff_mem, ih, List.mem_flatten]
      unfold isHd
      rw [beq_eq_false_iff_ne]
      constructor
      · rintro ⟨r, hr, hx⟩ e
        obtain ⟨b, hba, hbh, rfl⟩ := mem_hdsL.1 hr
        have hb2 : (0 : Int) ≤ (b : Int) ∧ (b : Int) < n := by omega
        obtain ⟨u, hu, e3, e4⟩ := grp_own hg hn h hb2
        have e5 : hdL (grpL g l (b : Int)) = (b : Int) := by unfold isHd at hbh; exact beq_iff_eq.1 hbh
        rw [e3] at hx
        have e6 := grp_blk hg hn h hx
        rw [e6, ← e3, e5] at e
        omega
      · intro e
        have hlt : hdL (grpL g l (a : Int)) < a := by have := hb.2 _ e2; omega
        have hm := hb.1
        have hr0 : 0 ≤ hdL (grpL g l (a : Int)) := by
          rw [e1] at hm
          obtain ⟨i, hi, _, e7⟩ := (blk_mem hg hn h).1 hm
          rw [e1, ← e7]
          exact (((ordB_iff n l).1 h).2.1 _ (getD_memI (by rw [((ordB_iff n l).1 h).1]; exact hi))).1
        obtain ⟨b, hb'⟩ : ∃ b : Nat, hdL (grpL g l (a : Int)) = b := ⟨(hdL (grpL g l (a : Int))).toNat, by omega⟩
        have e8 : grpL g l (b : Int) = grpL g l (a : Int) := by
          rw [e1] at hm hb' ⊢
          rw [hb'] at hm
          exact grp_blk hg hn h hm
        refine ⟨grpL g l (a : Int), mem_hdsL.2 ⟨b, by omega, ?_, e8⟩, e2⟩
        unfold isHd
        rw [e8, hb']
        exact beq_self_eq_true _
    rw [hdsL_succ, List.flatten_append, ← ih]
    rw [tidF_succ]
    by_cases hc : (tidF g l a).contains (a : Int) = true
    · rw [if_pos hc, key.1 hc, if_neg (by simp)]
      simp
    · have : isHd g l a = true := by
        cases e : isHd g l a with
        | true => rfl
        | false => exact absurd (key.2 e) hc
      rw [if_neg hc, if_pos this]
      simp
theorem hds_sorted (g : Nat) (l : List Int) : ∀ n, (hdsL g l n).Pairwise fun x y => hdL x < hdL y
  | 0 => by simp [hdsL]
  | n + 1 => by
    rw [hdsL_succ, List.pairwise_append]
    refine ⟨hds_sorted g l n, ?_, ?_⟩
    · split <;> simp
    · intro x hx y hy
      split at hy
      · rename_i hh
        rw [List.mem_singleton] at hy
        subst hy
        obtain ⟨b, hbn, hb, rfl⟩ := mem_hdsL.1 hx
        unfold isHd at hb hh
        have h1 := beq_iff_eq.1 hb
        have h2 := beq_iff_eq.1 hh
        rw [h1, h2]
        omega
      · simp at hy
def blksL (g c : Nat) (l : List Int) : List (List Int) := (List.range c).map (blkL g l)
theorem blks_hd {n g c : Nat} (hg : 0 < g) (hn : n = g * c) {l : List Int} (h : ordB n l = true) {t u : Nat} (ht : t < c) (hu : u < c) (e : hdL (blkL g l t) = hdL (blkL g l u)) : t = u := by
  have h1 := (hd_blk hg hn h ht).1
  have h2 := (hd_blk hg hn h hu).1
  rw [← e] at h2
  exact blk_same hg hn h h1 h2
theorem blks_nodup {n g c : Nat} (hg : 0 < g) (hn : n = g * c) {l : List Int} (h : ordB n l = true) : (blksL g c l).Pairwise fun x y => hdL x ≠ hdL y := by
  unfold blksL
  rw [List.pairwise_map]
  refine List.Pairwise.imp_of_mem ?_ (List.nodup_range (n := c))
  intro a b ha hb hab e
  exact hab (blks_hd hg hn h (by simpa using ha) (by simpa using hb) e)
theorem tid_sorted {n g c : Nat} (hg : 0 < g) (hn : n = g * c) {l : List Int} (h : ordB n l = true) {G : List (List Int)} (hp : G.Perm (blksL g c l)) (hs : G.Pairwise fun x y => hdL x ≤ hdL y) : G.flatten = tidF g l n := by
  rw [tidF_hds hg hn h n (Nat.le_refl _)]
  congr 1
  have hnd : G.Pairwise fun x y => hdL x ≠ hdL y := (hp.pairwise_iff (fun h => Ne.symm h)).2 (blks_nodup hg hn h)
  have hst : G.Pairwise fun x y => hdL x < hdL y := (hs.and hnd).imp fun h => by omega
  refine key_unique hdL (hp.trans ?_) hst (hds_sorted g l n)
  rw [List.perm_ext_iff_of_nodup]
  · intro r
    rw [mem_hdsL]
    unfold blksL
    rw [List.mem_map]
    constructor
    · rintro ⟨t, ht, rfl⟩
      have ht := List.mem_range.1 ht
      have hb := hd_blk hg hn h ht
      obtain ⟨i, hi, _, e7⟩ := (blk_mem hg hn h).1 hb.1
      have h7 := ((ordB_iff n l).1 h).2.1 _ (getD_memI (l := l) (i := i) (by rw [((ordB_iff n l).1 h).1]; exact hi))
      rw [e7] at h7
      obtain ⟨b, hb'⟩ : ∃ b : Nat, hdL (blkL g l t) = b := ⟨(hdL (blkL g l t)).toNat, by omega⟩
      have e8 : grpL g l (b : Int) = blkL g l t := by
        refine grp_blk hg hn h ?_
        rw [← hb']; exact hb.1
      refine ⟨b, by omega, ?_, e8⟩
      unfold isHd
      rw [e8, hb']
      exact beq_self_eq_true _
    · rintro ⟨a, ha, _, rfl⟩
      obtain ⟨t, ht, e1, _⟩ := grp_own hg hn h (a := (a : Int)) (by omega)
      exact ⟨t, List.mem_range.2 ht, e1.symm⟩
  · exact (blks_nodup hg hn h).imp fun h e => h (by rw [e])
  · exact (hds_sorted g l n).imp fun h e => by rw [e] at h; omega
theorem blks_len {n g c : Nat} (hn : n = g * c) {l : List Int} (h : ordB n l = true) : ∀ d, d ≤ c → ((List.range d).map (blkL g l)).flatten.length = d * g
  | 0, _ => by simp
  | d + 1, hd => by
    rw [List.range_succ, List.map_append, List.flatten_append, List.length_append, blks_len hn h d (by omega), Nat.succ_mul]
    have := blk_len hn h (show d < c by omega)
    simpa using this
theorem tid_len {n g c : Nat} (hg : 0 < g) (hn : n = g * c) {l : List Int} (h : ordB n l = true) : (tidF g l n).length = n := by
  have hp : (hdsL g l n).Perm (blksL g c l) := by
    rw [List.perm_ext_iff_of_nodup]
    · intro r
      rw [mem_hdsL]
      unfold blksL
      rw [List.mem_map]
      constructor
      · rintro ⟨a, ha, _, rfl⟩
        obtain ⟨t, ht, e1, _⟩ := grp_own hg hn h (a := (a : Int)) (by omega)
        exact ⟨t, List.mem_range.2 ht, e1.symm⟩
      · rintro ⟨t, ht, rfl⟩
        have ht := List.mem_range.1 ht
        have hb := hd_blk hg hn h ht
        obtain ⟨i, hi, _, e7⟩ := (blk_mem hg hn h).1 hb.1
        have h7 := ((ordB_iff n l).1 h).2.1 _ (getD_memI (l := l) (i := i) (by rw [((ordB_iff n l).1 h).1]; exact hi))
        rw [e7] at h7
        obtain ⟨b, hb'⟩ : ∃ b : Nat, hdL (blkL g l t) = b := ⟨(hdL (blkL g l t)).toNat, by omega⟩
        have e8 : grpL g l (b : Int) = blkL g l t := by
          refine grp_blk hg hn h ?_
          rw [← hb']; exact hb.1
        refine ⟨b, by omega, ?_, e8⟩
        unfold isHd
        rw [e8, hb']
        exact beq_self_eq_true _
    · exact (hds_sorted g l n).imp fun h e => by rw [e] at h; omega
    · exact (blks_nodup hg hn h).imp fun h e => h (by rw [e])
  rw [tidF_hds hg hn h n (Nat.le_refl _), hp.flatten.length_eq]
  have := blks_len hn h c (Nat.le_refl _)
  unfold blksL
  rw [this, hn, Nat.mul_comm]
def tidV (q g : Int) (R : List (List Int)) (i : Int) : List Int := if golfB q g R = true ∧ (0 ≤ i ∧ i ≤ (R.length : Int) - 1) then tidF g.toNat (R.getD i.toNat []) q.toNat else []
end Go.Abs
end

section
set_option maxRecDepth 100000
set_option maxHeartbeats 2000000
namespace Go.Proofs.YtollphjompimjaaGreat.A
open Go Go.Abs Go.RowKit
end Go.Proofs.YtollphjompimjaaGreat.A
end

section
set_option maxRecDepth 100000
namespace Go.Proofs.YtollphjompimjaaGreat.A
open Go Go.Abs Go.RowKit
end Go.Proofs.YtollphjompimjaaGreat.A
end

section
set_option maxRecDepth 100000
namespace Go.Proofs.YtollphjompimjaaGreat.A
open Go Go.Abs Go.RowKit
end Go.Proofs.YtollphjompimjaaGreat.A
end

section
set_option maxRecDepth 100000
namespace Go.Proofs.YtollphjompimjaaGreat.A
open Go Go.Abs Go.RowKit
end Go.Proofs.YtollphjompimjaaGreat.A
end

section
set_option maxRecDepth 100000
namespace Go.Proofs.YtollphjompimjaaGreat.A
open Go Go.Abs Go.RowKit
end Go.Proofs.YtollphjompimjaaGreat.A
end

section
set_option maxRecDepth 100000
set_option maxHeartbeats 2000000
namespace Go.Proofs.YtollphjompimjaaGreat.A
open Go Go.Abs Go.RowKit
end Go.Proofs.YtollphjompimjaaGreat.A
end

section
set_option maxRecDepth 100000
set_option maxHeartbeats 2000000
namespace Go.Proofs.YtollphjompimjaaGreat.A
open Go Go.Abs Go.RowKit
end Go.Proofs.YtollphjompimjaaGreat.A
end

section
set_option maxRecDepth 100000
set_option maxHeartbeats 2000000
namespace Go.Proofs.YtollphjompimjaaGreat.A
open Go Go.Abs Go.RowKit
end Go.Proofs.YtollphjompimjaaGreat.A
end

section
namespace Go.Abs
open Go Go.RowKit
def headIs (cs : List Nat) (i : Nat) : Bool := match cs with | c :: _ => i == c | [] => false
def okPool (ops : Array Oper) (post : OT) : Nat → List Nat → List Nat → Array Bool → Bool
  | 0, cs, fs, listed => cs.isEmpty && fs.isEmpty && okOT ops post listed
  | n + 1, cs, fs, listed =>
    if cs.isEmpty && fs.isEmpty then okOT ops post listed else
    !(Region.ready .any ops listed).isEmpty && (Region.ready .any ops listed).all (fun i => headIs cs i || fs.contains i) &&
    (match cs with | c :: cs' => (!(Region.ready .any ops listed).contains c) || okPool ops post n cs' fs (listed.setIfInBounds c true) | [] => true) &&
    fs.all fun a => (!(Region.ready .any ops listed).contains a) || okPool ops post n cs (fs.erase a) (listed.setIfInBounds a true)
def okPre (ops : Array Oper) (post : OT) (cs fs : List Nat) : List Nat → Array Bool → Bool
  | [], listed => okPool ops post (cs.length + fs.length) cs fs listed
  | i :: is, listed =>
    (match ops[i]? with
     | some o => if quietOp o.op = true then (Region.ready .any ops listed).contains i && Region.free .any ops listed i else Region.ready .any ops listed == [i]
     | none => false) && okPre ops post cs fs is (listed.setIfInBounds i true)
structure PoolJ (P : Program) (ops : Array Oper) (Q : T → AH → Prop) (post : OT) (J : List Nat → List Nat → T → AH → Prop) : Prop where
  call : ∀ c cs fs t H, J (c :: cs) fs t H → stepI P ops (J cs fs) c (ops.toList[c]?) t H
  free : ∀ a cs fs t H, a ∈ fs → J cs fs t H → stepI P ops (J cs (fs.erase a)) a (ops.toList[a]?) t H
  done : ∀ t H, J [] [] t H → awpT P ops Q post t H
theorem AAny_pool {P : Program} {ops : Array Oper} {Q : T → AH → Prop} {post : OT} {J : List Nat → List Nat → T → AH → Prop} (hJ : PoolJ P ops Q post J) : ∀ (n : Nat) (cs fs : List Nat) (listed : Array Bool) (t : T) (H : AH) (f : Nat), n + post.depth ≤ f → Closed ops listed → okPool ops post n cs fs listed = true → J cs fs t H → AAny P ops Q f listed t H
  | 0, cs, fs, listed, t, H, f, hf, hc, hok, h => by
    simp only [okPool, Bool.and_eq_true, List.isEmpty_iff] at hok
    obtain ⟨⟨rfl, rfl⟩, h3⟩ := hok
    exact AAny_tree post listed t H f (by omega) hc h3 (hJ.done t H h)
  | n + 1, cs, fs, listed, t, H, 0, hf, hc, hok, h => by omega
  | n + 1, cs, fs, listed, t, H, f + 1, hf, hc, hok, h => by
    unfold okPool at hok
    split at hok
    · rename_i he
      simp only [Bool.and_eq_true, List.isEmpty_iff] at he
      obtain ⟨rfl, rfl⟩ := he
      exact AAny_tree post listed t H (f + 1) (by omega) hc hok (hJ.done t H h)
    · simp only [Bool.and_eq_true] at hok
      obtain ⟨⟨⟨h1, h2⟩, h3⟩, h4⟩ := hok
      refine ⟨fun h0 => (by rw [h0] at h1; simp at h1), fun i hi => ?_⟩
      have hci : (Region.ready .any ops listed).contains i = true := by simpa using hi
      have h5 := List.all_eq_true.1 h2 i hi
      rw [Bool.or_eq_true] at h5
      rcases h5 with h5 | h5
      · cases cs with
        | nil => simp [headIs] at h5
        | cons c cs' =>
          have e : i = c := by simpa [headIs] using h5
          subst e
          simp only [hci, Bool.not_true, Bool.false_or] at h3
          exact aStep_mono (stepI_s (hJ.call i cs' fs t H h)) fun t' H' hk => ⟨hk.1, AAny_pool hJ n cs' fs _ t' H' f (by omega) (hc.set hi) h3 hk.2⟩
      · have hm : i ∈ fs := List.contains_iff_mem.1 h5
        have h6 := List.all_eq_true.1 h4 i hm
        simp only [hci, Bool.not_true, Bool.false_or] at h6
        exact aStep_mono (stepI_s (hJ.free i cs fs t H hm h)) fun t' H' hk => ⟨hk.1, AAny_pool hJ n cs (fs.erase i) _ t' H' f (by omega) (hc.set hi) h6 hk.2⟩
theorem AAny_pre {P : Program} {ops : Array Oper} {Q : T → AH → Prop} {post : OT} {J : List Nat → List Nat → T → AH → Prop} (hJ : PoolJ P ops Q post J) (cs fs : List Nat) : ∀ (is : List Nat) (listed : Array Bool) (t : T) (H : AH) (f : Nat), is.length + (cs.length + fs.length + post.depth) ≤ f → Closed ops listed → okPre ops post cs fs is listed = true → awpI P ops (J cs fs) is t H → AAny P ops Q f listed t H
  | [], listed, t, H, f, hf, hc, hok, h => AAny_pool hJ _ cs fs listed t H f (by simpa using hf) hc hok h
  | i :: is, listed, t, H, 0, hf, hc, hok, h => by simp at hf
  | i :: is, listed, t, H, f + 1, hf, hc, hok, h => by
    simp only [okPre, Bool.and_eq_true] at hok
    simp only [List.length_cons] at hf
    obtain ⟨h1, h2⟩ := hok
    unfold awpI at h
    cases ho : ops[i]? with
    | none => simp [ho] at h1
    | some o =>
      simp only [ho] at h1
      split at h1
      · rename_i hq
        simp only [Bool.and_eq_true] at h1
        obtain ⟨hr, hfr⟩ := h1
        have hr' : i ∈ Region.ready .any ops listed := by simpa using hr
        obtain ⟨v, hy, hk⟩ := aStep_quiet ho hq (stepI_s h)
        exact AAny_first ho hq f listed t H hc (Region.free_spec ho hfr) hr' hy (AAny_pre hJ cs fs is _ _ H f (by omega) (hc.set hr') h2 hk.2)
      · have hr : Region.ready .any ops listed = [i] := by simpa using h1
        refine ⟨fun h0 => (by rw [hr] at h0; cases h0), fun j hj => ?_⟩
        have hji : j = i := by rw [hr] at hj; simpa using hj
        subst hji
        exact aStep_mono (stepI_s h) fun t' H' hk => ⟨hk.1, AAny_pre hJ cs fs is _ t' H' f (by omega) (hc.set hj) h2 hk.2⟩
theorem draw_pool {P : Program} {id : Nat} {ops : Array Oper} {Q : Exit → T → AH → Prop} {t : T} {H : AH} (is cs fs : List Nat) (post : OT) (hm : P.follows .mixedOrders = true) (hok : okPre ops post cs fs is (Array.replicate ops.size false) = true) (hl : is.length + (cs.length + fs.length + post.depth) ≤ ops.size)
    (J : List Nat → List Nat → T → AH → Prop) (hJ : PoolJ P ops (Q .normal) post J) (h : awpI P ops (J cs fs) is t H) : awp P (.region id ops true) Q t H := by
  intro base ρ w tmps QC hS hd hQ
  have hA := AAny_pre hJ cs fs is _ t H ops.size hl ⟨by simp, fun j oj hj hl => by rw [getD_replicate_false'] at hl; cases hl⟩ hok h
  refine wp_region_any hm (AAny_ok ops.size _ t H ρ w.drew tmps hA ⟨hS.1.drew, hS.2.ext (ext_drew (base := base) (H := H) w)⟩ ?_ fun t' H' ρ' w' tmps' hq hs he hz => ?_)
  · intro o ho i hi
    have := List.all_eq_true.1 hd o ho
    simp only [hi, decide_eq_true_eq] at this
    exact this
  · exact hQ .normal t' H' ρ' w' tmps' hq hs ((ext_drew (base := base) (H := H) (ρ := ρ) w).trans he) hz
theorem ACalls.scf {P : Program} {f : FuncId} {args : List Value} {H : AH} {v0 : Value} {X : AH → Prop} (h : ACalls P f args H (fun v H' => v = v0 ∧ X H')) : ACalls P f args H (fun v H' => v = v0 ∧ X H' ∧ Sc H') :=
  h.sc.mono fun _ _ h => ⟨h.1.1, h.1.2, h.2⟩
end Go.Abs
end

section
set_option maxRecDepth 100000
set_option maxHeartbeats 2000000
namespace Go.Proofs.YtollphjompimjaaGreat.A
open Go Go.Abs Go.RowKit
theorem isNaN_c (x : Int) (H : AH) : ACalls Tryz.prog 94 [.int .i64 x] H (is (.bool false) H) := by
  refine acalls_of_awp [.tmp 2] Tryz.func94 (by kernel_rfl) rfl rfl (Nat.le_of_ble_eq_true rfl) (by kernel_rfl) ?_
  try simp (disch := first | omega | (simp only [L3] <;> omega)) only [Sall,evalOp,init,binA_s,binE,binI,unE,convE,okNil,builtE,gv,TD.isAgg,resV,↓reduceIte,Nat.reduceEqDiff,reduceCtorEq,Nat.reduceAdd,Nat.reduceMul,Nat.reduceLeDiff,quietOp,blindOp,Int.reduceEq,Int.reduceLT,Int.reduceLE,Nat.reduceLT,tiA, bne_self_eq_false, is]
theorem compare_c (x y : Int) (H : AH) : ACalls Tryz.prog 81 [.int .i64 x, .int .i64 y] H (is (.int .i64 (cmpI x y)) H) := by
  refine acalls_of_awp [.tmp 4] Tryz.func81 (by kernel_rfl) rfl rfl (Nat.le_of_ble_eq_true rfl) (by kernel_rfl) ?_
  try simp (disch := first | omega | (simp only [L3] <;> omega)) only [Sall,evalOp,init,binA_s,binE,binI,unE,convE,okNil,builtE,gv,TD.isAgg,resV,↓reduceIte,Nat.reduceEqDiff,reduceCtorEq,Nat.reduceAdd,Nat.reduceMul,Nat.reduceLeDiff,quietOp,blindOp,Int.reduceEq,Int.reduceLT,Int.reduceLE,Nat.reduceLT,tiA, true_and]
  refine (isNaN_c x H).to ?_
  try simp (disch := first | omega | (simp only [L3] <;> omega)) only [Sall,evalOp,init,binA_s,binE,binI,unE,convE,okNil,builtE,gv,TD.isAgg,resV,↓reduceIte,Nat.reduceEqDiff,reduceCtorEq,Nat.reduceAdd,Nat.reduceMul,Nat.reduceLeDiff,quietOp,blindOp,Int.reduceEq,Int.reduceLT,Int.reduceLE,Nat.reduceLT,tiA, true_and]
  refine (isNaN_c y H).to ?_
  try simp (disch := first | omega | (simp only [L3] <;> omega)) only [Sall,evalOp,init,binA_s,binE,binI,unE,convE,okNil,builtE,gv,TD.isAgg,resV,↓reduceIte,Nat.reduceEqDiff,reduceCtorEq,Nat.reduceAdd,Nat.reduceMul,Nat.reduceLeDiff,quietOp,blindOp,Int.reduceEq,Int.reduceLT,Int.reduceLE,Nat.reduceLT,tiA, true_and]
  unfold cmpI
  by_cases h1 : x < y
  · rw [if_pos h1]
    try simp (disch := first | omega | (simp only [L3] <;> omega)) only [Sall,evalOp,init,binA_s,binE,binI,unE,convE,okNil,builtE,gv,TD.isAgg,resV,↓reduceIte,Nat.reduceEqDiff,reduceCtorEq,Nat.reduceAdd,Nat.reduceMul,Nat.reduceLeDiff,quietOp,blindOp,Int.reduceEq,Int.reduceLT,Int.reduceLE,Nat.reduceLT,tiA, h1, decide_true, is]
  · rw [if_neg h1]
    by_cases h2 : y < x
    · rw [if_pos h2]
      try simp (disch := first | omega | (simp only [L3] <;> omega)) only [Sall,evalOp,init,binA_s,binE,binI,unE,convE,okNil,builtE,gv,TD.isAgg,resV,↓reduceIte,Nat.reduceEqDiff,reduceCtorEq,Nat.reduceAdd,Nat.reduceMul,Nat.reduceLeDiff,quietOp,blindOp,Int.reduceEq,Int.reduceLT,Int.reduceLE,Nat.reduceLT,tiA, h1, h2, decide_true, decide_false, is]
    · rw [if_neg h2]
      try simp (disch := first | omega | (simp only [L3] <;> omega)) only [Sall,evalOp,init,binA_s,binE,binI,unE,convE,okNil,builtE,gv,TD.isAgg,resV,↓reduceIte,Nat.reduceEqDiff,reduceCtorEq,Nat.reduceAdd,Nat.reduceMul,Nat.reduceLeDiff,quietOp,blindOp,Int.reduceEq,Int.reduceLT,Int.reduceLE,Nat.reduceLT,tiA, h1, h2, decide_false, is]
def Srt (di : Nat) (H0 H : AH) : Prop := H0.next ≤ H.next ∧ (∀ i, i < H0.next → ¬ i = di → H.row i = H0.row i) ∧ Sc H
end Go.Proofs.YtollphjompimjaaGreat.A
end

section
set_option maxRecDepth 100000
set_option maxHeartbeats 2000000
namespace Go.Proofs.YtollphjompimjaaGreat.A
open Go Go.Abs Go.RowKit
theorem bitsLen64_c (x : Nat) (hx : x < 256) (H : AH) : ACalls Tryz.prog 93 [.int .u64 x] H (fun r H' => ∃ k, r = .int .i64 k ∧ H' = H ∧ True) := by
  refine acalls_of_awp [.tmp 2] Tryz.func93 (by kernel_rfl) rfl rfl (Nat.le_of_ble_eq_true rfl) (by kernel_rfl) ?_
  have h1 : ¬ (4294967296 : Int) ≤ (x : Int) := by omega
  have h2 : ¬ (65536 : Int) ≤ (x : Int) := by omega
  have h3 : ¬ (256 : Int) ≤ (x : Int) := by omega
  try simp (disch := first | omega | (simp only [ints_length, List.length_replicate, List.length_set, List.length_map] <;> omega)) only [Sall,evalOp,init,binA_s,binE,binI,unE,convE,okNil,builtE,gv,TD.isAgg,resV,↓reduceIte,Nat.reduceEqDiff,reduceCtorEq,Nat.reduceAdd,Nat.reduceMul,Nat.reduceLeDiff,quietOp,blindOp,Int.reduceEq,Int.reduceLT,Int.reduceLE,Nat.reduceLT,tiA,tiXA, h1, h2, h3, decide_false]
  have hw : IntKind.u8.wrap (x : Int) = (x : Int) := by
    rw [show IntKind.u8.wrap (x : Int) = (x : Int) % 256 from rfl]
    omega
  have hsz : ∀ s : ByteArray, s.size = 256 → (0 ≤ IntKind.u8.wrap (x : Int) ∧ IntKind.u8.wrap (x : Int) < (s.size : Int)) := fun s hs => by rw [hw, hs]; omega
  exact ⟨hsz _ rfl, _, rfl⟩
theorem cmpLL_c (x y : Value) (a b : List Int) (H : AH) (hx : Rd 1 H x a.length a) (hy : Rd 1 H y b.length b) (ha : 0 < a.length) (hb : 0 < b.length) (hne : hdL a ≠ hdL b) :
    ACalls Tryz.prog 70 [x, y] H (is (.int .i64 (if hdL a < hdL b then -1 else 1)) H) := by
  refine acalls_of_awp [.tmp 4] Tryz.func70 (by kernel_rfl) rfl rfl (Nat.le_of_ble_eq_true rfl) (by kernel_rfl) ?_
  have lx := hx.len
  have ly := hy.len
  try simp (disch := first | omega | (simp only [ints_length, List.length_replicate, List.length_set, List.length_map] <;> omega)) only [Sall,evalOp,init,binA_s,binE,binI,unE,convE,okNil,builtE,gv,TD.isAgg,resV,↓reduceIte,Nat.reduceEqDiff,reduceCtorEq,Nat.reduceAdd,Nat.reduceMul,Nat.reduceLeDiff,quietOp,blindOp,Int.reduceEq,Int.reduceLT,Int.reduceLE,Nat.reduceLT,tiA,tiXA, lx, builtE]
  refine awp_loop (fun m t H' => t 11 = .int .i64 0 ∧ t 10 = .int .i64 a.length ∧ t 9 = x ∧ t 1 = y ∧ H' = H) 0 ?_ ?_
  · try simp (disch := first | omega | (simp only [ints_length, List.length_replicate, List.length_set, List.length_map] <;> omega)) only [Sall,evalOp,init,binA_s,binE,binI,unE,convE,okNil,builtE,gv,TD.isAgg,resV,↓reduceIte,Nat.reduceEqDiff,reduceCtorEq,Nat.reduceAdd,Nat.reduceMul,Nat.reduceLeDiff,quietOp,blindOp,Int.reduceEq,Int.reduceLT,Int.reduceLE,Nat.reduceLT,tiA,tiXA, true_and]
  · rintro m t H' ⟨h11, h10, h9, h1, rfl⟩
    obtain ⟨xi, xo, xu, xc, xr, ex, x1, x2, x3, _⟩ := hx.get ha
    obtain ⟨yi, yo, yu, yc, yr, ey, y1, y2, y3, _⟩ := hy.get hb
    have x4 := x3 0 (by omega)
    have y4 := y3 0 (by omega)
    have c1 : (0 : Int) < (a.length : Int) := by omega
    have c2 : ¬ (b.length : Int) ≤ (0 : Int) := by omega
    have t0 : Int.toNat 0 = 0 := rfl
    rw [Nat.add_zero] at x4 y4
    have e : (0 : Int) < (b.length : Int) := by omega
    try simp (disch := first | omega | (simp only [ints_length, List.length_replicate, List.length_set, List.length_map] <;> omega)) only [Sall,evalOp,init,binA_s,binE,binI,unE,convE,okNil,builtE,gv,TD.isAgg,resV,↓reduceIte,Nat.reduceEqDiff,reduceCtorEq,Nat.reduceAdd,Nat.reduceMul,Nat.reduceLeDiff,quietOp,blindOp,Int.reduceEq,Int.reduceLT,Int.reduceLE,Nat.reduceLT,tiA,tiXA, h11, h10, h9, h1, c1, c2, decide_true, decide_false, ex, x1, x4, ey, y1, y4, t0, Nat.add_zero, ly, builtE]
    refine ⟨by omega, ?_⟩
    have hab : cmpI (a.getD 0 0) (b.getD 0 0) = if hdL a < hdL b then -1 else 1 := by
      unfold cmpI hdL at *
      split
      · rfl
      · rw [if_pos (by omega)]
    have hnz : ((if hdL a < hdL b then (-1 : Int) else 1) != 0) = true := by split <;> rfl
    refine (compare_c _ _ H').to ?_
    rw [hab]
    refine Holds.mp ?_
    try simp (disch := first | omega | (simp only [ints_length, List.length_replicate, List.length_set, List.length_map] <;> omega)) only [Sall,evalOp,init,binA_s,binE,binI,unE,convE,okNil,builtE,gv,TD.isAgg,resV,↓reduceIte,Nat.reduceEqDiff,reduceCtorEq,Nat.reduceAdd,Nat.reduceMul,Nat.reduceLeDiff,quietOp,blindOp,Int.reduceEq,Int.reduceLT,Int.reduceLE,Nat.reduceLT,tiA,tiXA, hnz]
    exact ⟨rfl, rfl⟩
theorem bitsLen_c (x : Nat) (hx : x < 256) (H : AH) : ACalls Tryz.prog 80 [.int .u64 x] H (fun r H' => ∃ k, r = .int .i64 k ∧ H' = H ∧ True) := by
  refine acalls_of_awp [.tmp 2] Tryz.func80 (by kernel_rfl) rfl rfl (Nat.le_of_ble_eq_true rfl) (by kernel_rfl) ?_
  try simp (disch := first | omega | (simp only [ints_length, List.length_replicate, List.length_set, List.length_map] <;> omega)) only [Sall,evalOp,init,binA_s,binE,binI,unE,convE,okNil,builtE,gv,TD.isAgg,resV,↓reduceIte,Nat.reduceEqDiff,reduceCtorEq,Nat.reduceAdd,Nat.reduceMul,Nat.reduceLeDiff,quietOp,blindOp,Int.reduceEq,Int.reduceLT,Int.reduceLE,Nat.reduceLT,tiA,tiXA, true_and]
  refine ACalls.exH (g := fun k => .int .i64 k) (bitsLen64_c x hx H) ?_
  intro k _
  refine Holds.mp ?_
  try simp (disch := first | omega | (simp only [ints_length, List.length_replicate, List.length_set, List.length_map] <;> omega)) only [Sall,evalOp,init,binA_s,binE,binI,unE,convE,okNil,builtE,gv,TD.isAgg,resV,↓reduceIte,Nat.reduceEqDiff,reduceCtorEq,Nat.reduceAdd,Nat.reduceMul,Nat.reduceLeDiff,quietOp,blindOp,Int.reduceEq,Int.reduceLT,Int.reduceLE,Nat.reduceLT,tiA,tiXA, true_and]
  exact ⟨_, rfl⟩
theorem insLL_c (m : Nat) (hm : m ≤ 20) (ps0 : List (Value × List Int)) (hl0 : ps0.length = m) (hk : ps0.Pairwise fun p q => hdL p.2 ≠ hdL q.2) (hne : ∀ p ∈ ps0, 0 < p.2.length) (ui uc : Nat) (H0 : AH) (hui : ui < H0.next) (hst : ∀ H1, Srt ui H0 H1 → RowsP ps0 H1) (hrow : H0.row ui = some ⟨28, true, ps0.map Prod.fst⟩) :
    ACalls Tryz.prog 84 [.slice (some ⟨ui, 0, some 1⟩) m uc, .int .i64 0, .int .i64 m, .func (.func 70) #[] #[]] H0
      (fun _ H' => ∃ ps : List (Value × List Int), ps.Perm ps0 ∧ (ps.Pairwise fun p q => hdL p.2 ≤ hdL q.2) ∧ Srt ui H0 H' ∧ H'.row ui = some ⟨28, true, ps.map Prod.fst⟩) := by
  refine ACalls.wf (by kernel_rfl) fun hs => acalls_of_awp [] Tryz.func84 (by kernel_rfl) rfl rfl (Nat.le_of_ble_eq_true rfl) (by kernel_rfl) ?_
  have key : ∀ {z : List (Value × List Int)}, z.Perm ps0 → z.Pairwise fun p q => hdL p.2 ≠ hdL q.2 := fun hp => (hp.pairwise_iff (fun h => Ne.symm h)).2 hk
  try simp (disch := first | omega | (simp only [ints_length, List.length_replicate, List.length_set, List.length_map] <;> omega)) only [Sall,evalOp,init,binA_s,binE,binI,unE,convE,okNil,builtE,gv,TD.isAgg,resV,↓reduceIte,Nat.reduceEqDiff,reduceCtorEq,Nat.reduceAdd,Nat.reduceMul,Nat.reduceLeDiff,quietOp,blindOp,Int.reduceEq,Int.reduceLT,Int.reduceLE,Nat.reduceLT,tiA,tiXA, w64]
  refine awp_loop (fun y t H' => ∃ (i : Nat) (z : List (Value × List Int)), y = m + 1 - i ∧ 1 ≤ i ∧ i ≤ m + 1 ∧ t 8 = .int .i64 i ∧ t 0 = .slice (some ⟨ui, 0, some 1⟩) m uc ∧ t 1 = .int .i64 0 ∧ t 2 = .int .i64 m ∧ t 3 = .func (.func 70) #[] #[] ∧ z.Perm ps0 ∧ ((z.take i).Pairwise fun p q => hdL p.2 ≤ hdL q.2) ∧ Srt ui H0 H' ∧ H'.row ui = some ⟨28, true, z.map Prod.fst⟩) m ?_ ?_
  · refine ⟨1, ps0, by omega, by omega, by omega, ?_⟩
    try simp (disch := first | omega | (simp only [ints_length, List.length_replicate, List.length_set, List.length_map] <;> omega)) only [Sall,evalOp,init,binA_s,binE,binI,unE,convE,okNil,builtE,gv,TD.isAgg,resV,↓reduceIte,Nat.reduceEqDiff,reduceCtorEq,Nat.reduceAdd,Nat.reduceMul,Nat.reduceLeDiff,quietOp,blindOp,Int.reduceEq,Int.reduceLT,Int.reduceLE,Nat.reduceLT,tiA,tiXA, true_and]
    refine ⟨rfl, List.Perm.refl _, ?_, ⟨Nat.le_refl _, fun _ _ _ => rfl, hs⟩, hrow⟩
    cases ps0 with
    | nil => simp
    | cons a y => simp
  · rintro y t H2 ⟨i, z, hy, h1i, hi, h8, h0, h1, h2, h3, hp, hsr, hS, hd⟩
    have hzl := hp.length_eq
    try simp (disch := first | omega | (simp only [ints_length, List.length_replicate, List.length_set, List.length_map] <;> omega)) only [Sall,evalOp,init,binA_s,binE,binI,unE,convE,okNil,builtE,gv,TD.isAgg,resV,↓reduceIte,Nat.reduceEqDiff,reduceCtorEq,Nat.reduceAdd,Nat.reduceMul,Nat.reduceLeDiff,quietOp,blindOp,Int.reduceEq,Int.reduceLT,Int.reduceLE,Nat.reduceLT,tiA,tiXA, h8, h2]
    refine condC_dec (fun hh => ?_) (fun hh => ?_)
    · have hil : i < m := by omega
      have I0 := Ins.start (key := fun p : Value × List Int => hdL p.2) hsr (show i < z.length by omega)
      try simp (disch := first | omega | (simp only [ints_length, List.length_replicate, List.length_set, List.length_map] <;> omega)) only [Sall,evalOp,init,binA_s,binE,binI,unE,convE,okNil,builtE,gv,TD.isAgg,resV,↓reduceIte,Nat.reduceEqDiff,reduceCtorEq,Nat.reduceAdd,Nat.reduceMul,Nat.reduceLeDiff,quietOp,blindOp,Int.reduceEq,Int.reduceLT,Int.reduceLE,Nat.reduceLT,tiA,tiXA, h8, h0, h1, h2, h3]
      refine awp_loop (fun y' t H' => ∃ (A : List (Value × List Int)) (x : Value × List Int) (B C : List (Value × List Int)) (z : List (Value × List Int)), y' = A.length ∧ A.length ≤ i ∧ t 9 = .int .i64 A.length ∧ t 8 = .int .i64 i ∧ t 0 = .slice (some ⟨ui, 0, some 1⟩) m uc ∧ t 1 = .int .i64 0 ∧ t 2 = .int .i64 m ∧ t 3 = .func (.func 70) #[] #[] ∧ z.Perm ps0 ∧ Ins (fun p : Value × List Int => hdL p.2) z i A x B C ∧ Srt ui H0 H' ∧ H'.row ui = some ⟨28, true, z.map Prod.fst⟩) i ?_ ?_
      · have hl1 : (z.take i).length = i := by rw [List.length_take]; omega
        refine ⟨z.take i, z[i], [], z.drop (i + 1), z, by omega, by omega, ?_⟩
        try simp (disch := first | omega | (simp only [ints_length, List.length_replicate, List.length_set, List.length_map] <;> omega)) only [Sall,evalOp,init,binA_s,binE,binI,unE,convE,okNil,builtE,gv,TD.isAgg,resV,↓reduceIte,Nat.reduceEqDiff,reduceCtorEq,Nat.reduceAdd,Nat.reduceMul,Nat.reduceLeDiff,quietOp,blindOp,Int.reduceEq,Int.reduceLT,Int.reduceLE,Nat.reduceLT,tiA,tiXA, h8, h0, h1, h2, h3, hl1]
        exact ⟨hp, I0, hS, hd⟩
      · rintro y' t H3 ⟨A, x, B, C, z, hy', hA, h9, h8, h0, h1, h2, h3, hp, I, hS, hd⟩
        have hzl := hp.length_eq
        have hall := I.len_all
        refine draw_id (by kernel_rfl) (by kernel_rfl) ?_
        by_cases c0 : A.length = 0
        · have e0 : A = [] := List.eq_nil_of_length_eq_zero c0
          subst e0
          have h00 : ¬ (0 : Int) < ((0 : Nat) : Int) := by omega
          have h9 : t 9 = .int .i64 ((0 : Nat) : Int) := h9
          try simp (disch := first | omega | (simp only [ints_length, List.length_replicate, List.length_set, List.length_map] <;> omega)) only [Sall,evalOp,init,binA_s,binE,binI,unE,convE,okNil,builtE,gv,TD.isAgg,resV,↓reduceIte,Nat.reduceEqDiff,reduceCtorEq,Nat.reduceAdd,Nat.reduceMul,Nat.reduceLeDiff,quietOp,blindOp,Int.reduceEq,Int.reduceLT,Int.reduceLE,Nat.reduceLT,tiA,tiXA, h9, h8, h0, h1, h2, h3, h00, decide_false, w64]
          exact ⟨m + 1 - (i + 1), by omega, i + 1, z, by omega, by omega, by omega, rfl, hp, I.exit0, hS, hd⟩
        · obtain ⟨A', zz, rfl⟩ := cons_end (show 0 < A.length by omega)
          have hl1 : (A' ++ [zz]).length = A'.length + 1 := by simp
          rw [hl1] at h9
          have k1 := I.at
          have k2 := I.at1
          rw [hl1] at k1
          have mx : x ∈ ps0 := hp.subset (List.mem_iff_getElem?.2 ⟨_, k1⟩)
          have mz : zz ∈ ps0 := hp.subset (List.mem_iff_getElem?.2 ⟨_, k2⟩)
          have k1' : (z.map Prod.fst)[A'.length + 1]? = some x.1 := by rw [List.getElem?_map, k1]; rfl
          have k2' : (z.map Prod.fst)[A'.length]? = some zz.1 := by rw [List.getElem?_map, k2]; rfl
          have pg : (0 : Int) < ((A'.length + 1 : Nat) : Int) := by omega
          have pm : ((A'.length + 1 : Nat) : Int) - 1 = (A'.length : Int) := by omega
          have hR := hst H3 hS
          have rx := hR x mx
          have rz := hR zz mz
          have o1 := fun r => ok_one (r := r) rx.rd.one
          have o2 := fun r => ok_one (r := r) rz.rd.one
          have q1 := rx.rd.one
          have q2 := rz.rd.one
          have hdne : hdL x.2 ≠ hdL zz.2 := by
            have hk2 := key hp
            rw [I.eq, List.append_assoc, List.pairwise_append] at hk2
            have h4 := hk2.2.1
            rw [List.singleton_append, List.pairwise_cons] at h4
            exact fun e => h4.1 x (by simp) e.symm
          try simp (disch := first | omega | (simp only [ints_length, List.length_replicate, List.length_set, List.length_map] <;> omega)) only [Sall,evalOp,init,binA_s,binE,binI,unE,convE,okNil,builtE,gv,TD.isAgg,resV,↓reduceIte,Nat.reduceEqDiff,reduceCtorEq,Nat.reduceAdd,Nat.reduceMul,Nat.reduceLeDiff,quietOp,blindOp,Int.reduceEq,Int.reduceLT,Int.reduceLE,Nat.reduceLT,tiA,tiXA, h9, h8, h0, h1, h2, h3, pg, pm, decide_true, hd, k1', k2', o1, o2, q1, q2, w64]
          refine ⟨⟨by omega, by omega⟩, ⟨by omega, by omega⟩, ?_⟩
          refine (cmpLL_c x.1 zz.1 x.2 zz.2 H3 rx.rd rz.rd (hne x mx) (hne zz mz) hdne).to ?_
          refine ⟨.inr (.inr (LE.refl _)), ?_⟩
          by_cases cmp : hdL x.2 < hdL zz.2
          · have e1 : (if hdL x.2 < hdL zz.2 then (-1 : Int) else 1) = -1 := if_pos cmp
            have e2 : decide ((-1 : Int) < 0) = true := rfl
            rw [e1]
            try simp (disch := first | omega | (simp only [ints_length, List.length_replicate, List.length_set, List.length_map] <;> omega)) only [Sall,evalOp,init,binA_s,binE,binI,unE,convE,okNil,builtE,gv,TD.isAgg,resV,↓reduceIte,Nat.reduceEqDiff,reduceCtorEq,Nat.reduceAdd,Nat.reduceMul,Nat.reduceLeDiff,quietOp,blindOp,Int.reduceEq,Int.reduceLT,Int.reduceLE,Nat.reduceLT,tiA,tiXA, h9, h8, h0, h1, h2, h3, pg, pm, e2, w64]
            refine draw_id (by kernel_rfl) (by kernel_rfl) ?_
            try simp (disch := first | omega | (simp only [ints_length, List.length_replicate, List.length_set, List.length_map] <;> omega)) only [Sall,evalOp,init,binA_s,binE,binI,unE,convE,okNil,builtE,gv,TD.isAgg,resV,↓reduceIte,Nat.reduceEqDiff,reduceCtorEq,Nat.reduceAdd,Nat.reduceMul,Nat.reduceLeDiff,quietOp,blindOp,Int.reduceEq,Int.reduceLT,Int.reduceLE,Nat.reduceLT,tiA,tiXA, h9, h8, h0, h1, h2, h3, pm, hd, k1', k2', o1, o2, q1, q2, w64]
            obtain ⟨I2, hp2⟩ := I.step (show hdL x.2 ≤ hdL zz.2 by omega)
            have es : ((z.map Prod.fst).set (A'.length + 1) zz.1).set A'.length x.1 = (A' ++ x :: (zz :: B ++ C)).map Prod.fst := by rw [← I.swap, List.map_set, List.map_set]
            rw [es]
            have hS2 : Srt ui H0 (((H3.setCells ui ((z.map Prod.fst).set (A'.length + 1) zz.1)).setCells ui ((A' ++ x :: (zz :: B ++ C)).map Prod.fst))) := ⟨hS.1, fun j hj hne => by rw [AH.setCells_row, if_neg hne, AH.setCells_row, if_neg hne, hS.2.1 j hj hne], (hS.2.2.set _ _).set _ _⟩
            refine ⟨⟨by omega, by omega⟩, ⟨by omega, by omega⟩, ⟨by omega, by omega⟩, by rw [List.length_map]; omega, .inr (.inl (by kernel_rfl)), ⟨by omega, by omega⟩, by rw [List.length_set, List.length_map]; omega, .inr (.inl (by kernel_rfl)), A'.length, by omega, A', x, zz :: B, C, _, rfl, by omega, rfl, hp2.trans hp, I2, hS2, rfl⟩
          · have e1 : (if hdL x.2 < hdL zz.2 then (-1 : Int) else 1) = 1 := if_neg cmp
            have e2 : decide ((1 : Int) < 0) = false := rfl
            rw [e1]
            try simp (disch := first | omega | (simp only [ints_length, List.length_replicate, List.length_set, List.length_map] <;> omega)) only [Sall,evalOp,init,binA_s,binE,binI,unE,convE,okNil,builtE,gv,TD.isAgg,resV,↓reduceIte,Nat.reduceEqDiff,reduceCtorEq,Nat.reduceAdd,Nat.reduceMul,Nat.reduceLeDiff,quietOp,blindOp,Int.reduceEq,Int.reduceLT,Int.reduceLE,Nat.reduceLT,tiA,tiXA, h9, h8, h0, h1, h2, h3, pg, pm, e2, decide_false, w64]
            exact ⟨m + 1 - (i + 1), by omega, i + 1, z, by omega, by omega, by omega, rfl, hp, I.exit1 (show hdL zz.2 ≤ hdL x.2 by omega), hS, hd⟩
    · have hall : z.take i = z := List.take_of_length_le (by omega)
      rw [hall] at hsr
      try simp (disch := first | omega | (simp only [ints_length, List.length_replicate, List.length_set, List.length_map] <;> omega)) only [Sall,evalOp,init,binA_s,binE,binI,unE,convE,okNil,builtE,gv,TD.isAgg,resV,↓reduceIte,Nat.reduceEqDiff,reduceCtorEq,Nat.reduceAdd,Nat.reduceMul,Nat.reduceLeDiff,quietOp,blindOp,Int.reduceEq,Int.reduceLT,Int.reduceLE,Nat.reduceLT,tiA,tiXA, true_and]
      exact ⟨z, hp, hsr, hS, hd⟩
def SortedBy (ui : Nat) (ps0 : List (Value × List Int)) (H0 H' : AH) : Prop := ∃ ps : List (Value × List Int), ps.Perm ps0 ∧ (ps.Pairwise fun p q => hdL p.2 ≤ hdL q.2) ∧ Srt ui H0 H' ∧ H'.row ui = some ⟨28, true, ps.map Prod.fst⟩
theorem pdqLL_c (m : Nat) (hm : m ≤ 12) (ps0 : List (Value × List Int)) (hl0 : ps0.length = m) (hk : ps0.Pairwise fun p q => hdL p.2 ≠ hdL q.2) (hne : ∀ p ∈ ps0, 0 < p.2.length) (ui uc : Nat) (k : Int) (H0 : AH) (hui : ui < H0.next) (hst : ∀ H1, Srt ui H0 H1 → RowsP ps0 H1) (hrow : H0.row ui = some ⟨28, true, ps0.map Prod.fst⟩) :
    ACalls Tryz.prog 79 [.slice (some ⟨ui, 0, some 1⟩) m uc, .int .i64 0, .int .i64 m, .int .i64 k, .func (.func 70) #[] #[]] H0 (fun _ H' => SortedBy ui ps0 H0 H') := by
  refine acalls_of_awp [] Tryz.func79 (by kernel_rfl) rfl rfl (Nat.le_of_ble_eq_true rfl) (by kernel_rfl) ?_
  have h12 : (m : Int) ≤ 12 := by omega
  try simp (disch := first | omega | (simp only [ints_length, List.length_replicate, List.length_set, List.length_map] <;> omega)) only [Sall,evalOp,init,binA_s,binE,binI,unE,convE,okNil,builtE,gv,TD.isAgg,resV,↓reduceIte,Nat.reduceEqDiff,reduceCtorEq,Nat.reduceAdd,Nat.reduceMul,Nat.reduceLeDiff,quietOp,blindOp,Int.reduceEq,Int.reduceLT,Int.reduceLE,Nat.reduceLT,tiA,tiXA, true_and]
  refine awp_loop (fun y t H' => t 0 = .slice (some ⟨ui, 0, some 1⟩) m uc ∧ t 1 = .int .i64 0 ∧ t 2 = .int .i64 m ∧ t 4 = .func (.func 70) #[] #[] ∧ H' = H0) 0 ?_ ?_
  · try simp (disch := first | omega | (simp only [ints_length, List.length_replicate, List.length_set, List.length_map] <;> omega)) only [Sall,evalOp,init,binA_s,binE,binI,unE,convE,okNil,builtE,gv,TD.isAgg,resV,↓reduceIte,Nat.reduceEqDiff,reduceCtorEq,Nat.reduceAdd,Nat.reduceMul,Nat.reduceLeDiff,quietOp,blindOp,Int.reduceEq,Int.reduceLT,Int.reduceLE,Nat.reduceLT,tiA,tiXA, true_and]
  · rintro y t H' ⟨h0, h1, h2, h4, rfl⟩
    try simp (disch := first | omega | (simp only [ints_length, List.length_replicate, List.length_set, List.length_map] <;> omega)) only [Sall,evalOp,init,binA_s,binE,binI,unE,convE,okNil,builtE,gv,TD.isAgg,resV,↓reduceIte,Nat.reduceEqDiff,reduceCtorEq,Nat.reduceAdd,Nat.reduceMul,Nat.reduceLeDiff,quietOp,blindOp,Int.reduceEq,Int.reduceLT,Int.reduceLE,Nat.reduceLT,tiA,tiXA, h0, h1, h2, h4, Int.sub_zero, h12, decide_true, w64]
    refine ACalls.mono (insLL_c m (by omega) ps0 hl0 hk hne ui uc H' hui hst hrow) ?_
    rintro v H2 hh
    refine Holds.mp ?_
    try simp (disch := first | omega | (simp only [ints_length, List.length_replicate, List.length_set, List.length_map] <;> omega)) only [Sall,evalOp,init,binA_s,binE,binI,unE,convE,okNil,builtE,gv,TD.isAgg,resV,↓reduceIte,Nat.reduceEqDiff,reduceCtorEq,Nat.reduceAdd,Nat.reduceMul,Nat.reduceLeDiff,quietOp,blindOp,Int.reduceEq,Int.reduceLT,Int.reduceLE,Nat.reduceLT,tiA,tiXA, true_and]
    exact hh
theorem sortLL_c (m : Nat) (hm : m ≤ 12) (ps0 : List (Value × List Int)) (hl0 : ps0.length = m) (hk : ps0.Pairwise fun p q => hdL p.2 ≠ hdL q.2) (hne : ∀ p ∈ ps0, 0 < p.2.length) (ui uc : Nat) (H0 : AH) (hui : ui < H0.next) (hst : ∀ H1, Srt ui H0 H1 → RowsP ps0 H1) (hrow : H0.row ui = some ⟨28, true, ps0.map Prod.fst⟩) :
    ACalls Tryz.prog 69 [.slice (some ⟨ui, 0, some 1⟩) m uc, .func (.func 70) #[] #[]] H0 (fun _ H' => SortedBy ui ps0 H0 H') := by
  refine acalls_of_awp [] Tryz.func69 (by kernel_rfl) rfl rfl (Nat.le_of_ble_eq_true rfl) (by kernel_rfl) ?_
  have hw : IntKind.u64.wrap (m : Int) = (m : Int) := by
    rw [show IntKind.u64.wrap (m : Int) = (m : Int) % 18446744073709551616 from rfl]
    omega
  try simp (disch := first | omega | (simp only [ints_length, List.length_replicate, List.length_set, List.length_map] <;> omega)) only [Sall,evalOp,init,binA_s,binE,binI,unE,convE,okNil,builtE,gv,TD.isAgg,resV,↓reduceIte,Nat.reduceEqDiff,reduceCtorEq,Nat.reduceAdd,Nat.reduceMul,Nat.reduceLeDiff,quietOp,blindOp,Int.reduceEq,Int.reduceLT,Int.reduceLE,Nat.reduceLT,tiA,tiXA, builtE, hw]
  refine ACalls.exH (g := fun k => .int .i64 k) (bitsLen_c m (by omega) H0) ?_
  intro k _
  refine Holds.mp ?_
  try simp (disch := first | omega | (simp only [ints_length, List.length_replicate, List.length_set, List.length_map] <;> omega)) only [Sall,evalOp,init,binA_s,binE,binI,unE,convE,okNil,builtE,gv,TD.isAgg,resV,↓reduceIte,Nat.reduceEqDiff,reduceCtorEq,Nat.reduceAdd,Nat.reduceMul,Nat.reduceLeDiff,quietOp,blindOp,Int.reduceEq,Int.reduceLT,Int.reduceLE,Nat.reduceLT,tiA,tiXA, true_and]
  refine ACalls.mono (pdqLL_c m hm ps0 hl0 hk hne ui uc k H0 hui hst hrow) ?_
  rintro v H2 hh
  refine Holds.mp ?_
  try simp (disch := first | omega | (simp only [ints_length, List.length_replicate, List.length_set, List.length_map] <;> omega)) only [Sall,evalOp,init,binA_s,binE,binI,unE,convE,okNil,builtE,gv,TD.isAgg,resV,↓reduceIte,Nat.reduceEqDiff,reduceCtorEq,Nat.reduceAdd,Nat.reduceMul,Nat.reduceLeDiff,quietOp,blindOp,Int.reduceEq,Int.reduceLT,Int.reduceLE,Nat.reduceLT,tiA,tiXA, true_and]
  exact hh
theorem growI_c (N : Nat) (hN : 0 < N ∧ N ≤ 1000) (H : AH) : ACalls Tryz.prog 71 [.slice none 0 0, .int .i64 N] H (fun w H' => ∃ i, w = .slice (some ⟨i, 0, some 1⟩) 0 0 ∧ Ow H H' [.sl 1 2 (.slice (some ⟨i, 0, some 1⟩) N N) N (ints (List.replicate N 0))]) := by
  refine ACalls.wf (by kernel_rfl) fun hs => acalls_of_awp [.tmp 4] Tryz.func71 (by kernel_rfl) rfl rfl (Nat.le_of_ble_eq_true rfl) (by kernel_rfl) ?_
  have h1 : ¬ (N : Int) < 0 := by omega
  have h2 : (0 : Int) < (N : Int) := by omega
  have zn : zeros N [.int .i64 0] = ints (List.replicate N 0) := by simp [zeros, ints]
  try simp (disch := first | omega | (simp only [ints_length, List.length_replicate, List.length_set, List.length_map] <;> omega)) only [Sall,evalOp,init,binA_s,binE,binI,unE,convE,okNil,builtE,gv,TD.isAgg,resV,↓reduceIte,Nat.reduceEqDiff,reduceCtorEq,Nat.reduceAdd,Nat.reduceMul,Nat.reduceLeDiff,quietOp,blindOp,Int.reduceEq,Int.reduceLT,Int.reduceLE,Nat.reduceLT,tiA,tiXA, builtE, h1, h2, decide_false, decide_true, Int.sub_zero, Int.sub_self, w64]
  have s0 : ∀ (E : TI) (H : AH), sliceE E (.slice none 0 0) none (some 0) none H = .need ((0 : Int) = 0 ∧ (0 : Int) = 0 ∧ (0 : Int) = 0) (.val (.slice none 0 0) H) := fun _ _ => rfl
  have s1 : ∀ (E : TI) (i N : Nat) (H : AH), sliceE E (.slice (some ⟨i, 0, some 1⟩) N N) none (some 0) none H = .need ((0 : Int) ≤ 0 ∧ (0 : Int) ≤ 0 ∧ (0 : Int) ≤ (N : Int) ∧ 1 = E.size) (.val (.slice (some ⟨i, 0 + (0 : Int).toNat * E.size, some 1⟩) ((0 : Int).toNat - (0 : Int).toNat) ((0 : Int).toNat - (0 : Int).toNat)) H) := fun _ _ _ _ => rfl
  try simp (disch := first | omega | (simp only [ints_length, List.length_replicate, List.length_set, List.length_map] <;> omega)) only [Sall,evalOp,init,binA_s,binE,binI,unE,convE,okNil,builtE,gv,TD.isAgg,resV,↓reduceIte,Nat.reduceEqDiff,reduceCtorEq,Nat.reduceAdd,Nat.reduceMul,Nat.reduceLeDiff,quietOp,blindOp,Int.reduceEq,Int.reduceLT,Int.reduceLE,Nat.reduceLT,tiA,tiXA, s0, s1, growE, zn, builtE, w64]
  refine ⟨⟨by omega, by omega⟩, by omega, ?_⟩
  exact ⟨H.next, rfl, (Ow.refl hs).pushSl (k := 1) (n := N) (ty := 2) (vs := ints (List.replicate N 0)) (by simp [ints])⟩
def sumL (ps : List (Value × List Int)) : Nat := (ps.map Prod.snd).flatten.length
theorem concatI_c (m uc ui : Nat) (ps : List (Value × List Int)) (hm : ps.length = m) (hm2 : m ≤ 1000) (hN : 0 < sumL ps ∧ sumL ps ≤ 1000) (hpos : ∀ p ∈ ps, 0 < p.2.length) (H : AH) (hrow : H.row ui = some ⟨28, true, ps.map Prod.fst⟩) (hR : RowsP ps H) :
    ACalls Tryz.prog 49 [.slice (some ⟨ui, 0, some 1⟩) m uc] H (fun w H' => Ow H H' [.sl 1 2 w (sumL ps) (ints (ps.map Prod.snd).flatten)]) := by
  refine ACalls.wf (by kernel_rfl) fun hs => acalls_of_awp [.tmp 2] Tryz.func49 (by kernel_rfl) rfl rfl (Nat.le_of_ble_eq_true rfl) (by kernel_rfl) ?_
  have hsnoc : ∀ j, (hj : j < ps.length) → ((ps.take (j + 1)).map Prod.snd).flatten = ((ps.take j).map Prod.snd).flatten ++ ps[j].2 := fun j hj => by
    rw [List.take_succ_eq_append_getElem hj, List.map_append, List.flatten_append]; simp
  have hle : ∀ j, j ≤ ps.length → ((ps.take j).map Prod.snd).flatten.length ≤ sumL ps := fun j hj => by
    unfold sumL
    conv => rhs; rw [← List.take_append_drop j ps]
    rw [List.map_append, List.flatten_append, List.length_append]
    omega
  try simp (disch := first | omega | (simp only [ints_length, List.length_replicate, List.length_set, List.length_map] <;> omega)) only [Sall,evalOp,init,binA_s,binE,binI,unE,convE,okNil,builtE,gv,TD.isAgg,resV,↓reduceIte,Nat.reduceEqDiff,reduceCtorEq,Nat.reduceAdd,Nat.reduceMul,Nat.reduceLeDiff,quietOp,blindOp,Int.reduceEq,Int.reduceLT,Int.reduceLE,Nat.reduceLT,tiA,tiXA, builtE]
  refine awp_loop (fun y t H' => ∃ j : Nat, y = m - j ∧ j ≤ m ∧ t 11 = .int .i64 j ∧ t 10 = .int .i64 m ∧ t 9 = .slice (some ⟨ui, 0, some 1⟩) m uc ∧ t 3 = .int .i64 ((ps.take j).map Prod.snd).flatten.length ∧ t 0 = .slice (some ⟨ui, 0, some 1⟩) m uc ∧ H' = H) m ?_ ?_
  · refine ⟨0, by omega, by omega, ?_⟩
    try simp (disch := first | omega | (simp only [ints_length, List.length_replicate, List.length_set, List.length_map] <;> omega)) only [Sall,evalOp,init,binA_s,binE,binI,unE,convE,okNil,builtE,gv,TD.isAgg,resV,↓reduceIte,Nat.reduceEqDiff,reduceCtorEq,Nat.reduceAdd,Nat.reduceMul,Nat.reduceLeDiff,quietOp,blindOp,Int.reduceEq,Int.reduceLT,Int.reduceLE,Nat.reduceLT,tiA,tiXA, Int.natCast_zero, List.take_zero, List.map_nil, List.flatten_nil, List.length_nil]
  · rintro y t H1 ⟨j, hy, hj, h11, h10, h9, h3, h0, rfl⟩
    try simp (disch := first | omega | (simp only [ints_length, List.length_replicate, List.length_set, List.length_map] <;> omega)) only [Sall,evalOp,init,binA_s,binE,binI,unE,convE,okNil,builtE,gv,TD.isAgg,resV,↓reduceIte,Nat.reduceEqDiff,reduceCtorEq,Nat.reduceAdd,Nat.reduceMul,Nat.reduceLeDiff,quietOp,blindOp,Int.reduceEq,Int.reduceLT,Int.reduceLE,Nat.reduceLT,tiA,tiXA, h11, h10]
    refine condC_dec (fun hh => ?_) (fun hh => ?_)
    · have hjm : j < ps.length := by omega
      have k1 : (ps.map Prod.fst)[j]? = some ps[j].1 := by rw [List.getElem?_map, List.getElem?_eq_getElem hjm]; rfl
      have hrj := hR ps[j] (List.getElem_mem hjm)
      have hrl := hrj.rd.len
      have ho := fun r => ok_one (r := r) hrj.rd.one
      have ho1 := hrj.rd.one
      have hsn := hsnoc j hjm
      have hl1 := hle (j + 1) (by omega)
      rw [hsn, List.length_append] at hl1
      have ng : ¬ (((((ps.take j).map Prod.snd).flatten.length : Nat) : Int) + ((ps[j].2.length : Nat) : Int) < 0) := by omega
      try simp (disch := first | omega | (simp only [ints_length, List.length_replicate, List.length_set, List.length_map] <;> omega)) only [Sall,evalOp,init,binA_s,binE,binI,unE,convE,okNil,builtE,gv,TD.isAgg,resV,↓reduceIte,Nat.reduceEqDiff,reduceCtorEq,Nat.reduceAdd,Nat.reduceMul,Nat.reduceLeDiff,quietOp,blindOp,Int.reduceEq,Int.reduceLT,Int.reduceLE,Nat.reduceLT,tiA,tiXA, h11, h10, h9, h3, h0, hrow, k1, ho, ho1, builtE, hrl, ng, decide_false, w64]
      refine ⟨⟨by omega, by omega⟩, m - (j + 1), by omega, j + 1, by omega, by omega, by omega, ?_⟩
      rw [hsn, List.length_append]
      omega
    · have hjm : j = m := by omega
      have htk : ps.take j = ps := List.take_of_length_le (by omega)
      rw [htk] at h3
      have h3 : t 3 = .int .i64 (sumL ps) := h3
      try simp (disch := first | omega | (simp only [ints_length, List.length_replicate, List.length_set, List.length_map] <;> omega)) only [Sall,evalOp,init,binA_s,binE,binI,unE,convE,okNil,builtE,gv,TD.isAgg,resV,↓reduceIte,Nat.reduceEqDiff,reduceCtorEq,Nat.reduceAdd,Nat.reduceMul,Nat.reduceLeDiff,quietOp,blindOp,Int.reduceEq,Int.reduceLT,Int.reduceLE,Nat.reduceLT,tiA,tiXA, h3, h0]
      refine ACalls.ex (g := fun i : Nat => .slice (some ⟨i, 0, some 1⟩) 0 0) (growI_c (sumL ps) hN H1) ?_
      intro wi H2 o1
      refine Holds.mp ?_
      try simp (disch := first | omega | (simp only [ints_length, List.length_replicate, List.length_set, List.length_map] <;> omega)) only [Sall,evalOp,init,binA_s,binE,binI,unE,convE,okNil,builtE,gv,TD.isAgg,resV,↓reduceIte,Nat.reduceEqDiff,reduceCtorEq,Nat.reduceAdd,Nat.reduceMul,Nat.reduceLeDiff,quietOp,blindOp,Int.reduceEq,Int.reduceLT,Int.reduceLE,Nat.reduceLT,tiA,tiXA, h0, builtE]
      obtain ⟨N, eN⟩ : ∃ N, N = sumL ps := ⟨_, rfl⟩
      rw [← eN] at o1 hle ⊢
      refine awp_loop (fun y t H' => ∃ (j : Nat) (F : List Int), y = m - j ∧ j ≤ m ∧ F = ((ps.take j).map Prod.snd).flatten ∧ t 27 = .int .i64 j ∧ t 26 = .int .i64 m ∧ t 25 = .slice (some ⟨ui, 0, some 1⟩) m uc ∧ t 6 = .slice (some ⟨wi, 0, some 1⟩) F.length F.length ∧ Ow H1 H' [.sl 1 2 (.slice (some ⟨wi, 0, some 1⟩) N N) N (ints (F ++ List.replicate (N - F.length) 0))]) m ?_ ?_
      · refine ⟨0, [], by omega, by omega, rfl, ?_⟩
        try simp (disch := first | omega | (simp only [ints_length, List.length_replicate, List.length_set, List.length_map] <;> omega)) only [Sall,evalOp,init,binA_s,binE,binI,unE,convE,okNil,builtE,gv,TD.isAgg,resV,↓reduceIte,Nat.reduceEqDiff,reduceCtorEq,Nat.reduceAdd,Nat.reduceMul,Nat.reduceLeDiff,quietOp,blindOp,Int.reduceEq,Int.reduceLT,Int.reduceLE,Nat.reduceLT,tiA,tiXA, Int.natCast_zero]
        exact o1
      · rintro y t H3 ⟨j, F, hy, hj, hF, h27, h26, h25, h6, o2⟩
        try simp (disch := first | omega | (simp only [ints_length, List.length_replicate, List.length_set, List.length_map] <;> omega)) only [Sall,evalOp,init,binA_s,binE,binI,unE,convE,okNil,builtE,gv,TD.isAgg,resV,↓reduceIte,Nat.reduceEqDiff,reduceCtorEq,Nat.reduceAdd,Nat.reduceMul,Nat.reduceLeDiff,quietOp,blindOp,Int.reduceEq,Int.reduceLT,Int.reduceLE,Nat.reduceLT,tiA,tiXA, h27, h26]
        refine condC_dec (fun hh2 => ?_) (fun hh2 => ?_)
        · have hjm : j < ps.length := by omega
          have k1 : (ps.map Prod.fst)[j]? = some ps[j].1 := by rw [List.getElem?_map, List.getElem?_eq_getElem hjm]; rfl
          have hrj := (hR ps[j] (List.getElem_mem hjm)).same (o2.old hs)
          have ho := fun r => ok_one (r := r) hrj.rd.one
          have ho1 := hrj.rd.one
          have hsn := hsnoc j hjm
          have hl1 := hle (j + 1) (by omega)
          rw [hsn, ← hF, List.length_append] at hl1
          have hrow' := o2.old hs _ _ hrow
          have hpj := hpos ps[j] (List.getElem_mem hjm)
          have hwr := (o2.getV 0 rfl).2.2
          generalize ps[j].2 = x at *
          generalize ps[j].1 = xv at *
          try simp (disch := first | omega | (simp only [ints_length, List.length_replicate, List.length_set, List.length_map] <;> omega)) only [Sall,evalOp,init,binA_s,binE,binI,unE,convE,okNil,builtE,gv,TD.isAgg,resV,↓reduceIte,Nat.reduceEqDiff,reduceCtorEq,Nat.reduceAdd,Nat.reduceMul,Nat.reduceLeDiff,quietOp,blindOp,Int.reduceEq,Int.reduceLT,Int.reduceLE,Nat.reduceLT,tiA,tiXA, h27, h26, h25, h6, hrow', k1, ho, ho1]
          (repeat refine And.intro (by omega) ?_)
          try simp (disch := first | omega | (simp only [ints_length, List.length_replicate, List.length_set, List.length_map] <;> omega)) only [Sall,evalOp,init,binA_s,binE,binI,unE,convE,okNil,builtE,gv,TD.isAgg,resV,↓reduceIte,Nat.reduceEqDiff,reduceCtorEq,Nat.reduceAdd,Nat.reduceMul,Nat.reduceLeDiff,quietOp,blindOp,Int.reduceEq,Int.reduceLT,Int.reduceLE,Nat.reduceLT,tiA,tiXA, h27, h26, h25, h6, hrow', k1, ho, ho1]
          refine hrj.rd.slC hpj ?_
          have hfl : F.length + x.length ≤ N := hl1
          have hx0 : ¬ x.length = 0 := by omega
          have esp : splice (ints (F ++ List.replicate (N - F.length) 0)) F.length (ints x) = ints (F ++ x ++ List.replicate (N - (F ++ x).length) 0) := by
            unfold splice
            rw [← ints_append F, List.take_left' (ints_length F), ints_length, ← List.drop_drop, List.drop_left' (ints_length F)]
            have e2 : (ints (List.replicate (N - F.length) 0)).drop x.length = ints (List.replicate (N - (F ++ x).length) 0) := by
              unfold ints
              rw [← List.map_drop, List.drop_replicate, List.length_append]
              congr 2
              omega
            rw [e2, ints_append, ints_append]
          unfold appE
          rw [if_neg hx0]
          have hlN : (ints (F ++ List.replicate (N - F.length) 0)).length = N := by rw [ints_length, List.length_append, List.length_replicate]; omega
          try simp (disch := first | omega | (simp only [ints_length, List.length_replicate, List.length_set, List.length_map] <;> omega)) only [Sall,evalOp,init,binA_s,binE,binI,unE,convE,okNil,builtE,gv,TD.isAgg,resV,↓reduceIte,Nat.reduceEqDiff,reduceCtorEq,Nat.reduceAdd,Nat.reduceMul,Nat.reduceLeDiff,quietOp,blindOp,Int.reduceEq,Int.reduceLT,Int.reduceLE,Nat.reduceLT,tiA,tiXA, hwr, hlN, hfl, esp]
          have hput := o2.put 0 rfl (vs' := ints (F ++ x ++ List.replicate (N - (F ++ x).length) 0)) (by rw [ints_length, hlN, List.length_append, List.length_append, List.length_replicate]; omega)
          refine ⟨⟨by omega, by omega⟩, .inr trivial, ?_⟩
          try simp (disch := first | omega | (simp only [ints_length, List.length_replicate, List.length_set, List.length_map] <;> omega)) only [Sall,evalOp,init,binA_s,binE,binI,unE,convE,okNil,builtE,gv,TD.isAgg,resV,↓reduceIte,Nat.reduceEqDiff,reduceCtorEq,Nat.reduceAdd,Nat.reduceMul,Nat.reduceLeDiff,quietOp,blindOp,Int.reduceEq,Int.reduceLT,Int.reduceLE,Nat.reduceLT,tiA,tiXA, h27, h26, h25, w64]
          refine ⟨m - (j + 1), by omega, j + 1, F ++ x, by omega, by omega, by rw [hF, hsn], rfl, ?_, ?_⟩
          · rw [List.length_append]
          · exact hput
        · have hjm : j = m := by omega
          have htk : ps.take j = ps := List.take_of_length_le (by omega)
          rw [htk] at hF
          have hFN : F.length = N := by rw [hF, eN]; rfl
          rw [hFN, Nat.sub_self, List.replicate_zero, List.append_nil] at o2
          rw [hFN] at h6
          try simp (disch := first | omega | (simp only [ints_length, List.length_replicate, List.length_set, List.length_map] <;> omega)) only [Sall,evalOp,init,binA_s,binE,binI,unE,convE,okNil,builtE,gv,TD.isAgg,resV,↓reduceIte,Nat.reduceEqDiff,reduceCtorEq,Nat.reduceAdd,Nat.reduceMul,Nat.reduceLeDiff,quietOp,blindOp,Int.reduceEq,Int.reduceLT,Int.reduceLE,Nat.reduceLT,tiA,tiXA, h6]
          rw [← hF]
          exact o2
end Go.Proofs.YtollphjompimjaaGreat.A
end

section
namespace Go.Abs
open Go Go.RowKit
def Pt (lo hi i : Nat) (H : AH) (x : Value) (y : List Int) : Prop := ∀ H', (∀ z r, lo ≤ z → z < hi → ¬ z = i → H.row z = some r → H'.row z = some r) → Rd 1 H' x y.length y
def FrV (ty lo hi : Nat) (H : AH) (v : Value) (ll : List (List Int)) : Prop :=
  (ll = [] ∧ v = .slice none 0 0) ∨ ∃ i vs, lo ≤ i ∧ i < hi ∧ v = .slice (some ⟨i, 0, some 1⟩) ll.length ll.length ∧ H.row i = some ⟨ty, true, vs⟩ ∧ vs.length = ll.length ∧ ∀ j, j < ll.length → ∃ x, vs[j]? = some x ∧ Pt lo hi i H x (ll.getD j [])
theorem FrV.same {ty lo hi : Nat} {H H' : AH} {v : Value} {ll : List (List Int)} (h : FrV ty lo hi H v ll) (hs : ∀ i, lo ≤ i → i < hi → H'.row i = H.row i) : FrV ty lo hi H' v ll := by
  rcases h with h | ⟨i, vs, h1, h2, hv, hr, hl, hj⟩
  · exact .inl h
  · refine .inr ⟨i, vs, h1, h2, hv, by rw [hs i h1 h2]; exact hr, hl, fun j hjl => ?_⟩
    obtain ⟨x, hx, hp⟩ := hj j hjl
    exact ⟨x, hx, fun H2 h2 => hp H2 fun z r z1 z2 z3 hz => h2 z r z1 z2 z3 (by rw [hs z z1 z2]; exact hz)⟩
theorem FrV.wide {ty lo hi lo' hi' : Nat} {H : AH} {v : Value} {ll : List (List Int)} (h : FrV ty lo hi H v ll) (a : lo' ≤ lo) (c : hi ≤ hi') : FrV ty lo' hi' H v ll := by
  rcases h with h | ⟨i, vs, h1, h2, hv, hr, hl, hj⟩
  · exact .inl h
  · refine .inr ⟨i, vs, by omega, by omega, hv, hr, hl, fun j hjl => ?_⟩
    obtain ⟨x, hx, hp⟩ := hj j hjl
    exact ⟨x, hx, fun H2 h2 => hp H2 fun z r z1 z2 z3 hz => h2 z r (by omega) (by omega) z3 hz⟩
theorem FrV.rd {ty lo hi : Nat} {H : AH} {v : Value} {ll : List (List Int)} (h : FrV ty lo hi H v ll) : Rd2 1 H v ll := by
  rcases h with ⟨h1, h2⟩ | ⟨i, vs, h1, h2, rfl, hr, hl, hj⟩
  · exact .inl ⟨h1, none, 0, h2, fun _ => rfl⟩
  · refine .inr ⟨i, 0, some 1, _, _, rfl, hr, fun j hjl => ?_⟩
    obtain ⟨x, hx, hp⟩ := hj j hjl
    exact ⟨x, _, by simpa using hx, hp H fun _ _ _ _ _ h => h⟩
theorem cells_of_one {v : Value} (h : v.oneCell' = true) : v.cells = #[v] := by
  cases v <;> first | rfl | (simp [Value.oneCell'] at h)
theorem noTuple_of_one {v : Value} (h : v.oneCell' = true) : noTuple v = true := by
  cases v <;> first | rfl | (simp [Value.oneCell'] at h)
end Go.Abs
end

section
set_option maxRecDepth 100000
set_option maxHeartbeats 2000000
namespace Go.Proofs.YtollphjompimjaaGreat.A
open Go Go.Abs Go.RowKit
theorem tidy_c (n g c : Nat) (hg : 2 ≤ g) (hn : n = g * c) (hc : 1 ≤ c) (hn25 : n ≤ 25) (hgn : g ≤ n) (v y : Value) (l : List Int) (H : AH) (hone : v.oneCell' = true) (hy : Rs 1 H y n l) (ho : ordB n l = true) :
    ACalls Tryz.prog 48 [.agg #[.int .i64 n, .int .i64 g, v], y] H (fun w H' => Ow H H' [.sl 1 2 w n (ints (tidF g l n))]) := by
  refine ACalls.wf (by kernel_rfl) fun hs => acalls_of_awp [.tmp 4] Tryz.func48 (by kernel_rfl) rfl rfl (Nat.le_of_ble_eq_true rfl) (by kernel_rfl) ?_
  have hyo := hy.rd.one
  have o1 := ((golf_push hs n g v).pushSl (k := 1) (n := 0) (ty := 28) (vs := []) rfl).addSee (Q := RowsP []) (fun _ p hp => by simp at hp)
  have hc12 : c ≤ 12 := by
    have h1 : 2 * c ≤ g * c := Nat.mul_le_mul_right c hg
    omega
  have hlk : l.length = n := ((ordB_iff n l).1 ho).1
  try simp (disch := first | omega | (simp only [ints_length, List.length_replicate, List.length_set, List.length_map] <;> omega)) only [Sall,evalOp,init,binA_s,binE,binI,unE,convE,okNil,builtE,gv,TD.isAgg,resV,↓reduceIte,Nat.reduceEqDiff,reduceCtorEq,Nat.reduceAdd,Nat.reduceMul,Nat.reduceLeDiff,quietOp,blindOp,Int.reduceEq,Int.reduceLT,Int.reduceLE,Nat.reduceLT,tiA,tiXA, hone, hyo]
  (repeat refine And.intro (by omega) ?_)
  try simp (disch := first | omega | (simp only [ints_length, List.length_replicate, List.length_set, List.length_map] <;> omega)) only [Sall,evalOp,init,binA_s,binE,binI,unE,convE,okNil,builtE,gv,TD.isAgg,resV,↓reduceIte,Nat.reduceEqDiff,reduceCtorEq,Nat.reduceAdd,Nat.reduceMul,Nat.reduceLeDiff,quietOp,blindOp,Int.reduceEq,Int.reduceLT,Int.reduceLE,Nat.reduceLT,tiA,tiXA, hone, hyo]
  have o1 : Ow H ((H.push ⟨26, true, [.int .i64 n, .int .i64 g, v]⟩).push ⟨28, true, []⟩) [.row H.next ⟨26, true, [.int .i64 n, .int .i64 g, v]⟩, .sl 1 28 (.slice (some ⟨H.next + 1, 0, some 1⟩) 0 0) 0 [], .see (RowsP [])] := o1
  obtain ⟨pi, epi⟩ : ∃ pi, pi = H.next := ⟨_, rfl⟩
  rw [← epi] at o1 ⊢
  refine awp_loop (fun m t H' => ∃ (a : Nat) (u : Value) (ps : List (Value × List Int)), m = c - a ∧ a ≤ c ∧ ps.map Prod.snd = (List.range a).map (blkL g l) ∧ t 6 = .int .i64 ((a * g : Nat) : Int) ∧ t 5 = u ∧ t 1 = y ∧ t 2 = .pointer (some ⟨pi, 0, none⟩) ∧ Ow H H' [.row pi ⟨26, true, [.int .i64 n, .int .i64 g, v]⟩, .sl 1 28 u a (ps.map Prod.fst), .see (RowsP ps)]) c ?_ ?_
  · refine ⟨0, .slice (some ⟨pi + 1, 0, some 1⟩) 0 0, [], by omega, by omega, rfl, ?_⟩
    try simp (disch := first | omega | (simp only [ints_length, List.length_replicate, List.length_set, List.length_map] <;> omega)) only [Sall,evalOp,init,binA_s,binE,binI,unE,convE,okNil,builtE,gv,TD.isAgg,resV,↓reduceIte,Nat.reduceEqDiff,reduceCtorEq,Nat.reduceAdd,Nat.reduceMul,Nat.reduceLeDiff,quietOp,blindOp,Int.reduceEq,Int.reduceLT,Int.reduceLE,Nat.reduceLT,tiA,tiXA, Nat.zero_mul, Int.natCast_zero]
    exact o1
  · rintro m t H1 ⟨a, u, ps, hm, ha, hps, h6, h5, h1, h2, o2⟩
    have e1 := (o2.rowAt 0 rfl).1
    have hu := o2.one 1 rfl
    try simp (disch := first | omega | (simp only [ints_length, List.length_replicate, List.length_set, List.length_map] <;> omega)) only [Sall,evalOp,init,binA_s,binE,binI,unE,convE,okNil,builtE,gv,TD.isAgg,resV,↓reduceIte,Nat.reduceEqDiff,reduceCtorEq,Nat.reduceAdd,Nat.reduceMul,Nat.reduceLeDiff,quietOp,blindOp,Int.reduceEq,Int.reduceLT,Int.reduceLE,Nat.reduceLT,tiA,tiXA, h6, h2, e1]
    have hcn : (((a * g : Nat) : Int) < (n : Int)) ↔ a < c := by
      rw [hn, Nat.mul_comm g c]
      constructor
      · intro h
        have h : a * g < c * g := by omega
        exact Nat.lt_of_mul_lt_mul_right h
      · intro h
        have : a * g < c * g := Nat.mul_lt_mul_of_pos_right h (by omega)
        omega
    refine condC_dec (fun hh => ?_) (fun hh => ?_)
    · have hac : a < c := hcn.1 hh
      have hA : a * g + g ≤ n := by
        have h2 : (a + 1) * g ≤ c * g := Nat.mul_le_mul_right g hac
        rw [Nat.succ_mul, Nat.mul_comm c g, ← hn] at h2
        exact h2
      have wd : ∀ A : Nat, A ≤ 100 → IntKind.i64.wrap (A : Int) = A := fun A hA => w64 ⟨by omega, by omega⟩
      have wd3 := wd (a * g + g) (by omega)
      have ea : ((a * g : Nat) : Int) + (g : Int) = ((a * g + g : Nat) : Int) := by omega
      have hy1 := hy.same (o2.old hs)
      obtain ⟨ys, hcut, rys⟩ := hy1.cut (lo := some ((a * g : Nat) : Int)) (hi := some ((a * g + g : Nat) : Int)) (a := a * g) (b := a * g + g) rfl rfl (by omega) hA
      rw [Nat.mul_one, Nat.mul_one, Nat.add_sub_cancel_left] at rys
      have hyso := rys.rd.one
      have hkl : ((l.drop (a * g)).take g).length = g := by have := rys.rd.1; omega
      try simp (disch := first | omega | (simp only [ints_length, List.length_replicate, List.length_set, List.length_map] <;> omega)) only [Sall,evalOp,init,binA_s,binE,binI,unE,convE,okNil,builtE,gv,TD.isAgg,resV,↓reduceIte,Nat.reduceEqDiff,reduceCtorEq,Nat.reduceAdd,Nat.reduceMul,Nat.reduceLeDiff,quietOp,blindOp,Int.reduceEq,Int.reduceLT,Int.reduceLE,Nat.reduceLT,tiA,tiXA, h6, h5, h1, h2, e1, ea, wd3]
      refine hcut _ _ _ _ rfl ?_
      try simp (disch := first | omega | (simp only [ints_length, List.length_replicate, List.length_set, List.length_map] <;> omega)) only [Sall,evalOp,init,binA_s,binE,binI,unE,convE,okNil,builtE,gv,TD.isAgg,resV,↓reduceIte,Nat.reduceEqDiff,reduceCtorEq,Nat.reduceAdd,Nat.reduceMul,Nat.reduceLeDiff,quietOp,blindOp,Int.reduceEq,Int.reduceLT,Int.reduceLE,Nat.reduceLT,tiA,tiXA, hyso]
      refine (values_c ys H1 hyso).to ?_
      have o3 := o2.tmp ⟨28, true, [ys]⟩
      have e5 : (H1.push ⟨28, true, [ys]⟩).row H1.next = some ⟨28, true, [ys]⟩ := by rw [AH.push_row, if_pos rfl]
      have ry2 : Rd 1 (H1.push ⟨28, true, [ys]⟩) ys ((l.drop (a * g)).take g).length ((l.drop (a * g)).take g) := by
        rw [hkl]
        exact rys.rd.same fun i r hr => by have := o2.sc _ _ hr; rw [AH.push_row, if_neg (by omega)]; exact hr
      refine Holds.mp ?_
      try simp (disch := first | omega | (simp only [ints_length, List.length_replicate, List.length_set, List.length_map] <;> omega)) only [Sall,evalOp,init,binA_s,binE,binI,unE,convE,okNil,builtE,gv,TD.isAgg,resV,↓reduceIte,Nat.reduceEqDiff,reduceCtorEq,Nat.reduceAdd,Nat.reduceMul,Nat.reduceLeDiff,quietOp,blindOp,Int.reduceEq,Int.reduceLT,Int.reduceLE,Nat.reduceLT,tiA,tiXA, true_and]
      obtain ⟨b, eb⟩ : ∃ b, b = H1.next := ⟨_, rfl⟩
      rw [← eb] at e5 ⊢
      generalize H1.push ⟨28, true, [ys]⟩ = H2 at o3 ry2 e5 ⊢
      refine ACalls.mono (sorted_c b ys _ H2 e5 ry2 (by omega)).sc ?_
      rintro x H3 ⟨⟨up3, f3⟩, sc3⟩
      have o4 := o3.call (Ow.of_fr up3 sc3 f3)
      have hx := o4.one 3 rfl
      have zz : zeros 1 [.slice none 0 0] = [.slice none 0 0] := rfl
      have hq1 := cells_of_one hx
      have hq2 := noTuple_of_one hx
      have hq3 := fun r => ok_one (r := r) hx
      refine Holds.mp ?_
      try simp (disch := first | omega | (simp only [ints_length, List.length_replicate, List.length_set, List.length_map] <;> omega)) only [Sall,evalOp,init,binA_s,binE,binI,unE,convE,okNil,builtE,gv,TD.isAgg,resV,↓reduceIte,Nat.reduceEqDiff,reduceCtorEq,Nat.reduceAdd,Nat.reduceMul,Nat.reduceLeDiff,quietOp,blindOp,Int.reduceEq,Int.reduceLT,Int.reduceLE,Nat.reduceLT,tiA,tiXA, hx, h5, hu, zz, hq1, hq2, hq3, slCells]
      (repeat refine And.intro (by omega) ?_)
      try simp (disch := first | omega | (simp only [ints_length, List.length_replicate, List.length_set, List.length_map] <;> omega)) only [Sall,evalOp,init,binA_s,binE,binI,unE,convE,okNil,builtE,gv,TD.isAgg,resV,↓reduceIte,Nat.reduceEqDiff,reduceCtorEq,Nat.reduceAdd,Nat.reduceMul,Nat.reduceLeDiff,quietOp,blindOp,Int.reduceEq,Int.reduceLT,Int.reduceLE,Nat.reduceLT,tiA,tiXA, hx, h5, hu, zz, hq1, hq2, hq3, slCells]
      refine (o4.tmp ⟨28, true, [x]⟩).app 1 (c := 1) (ms := [x]) rfl rfl (by omega) rfl (by omega) (by decide) (by omega) ?_
      intro u' H4 n4 o5
      have o5 : Ow H H4 [.row pi ⟨26, true, [.int .i64 n, .int .i64 g, v]⟩, .sl 1 28 u' (a + 1) (ps.map Prod.fst ++ [x]), .see (RowsP ps), .sl 1 2 x ((l.drop (a * g)).take g).length (ints (sortedL ((l.drop (a * g)).take g)))] := o5
      have o6 := o5.addP 2 3 (x := x) (l := blkL g l a) rfl rfl (by omega) (fun H S hp => by
        have hq := sl_rs hp
        have e : (blkL g l a).length = ((l.drop (a * g)).take g).length := by unfold blkL; exact sortedL_length _
        rw [e]; exact hq)
      have o6 : Ow H H4 ([.row pi ⟨26, true, [.int .i64 n, .int .i64 g, v]⟩, .sl 1 28 u' (a + 1) (ps.map Prod.fst ++ [x]), .see (RowsP (ps ++ [(x, blkL g l a)]))] ++ [.no]) := o6
      have e1' := (o6.rowAt 0 rfl).1
      try simp (disch := first | omega | (simp only [ints_length, List.length_replicate, List.length_set, List.length_map] <;> omega)) only [Sall,evalOp,init,binA_s,binE,binI,unE,convE,okNil,builtE,gv,TD.isAgg,resV,↓reduceIte,Nat.reduceEqDiff,reduceCtorEq,Nat.reduceAdd,Nat.reduceMul,Nat.reduceLeDiff,quietOp,blindOp,Int.reduceEq,Int.reduceLT,Int.reduceLE,Nat.reduceLT,tiA,tiXA, h6, h1, h2, e1', ea, wd3]
      refine ⟨c - (a + 1), by omega, a + 1, u', ps ++ [(x, blkL g l a)], by omega, by omega, ?_, by rw [Nat.succ_mul], rfl, ?_⟩
      · rw [List.map_append, hps, List.range_succ, List.map_append]; rfl
      · rw [List.map_append]
        exact o6.left
    · have hac : a = c := by
        by_cases h : a < c
        · exact absurd (hcn.2 h) hh
        · omega
      rw [hac] at o2 hps
      try simp (disch := first | omega | (simp only [ints_length, List.length_replicate, List.length_set, List.length_map] <;> omega)) only [Sall,evalOp,init,binA_s,binE,binI,unE,convE,okNil,builtE,gv,TD.isAgg,resV,↓reduceIte,Nat.reduceEqDiff,reduceCtorEq,Nat.reduceAdd,Nat.reduceMul,Nat.reduceLeDiff,quietOp,blindOp,Int.reduceEq,Int.reduceLT,Int.reduceLE,Nat.reduceLT,tiA,tiXA, h5]
      have hpl : ps.length = c := by have := congrArg List.length hps; simpa using this
      have hpb : ps.map Prod.snd = blksL g c l := hps
      have hkd : ps.Pairwise fun p q => hdL p.2 ≠ hdL q.2 := by
        have h := blks_nodup (by omega) hn ho
        rw [← hpb, List.pairwise_map] at h
        exact h
      have hbl : ∀ p ∈ ps, p.2.length = g := fun p hp => by
        have h : p.2 ∈ blksL g c l := by rw [← hpb]; exact List.mem_map.2 ⟨p, hp, rfl⟩
        unfold blksL at h
        obtain ⟨t, ht, e⟩ := List.mem_map.1 h
        rw [← e]
        exact blk_len hn ho (List.mem_range.1 ht)
      have hne : ∀ p ∈ ps, 0 < p.2.length := fun p hp => by rw [hbl p hp]; omega
      obtain ⟨ui, _, hui, eu, hrow⟩ := o2.get 1 rfl (by omega)
      subst eu
      refine ACalls.mono (sortLL_c c hc12 ps hpl hkd hne ui c H1 hui (fun Hx hx => o2.seeStab 2 1 rfl rfl (by omega) hx.2.1) hrow) ?_
      rintro r H2 ⟨ps', hp', hst', hS, hrow'⟩
      have o3 := o2.rowNew 1 rfl (vs' := ps'.map Prod.fst) (by rw [List.length_map, List.length_map, hp'.length_eq]) hS.1 hS.2.2 hS.2.1 hrow'
      have hR0 : RowsP ps H2 := o3.sees 2 rfl
      have hR' : RowsP ps' H2 := fun p hp => hR0 p (hp'.subset hp)
      have hG := tid_sorted (by omega) hn ho (G := ps'.map Prod.snd) (by rw [← hpb]; exact hp'.map _) (by rw [List.pairwise_map]; exact hst')
      have hsum : sumL ps' = n := by
        unfold sumL
        rw [hG, tid_len (by omega) hn ho]
      refine Holds.mp ?_
      try simp (disch := first | omega | (simp only [ints_length, List.length_replicate, List.length_set, List.length_map] <;> omega)) only [Sall,evalOp,init,binA_s,binE,binI,unE,convE,okNil,builtE,gv,TD.isAgg,resV,↓reduceIte,Nat.reduceEqDiff,reduceCtorEq,Nat.reduceAdd,Nat.reduceMul,Nat.reduceLeDiff,quietOp,blindOp,Int.reduceEq,Int.reduceLT,Int.reduceLE,Nat.reduceLT,tiA,tiXA, h5]
      refine ACalls.mono (concatI_c c c ui ps' (by rw [hp'.length_eq, hpl]) (by omega) (by rw [hsum]; omega) (fun p hp => hne p (hp'.subset hp)) H2 hrow' hR') ?_
      intro w H3 o4
      have hw := o4.one 0 rfl
      refine Holds.mp ?_
      try simp (disch := first | omega | (simp only [ints_length, List.length_replicate, List.length_set, List.length_map] <;> omega)) only [Sall,evalOp,init,binA_s,binE,binI,unE,convE,okNil,builtE,gv,TD.isAgg,resV,↓reduceIte,Nat.reduceEqDiff,reduceCtorEq,Nat.reduceAdd,Nat.reduceMul,Nat.reduceLeDiff,quietOp,blindOp,Int.reduceEq,Int.reduceLT,Int.reduceLE,Nat.reduceLT,tiA,tiXA, hw]
      rw [hsum, hG] at o4
      exact (o3.call o4).only 3 rfl
theorem TidyRound_c (q g : Int) (v : Value) (R : List (List Int)) (i : Int) (H : AH) (hv : Rg H v R) (hl : R.length ≤ 4194304) (hl2 : ∀ r ∈ R, r.length ≤ 4194304) :
    ACalls Tryz.prog 23 [.agg #[.int .i64 q, .int .i64 g, v], .int .i64 i] H (fun r H' => ∃ w, r = .tuple #[w, .int .i64 (glC q g R (decide (0 ≤ i ∧ i ≤ (R.length : Int) - 1)))] ∧ Ow H H' [.sl 1 2 w (tidV q g R i).length (ints (tidV q g R i))]) := by
  refine ACalls.wf (by kernel_rfl) fun hs => acalls_of_awp [.tmp 4, .tmp 5] Tryz.func23 (by kernel_rfl) rfl rfl (Nat.le_of_ble_eq_true rfl) (by kernel_rfl) ?_
  have hone := hv.one
  have o1 := golf_push hs q g v
  try simp (disch := first | omega | (simp only [ints_length, List.length_replicate, List.length_set, List.length_map] <;> omega)) only [Sall,evalOp,init,binA_s,binE,binI,unE,convE,okNil,builtE,gv,TD.isAgg,resV,↓reduceIte,Nat.reduceEqDiff,reduceCtorEq,Nat.reduceAdd,Nat.reduceMul,Nat.reduceLeDiff,quietOp,blindOp,Int.reduceEq,Int.reduceLT,Int.reduceLE,Nat.reduceLT,tiA,tiXA, hone]
  obtain ⟨pi, epi⟩ : ∃ pi, pi = H.next := ⟨_, rfl⟩
  rw [← epi] at o1 ⊢
  generalize H.push ⟨26, true, [.int .i64 q, .int .i64 g, v]⟩ = H1 at o1 ⊢
  have e1 := (o1.rowAt 0 rfl).1
  have hv1 := hv.same (o1.old hs)
  refine draw_id (by kernel_rfl) (by kernel_rfl) ?_
  try simp (disch := first | omega | (simp only [ints_length, List.length_replicate, List.length_set, List.length_map] <;> omega)) only [Sall,evalOp,init,binA_s,binE,binI,unE,convE,okNil,builtE,gv,TD.isAgg,resV,↓reduceIte,Nat.reduceEqDiff,reduceCtorEq,Nat.reduceAdd,Nat.reduceMul,Nat.reduceLeDiff,quietOp,blindOp,Int.reduceEq,Int.reduceLT,Int.reduceLE,Nat.reduceLT,tiA,tiXA, e1, hone]
  refine (hasRound_c q g v R i H1 hv1.rd2 hl).to ?_
  refine ⟨.inr (.inr (LE.refl _)), ?_⟩
  try simp (disch := first | omega | (simp only [ints_length, List.length_replicate, List.length_set, List.length_map] <;> omega)) only [Sall,evalOp,init,binA_s,binE,binI,unE,convE,okNil,builtE,gv,TD.isAgg,resV,↓reduceIte,Nat.reduceEqDiff,reduceCtorEq,Nat.reduceAdd,Nat.reduceMul,Nat.reduceLeDiff,quietOp,blindOp,Int.reduceEq,Int.reduceLT,Int.reduceLE,Nat.reduceLT,tiA,tiXA, e1, hone]
  refine (golfCode_c q g v R _ H1 hv1.rd2 hl hl2).to ?_
  refine ⟨.inr (.inr (LE.refl _)), ?_⟩
  try simp (disch := first | omega | (simp only [ints_length, List.length_replicate, List.length_set, List.length_map] <;> omega)) only [Sall,evalOp,init,binA_s,binE,binI,unE,convE,okNil,builtE,gv,TD.isAgg,resV,↓reduceIte,Nat.reduceEqDiff,reduceCtorEq,Nat.reduceAdd,Nat.reduceMul,Nat.reduceLeDiff,quietOp,blindOp,Int.reduceEq,Int.reduceLT,Int.reduceLE,Nat.reduceLT,tiA,tiXA, true_and]
  by_cases hz : glC q g R (decide (0 ≤ i ∧ i ≤ (R.length : Int) - 1)) = 0
  · obtain ⟨hE, hD⟩ := glC_yes hz
    rw [decide_eq_true_iff] at hD
    have e3 : ((0 : Int) != 0) = false := rfl
    have eV : tidV q g R i = tidF g.toNat (R.getD i.toNat []) q.toNat := by unfold tidV; rw [if_pos ⟨hE, hD⟩]
    rw [hz, eV]
    obtain ⟨n, gN, c, rfl, rfl, q0, q1, q2, q3, q4, q5, q6, q7⟩ := golfB_at hE
    obtain ⟨iN, rfl⟩ : ∃ iN : Nat, i = iN := ⟨i.toNat, by omega⟩
    simp only [Int.toNat_natCast]
    obtain ⟨vi, vo, vu, vc, vr, y, ev, v1, v2, v3, v4⟩ := hv1.get (j := iN) (by omega)
    have ho := q7 iN (by omega)
    have hol := ((ordB_iff n _).1 ho).1
    rw [hol] at v3
    have htl := tid_len (by omega) q0 ho
    try simp (disch := first | omega | (simp only [ints_length, List.length_replicate, List.length_set, List.length_map] <;> omega)) only [Sall,evalOp,init,binA_s,binE,binI,unE,convE,okNil,builtE,gv,TD.isAgg,resV,↓reduceIte,Nat.reduceEqDiff,reduceCtorEq,Nat.reduceAdd,Nat.reduceMul,Nat.reduceLeDiff,quietOp,blindOp,Int.reduceEq,Int.reduceLT,Int.reduceLE,Nat.reduceLT,tiA,tiXA, e3]
    refine draw_id (by kernel_rfl) (by kernel_rfl) ?_
    try simp (disch := first | omega | (simp only [ints_length, List.length_replicate, List.length_set, List.length_map] <;> omega)) only [Sall,evalOp,init,binA_s,binE,binI,unE,convE,okNil,builtE,gv,TD.isAgg,resV,↓reduceIte,Nat.reduceEqDiff,reduceCtorEq,Nat.reduceAdd,Nat.reduceMul,Nat.reduceLeDiff,quietOp,blindOp,Int.reduceEq,Int.reduceLT,Int.reduceLE,Nat.reduceLT,tiA,tiXA, e1, hone, ev, v1, v2, v4]
    (repeat refine And.intro (by omega) ?_)
    try simp (disch := first | omega | (simp only [ints_length, List.length_replicate, List.length_set, List.length_map] <;> omega)) only [Sall,evalOp,init,binA_s,binE,binI,unE,convE,okNil,builtE,gv,TD.isAgg,resV,↓reduceIte,Nat.reduceEqDiff,reduceCtorEq,Nat.reduceAdd,Nat.reduceMul,Nat.reduceLeDiff,quietOp,blindOp,Int.reduceEq,Int.reduceLT,Int.reduceLE,Nat.reduceLT,tiA,tiXA, e1, hone, ev, v1, v2, v4]
    rw [← ev]
    refine ACalls.mono (tidy_c n gN c q1 q0 q2 q4 q5 v y _ H1 hone v3 ho) ?_
    intro w H3 o3
    have hw := o3.one 0 rfl
    refine ⟨.inr (.inr (o3.up.le o1.sc)), ?_⟩
    try simp (disch := first | omega | (simp only [ints_length, List.length_replicate, List.length_set, List.length_map] <;> omega)) only [Sall,evalOp,init,binA_s,binE,binI,unE,convE,okNil,builtE,gv,TD.isAgg,resV,↓reduceIte,Nat.reduceEqDiff,reduceCtorEq,Nat.reduceAdd,Nat.reduceMul,Nat.reduceLeDiff,quietOp,blindOp,Int.reduceEq,Int.reduceLT,Int.reduceLE,Nat.reduceLT,tiA,tiXA, hw]
    refine ⟨w, rfl, ?_⟩
    rw [htl]
    exact (o1.call o3).only 1 rfl
  · have e3 : (glC q g R (decide (0 ≤ i ∧ i ≤ (R.length : Int) - 1)) != 0) = true := bne_iff_ne.2 hz
    have eV : tidV q g R i = [] := by
      unfold tidV
      rw [if_neg]
      rintro ⟨h1, h2⟩
      apply hz
      unfold glC
      rw [if_pos h1, decide_eq_true h2]; rfl
    rw [eV]
    try simp (disch := first | omega | (simp only [ints_length, List.length_replicate, List.length_set, List.length_map] <;> omega)) only [Sall,evalOp,init,binA_s,binE,binI,unE,convE,okNil,builtE,gv,TD.isAgg,resV,↓reduceIte,Nat.reduceEqDiff,reduceCtorEq,Nat.reduceAdd,Nat.reduceMul,Nat.reduceLeDiff,quietOp,blindOp,Int.reduceEq,Int.reduceLT,Int.reduceLE,Nat.reduceLT,tiA,tiXA, e3]
    exact ⟨_, rfl, (Ow.left (L := []) o1 |>.addNil 1 2)⟩
end Go.Proofs.YtollphjompimjaaGreat.A
end

section
namespace Go.Abs
def grX (k a b : Nat) : Int := ((b / k : Nat) : Int) - ((a / k : Nat) : Int)
def grY (k a b : Nat) : Int := ((b % k : Nat) : Int) - ((a % k : Nat) : Int)
def grB (k i a b : Nat) : Bool := (decide ((i : Int) < (k : Int)) && (Int.tmod (grX k a b * (i : Int) - grY k a b) (k : Int) == 0)) || (((i : Int) == (k : Int)) && (grX k a b == 0))
def grI (k i a : Nat) (F : List Int) : Nat → List Int
  | 0 => F
  | j + 1 => grI k i a F j ++ if grB k i a (a + j) = true then [((a + j : Nat) : Int)] else []
def grA (k i : Nat) : Nat → List Int
  | 0 => []
  | a + 1 => if (grA k i a).contains (a : Int) = true then grA k i a else grI k i a (grA k i a) (k * k - a)
def grdL (k m : Nat) : List (List Int) := (List.range m).map fun i => grA k i (k * k)
theorem grI_succ (k i a : Nat) (F : List Int) (j : Nat) : grI k i a F (j + 1) = grI k i a F j ++ if grB k i a (a + j) = true then [((a + j : Nat) : Int)] else [] := rfl
theorem grA_succ (k i a : Nat) : grA k i (a + 1) = if (grA k i a).contains (a : Int) = true then grA k i a else grI k i a (grA k i a) (k * k - a) := rfl
theorem grdL_succ (k m : Nat) : grdL k (m + 1) = grdL k m ++ [grA k m (k * k)] := by simp [grdL, List.range_succ]
theorem grdL_length (k m : Nat) : (grdL k m).length = m := by simp [grdL]
theorem grI_ok {k i a n : Nat} {F : List Int} (hF : ∀ x ∈ F, 0 ≤ x ∧ x < (n : Int)) : ∀ j, a + j ≤ n → (∀ x ∈ grI k i a F j, 0 ≤ x ∧ x < (n : Int)) ∧ (grI k i a F j).length ≤ F.length + j
  | 0, _ => ⟨hF, Nat.le_refl _⟩
  | j + 1, h => by
    obtain ⟨h1, h2⟩ := grI_ok (k := k) (i := i) (a := a) hF j (by omega)
    rw [grI_succ]
    refine ⟨fun x hx => ?_, ?_⟩
    · rcases List.mem_append.1 hx with hx | hx
      · exact h1 x hx
      · split at hx
        · rw [List.mem_singleton] at hx; omega
        · simp at hx
    · rw [List.length_append]
      split
      · simp; omega
      · simp; omega
theorem grA_ok {k i : Nat} : ∀ a, a ≤ k * k → (∀ x ∈ grA k i a, 0 ≤ x ∧ x < ((k * k : Nat) : Int)) ∧ (grA k i a).length ≤ a * (k * k)
  | 0, _ => ⟨fun x hx => by simp [grA] at hx, by simp [grA]⟩
  | a + 1, h => by
    obtain ⟨h1, h2⟩ := grA_ok (k := k) (i := i) a (by omega)
    rw [grA_succ, Nat.succ_mul]
    split
    · exact ⟨h1, by omega⟩
    · obtain ⟨h3, h4⟩ := grI_ok h1 (k := k) (i := i) (a := a) (n := k * k) (k * k - a) (by omega)
      exact ⟨h3, by omega⟩
end Go.Abs
end

section
set_option maxRecDepth 100000
set_option maxHeartbeats 2000000
namespace Go.Proofs.YtollphjompimjaaGreat.A
open Go Go.Abs Go.RowKit
theorem l08Grid_c (k : Nat) (hk : 2 ≤ k ∧ k ≤ 5) (H : AH) :
    ACalls Tryz.prog 50 [.int .i64 k] H (fun r H' => ∃ u, r = .agg #[.int .i64 ((k * k : Nat) : Int), .int .i64 k, u] ∧ Ow H H' [.sl2 (Value.int .i64) 28 2 u (grdL k (k + 1))]) := by
  refine ACalls.wf (by kernel_rfl) fun hs => acalls_of_awp [.cell 2 26] Tryz.func50 (by kernel_rfl) rfl rfl (Nat.le_of_ble_eq_true rfl) (by kernel_rfl) ?_
  obtain ⟨n, en⟩ : ∃ n, n = k * k := ⟨_, rfl⟩
  have hn : 4 ≤ n ∧ n ≤ 25 := by
    have h1 : 2 * 2 ≤ k * k := Nat.mul_le_mul hk.1 hk.1
    have h2 : k * k ≤ 5 * 5 := Nat.mul_le_mul hk.2 hk.2
    omega
  have ekk : (k : Int) * (k : Int) = (n : Int) := by rw [en]; exact (Int.natCast_mul _ _).symm
  rw [← en]
  have o1 := (((Ow.refl hs).push ⟨26, true, [.int .i64 0, .int .i64 0, .slice none 0 0]⟩).pushSl2 (Value.int .i64) 28 2).push ⟨26, true, [.int .i64 0, .int .i64 0, .slice none 0 0]⟩
  have z1 : zeros 1 [.slice none 0 0] = [.slice none 0 0] := rfl
  have wn : IntKind.i64.wrap (n : Int) = n := w64 ⟨by omega, by omega⟩
  try simp (disch := first | omega | (simp only [ints_length, List.length_replicate, List.length_set, bools_length, metL_length] <;> omega)) only [Sall,evalOp,init,binA_s,binE,binI,unE,convE,okNil,builtE,gv,TD.isAgg,resV,↓reduceIte,Nat.reduceEqDiff,reduceCtorEq,Nat.reduceAdd,Nat.reduceMul,Nat.reduceLeDiff,quietOp,blindOp,Int.reduceEq,Int.reduceLT,Int.reduceLE,Nat.reduceLT,tiA,tiXA, ekk, wn, zeros_zero]
  (repeat refine And.intro (by omega) ?_)
  try simp (disch := first | omega | (simp only [ints_length, List.length_replicate, List.length_set, bools_length, metL_length] <;> omega)) only [Sall,evalOp,init,binA_s,binE,binI,unE,convE,okNil,builtE,gv,TD.isAgg,resV,↓reduceIte,Nat.reduceEqDiff,reduceCtorEq,Nat.reduceAdd,Nat.reduceMul,Nat.reduceLeDiff,quietOp,blindOp,Int.reduceEq,Int.reduceLT,Int.reduceLE,Nat.reduceLT,tiA,tiXA, ekk, wn, zeros_zero]
  have o2 := o1.putRow 2 rfl (cs' := [.int .i64 n, .int .i64 k, .slice (some ⟨H.next + 1, 0, some 1⟩) 0 0])
  have o2 : Ow H ((((H.push ⟨26, true, [.int .i64 0, .int .i64 0, .slice none 0 0]⟩).push ⟨28, true, []⟩).push ⟨26, true, [.int .i64 0, .int .i64 0, .slice none 0 0]⟩).setCells (H.next + 2) [.int .i64 n, .int .i64 k, .slice (some ⟨H.next + 1, 0, some 1⟩) 0 0]) [.row H.next ⟨26, true, [.int .i64 0, .int .i64 0, .slice none 0 0]⟩, .sl2 (Value.int .i64) 28 2 (.slice (some ⟨H.next + 1, 0, some 1⟩) 0 0) (grdL k 0), .row (H.next + 2) ⟨26, true, [.int .i64 n, .int .i64 k, .slice (some ⟨H.next + 1, 0, some 1⟩) 0 0]⟩] := o2
  obtain ⟨c2, ec2⟩ : ∃ c2, c2 = H.next := ⟨_, rfl⟩
  rw [← ec2] at o2 ⊢
  obtain ⟨ri, eri⟩ : ∃ ri, ri = c2 + 2 := ⟨_, rfl⟩
  rw [← eri] at o2 ⊢
  refine awp_loop (fun m t H' => ∃ (i : Nat) (w : Value), m = k + 1 - i ∧ i ≤ k + 1 ∧ t 4 = .int .i64 i ∧ t 0 = .int .i64 k ∧ t 2 = .pointer (some ⟨c2, 0, none⟩) ∧ t 3 = .pointer (some ⟨ri, 0, none⟩) ∧ Ow H H' [.row c2 ⟨26, true, [.int .i64 0, .int .i64 0, .slice none 0 0]⟩, .sl2 (Value.int .i64) 28 2 w (grdL k i), .row ri ⟨26, true, [.int .i64 n, .int .i64 k, w]⟩]) (k + 1) ?_ ?_
  · refine ⟨0, .slice (some ⟨c2 + 1, 0, some 1⟩) 0 0, by omega, by omega, ?_⟩
    try simp (disch := first | omega | (simp only [ints_length, List.length_replicate, List.length_set, bools_length, metL_length] <;> omega)) only [Sall,evalOp,init,binA_s,binE,binI,unE,convE,okNil,builtE,gv,TD.isAgg,resV,↓reduceIte,Nat.reduceEqDiff,reduceCtorEq,Nat.reduceAdd,Nat.reduceMul,Nat.reduceLeDiff,quietOp,blindOp,Int.reduceEq,Int.reduceLT,Int.reduceLE,Nat.reduceLT,tiA,tiXA, Int.natCast_zero]
    exact o2
  · rintro m t H1 ⟨i, w, hm, hi, h4, h0, h2, h3, o3⟩
    try simp (disch := first | omega | (simp only [ints_length, List.length_replicate, List.length_set, bools_length, metL_length] <;> omega)) only [Sall,evalOp,init,binA_s,binE,binI,unE,convE,okNil,builtE,gv,TD.isAgg,resV,↓reduceIte,Nat.reduceEqDiff,reduceCtorEq,Nat.reduceAdd,Nat.reduceMul,Nat.reduceLeDiff,quietOp,blindOp,Int.reduceEq,Int.reduceLT,Int.reduceLE,Nat.reduceLT,tiA,tiXA, h4, h0]
    refine condC_dec (fun hh => ?_) (fun hh => ?_)
    · try simp (disch := first | omega | (simp only [ints_length, List.length_replicate, List.length_set, bools_length, metL_length] <;> omega)) only [Sall,evalOp,init,binA_s,binE,binI,unE,convE,okNil,builtE,gv,TD.isAgg,resV,↓reduceIte,Nat.reduceEqDiff,reduceCtorEq,Nat.reduceAdd,Nat.reduceMul,Nat.reduceLeDiff,quietOp,blindOp,Int.reduceEq,Int.reduceLT,Int.reduceLE,Nat.reduceLT,tiA,tiXA, true_and]
      refine awp_cutQ (fun t H' => ∃ (oi mi : Nat), t 5 = .slice (some ⟨oi, 0, some 1⟩) 0 0 ∧ t 6 = .slice (some ⟨mi, 0, some 1⟩) n n ∧ t 4 = .int .i64 i ∧ t 0 = .int .i64 k ∧ t 2 = .pointer (some ⟨c2, 0, none⟩) ∧ t 3 = .pointer (some ⟨ri, 0, none⟩) ∧ Ow H H' [.row c2 ⟨26, true, [.int .i64 0, .int .i64 0, .slice none 0 0]⟩, .sl2 (Value.int .i64) 28 2 w (grdL k i), .row ri ⟨26, true, [.int .i64 n, .int .i64 k, w]⟩, .sl 1 2 (.slice (some ⟨oi, 0, some 1⟩) 0 0) 0 (ints []), .sl 1 4 (.slice (some ⟨mi, 0, some 1⟩) n n) n (bools (metL n []))]) ?_ ?_
      · refine draw_tree (OT.run [1, 2, 3] (.two 0 4 (OT.run [5, 4, 6] .nil) (OT.run [0, 5, 6] .nil))) (by kernel_rfl) (by kernel_rfl) (Nat.le_of_ble_eq_true rfl) ?_
        try simp (disch := first | omega | (simp only [ints_length, List.length_replicate, List.length_set, bools_length, metL_length] <;> omega)) only [Sall,evalOp,init,binA_s,binE,binI,unE,convE,okNil,builtE,gv,TD.isAgg,resV,↓reduceIte,Nat.reduceEqDiff,reduceCtorEq,Nat.reduceAdd,Nat.reduceMul,Nat.reduceLeDiff,quietOp,blindOp,Int.reduceEq,Int.reduceLT,Int.reduceLE,Nat.reduceLT,tiA,tiXA, awpT_nil, awpT_one, awpT_run_nil, awpT_run_cons, h0, ekk, wn]
        refine awpT_two ?_ ?_
        · try simp (disch := first | omega | (simp only [ints_length, List.length_replicate, List.length_set, bools_length, metL_length] <;> omega)) only [Sall,evalOp,init,binA_s,binE,binI,unE,convE,okNil,builtE,gv,TD.isAgg,resV,↓reduceIte,Nat.reduceEqDiff,reduceCtorEq,Nat.reduceAdd,Nat.reduceMul,Nat.reduceLeDiff,quietOp,blindOp,Int.reduceEq,Int.reduceLT,Int.reduceLE,Nat.reduceLT,tiA,tiXA, awpT_nil, awpT_one, awpT_run_nil, awpT_run_cons, h0, h2, h3, h4, zeros_bools, zeros_zero, ← metL_nil]
          refine ⟨.inr (.inr (o3.sc.le _)), ⟨by omega, by omega, by omega⟩, .inr (.inr ((o3.sc.push _).le _)), H1.next, H1.next + 1, rfl, rfl, ?_⟩
          exact (o3.pushSl (k := 1) (n := 0) (ty := 2) (vs := ints []) rfl).pushSl (k := 1) (n := n) (ty := 4) (vs := bools (metL n [])) (by rw [bools_length, metL_length]; omega)
        · try simp (disch := first | omega | (simp only [ints_length, List.length_replicate, List.length_set, bools_length, metL_length] <;> omega)) only [Sall,evalOp,init,binA_s,binE,binI,unE,convE,okNil,builtE,gv,TD.isAgg,resV,↓reduceIte,Nat.reduceEqDiff,reduceCtorEq,Nat.reduceAdd,Nat.reduceMul,Nat.reduceLeDiff,quietOp,blindOp,Int.reduceEq,Int.reduceLT,Int.reduceLE,Nat.reduceLT,tiA,tiXA, awpT_nil, awpT_one, awpT_run_nil, awpT_run_cons, h0, h2, h3, h4, zeros_bools, zeros_zero, ← metL_nil]
          refine ⟨⟨by omega, by omega, by omega⟩, .inr (.inr (o3.sc.le _)), .inr (.inr ((o3.sc.push _).le _)), H1.next + 1, H1.next, rfl, rfl, ?_⟩
          have o4 := (o3.pushSl (k := 1) (n := n) (ty := 4) (vs := bools (metL n [])) (by rw [bools_length, metL_length]; omega)).pushSl (k := 1) (n := 0) (ty := 2) (vs := ints []) rfl
          refine o4.sub (fun j => if j = 3 then 4 else if j = 4 then 3 else j) (fun j hj => ?_) fun x y hx hy h => ?_
          · have hj : j < 5 := hj
            rcases j with _ | _ | _ | _ | _ | j
            · rfl
            · rfl
            · rfl
            · rfl
            · rfl
            · omega
          · split at h <;> split at h <;> (try split at h) <;> (try split at h) <;> omega
      rintro t H2 ⟨oi, mi, h5, h6, h4, h0, h2, h3, o4⟩
      try simp (disch := first | omega | (simp only [ints_length, List.length_replicate, List.length_set, bools_length, metL_length] <;> omega)) only [Sall,evalOp,init,binA_s,binE,binI,unE,convE,okNil,builtE,gv,TD.isAgg,resV,↓reduceIte,Nat.reduceEqDiff,reduceCtorEq,Nat.reduceAdd,Nat.reduceMul,Nat.reduceLeDiff,quietOp,blindOp,Int.reduceEq,Int.reduceLT,Int.reduceLE,Nat.reduceLT,tiA,tiXA, true_and]
      refine awp_loop (fun m' t H' => ∃ (a : Nat) (u : Value), m' = n - a ∧ a ≤ n ∧ t 7 = .int .i64 a ∧ t 5 = u ∧ t 6 = .slice (some ⟨mi, 0, some 1⟩) n n ∧ t 4 = .int .i64 i ∧ t 0 = .int .i64 k ∧ t 2 = .pointer (some ⟨c2, 0, none⟩) ∧ t 3 = .pointer (some ⟨ri, 0, none⟩) ∧ Ow H H' [.row c2 ⟨26, true, [.int .i64 0, .int .i64 0, .slice none 0 0]⟩, .sl2 (Value.int .i64) 28 2 w (grdL k i), .row ri ⟨26, true, [.int .i64 n, .int .i64 k, w]⟩, .sl 1 2 u (grA k i a).length (ints (grA k i a)), .sl 1 4 (.slice (some ⟨mi, 0, some 1⟩) n n) n (bools (metL n (grA k i a)))]) n ?_ ?_
      · refine ⟨0, .slice (some ⟨oi, 0, some 1⟩) 0 0, by omega, by omega, ?_⟩
        try simp (disch := first | omega | (simp only [ints_length, List.length_replicate, List.length_set, bools_length, metL_length] <;> omega)) only [Sall,evalOp,init,binA_s,binE,binI,unE,convE,okNil,builtE,gv,TD.isAgg,resV,↓reduceIte,Nat.reduceEqDiff,reduceCtorEq,Nat.reduceAdd,Nat.reduceMul,Nat.reduceLeDiff,quietOp,blindOp,Int.reduceEq,Int.reduceLT,Int.reduceLE,Nat.reduceLT,tiA,tiXA, Int.natCast_zero, h5, h6, h4, h0, h2, h3]
        exact o4
      · rintro m' t H3 ⟨a, u, hm', ha, h7, h5, h6, h4, h0, h2, h3, o5⟩
        try simp (disch := first | omega | (simp only [ints_length, List.length_replicate, List.length_set, bools_length, metL_length] <;> omega)) only [Sall,evalOp,init,binA_s,binE,binI,unE,convE,okNil,builtE,gv,TD.isAgg,resV,↓reduceIte,Nat.reduceEqDiff,reduceCtorEq,Nat.reduceAdd,Nat.reduceMul,Nat.reduceLeDiff,quietOp,blindOp,Int.reduceEq,Int.reduceLT,Int.reduceLE,Nat.reduceLT,tiA,tiXA, h7, h0, ekk, wn]
        refine condC_dec (fun hh2 => ?_) (fun hh2 => ?_)
        · have han : a < n := by omega
          have hbi := (o5.getV 4 rfl).2.2
          have hml : (metL n (grA k i a)).length = n := metL_length _ _
          have hm0 := metL_getD n (grA k i a) (a : Int) (by omega)
          have hm1 : (bools (metL n (grA k i a)))[a]? = some (.bool ((grA k i a).contains (a : Int))) := by
            rw [bools_get? _ _ (by omega)]
            rw [Int.toNat_natCast] at hm0
            rw [hm0]
          obtain ⟨hA1, hA2⟩ := grA_ok (k := k) (i := i) a (by omega)
          rw [← en] at hA1 hA2
          have hA3 : (grA k i a).length ≤ 25 * 25 := Nat.le_trans hA2 (Nat.mul_le_mul (by omega) (by omega))
          have hsucc := grA_succ k i a
          rw [← en] at hsucc
          cases hct : (grA k i a).contains (a : Int) with
          | true =>
            rw [hct] at hm1
            rw [if_pos hct] at hsucc
            try simp (disch := first | omega | (simp only [ints_length, List.length_replicate, List.length_set, bools_length, metL_length] <;> omega)) only [Sall,evalOp,init,binA_s,binE,binI,unE,convE,okNil,builtE,gv,TD.isAgg,resV,↓reduceIte,Nat.reduceEqDiff,reduceCtorEq,Nat.reduceAdd,Nat.reduceMul,Nat.reduceLeDiff,quietOp,blindOp,Int.reduceEq,Int.reduceLT,Int.reduceLE,Nat.reduceLT,tiA,tiXA, h7, h6, h5, h4, h0, h2, h3, hbi, hm1, w64]
            (repeat refine And.intro (by omega) ?_)
            try simp (disch := first | omega | (simp only [ints_length, List.length_replicate, List.length_set, bools_length, metL_length] <;> omega)) only [Sall,evalOp,init,binA_s,binE,binI,unE,convE,okNil,builtE,gv,TD.isAgg,resV,↓reduceIte,Nat.reduceEqDiff,reduceCtorEq,Nat.reduceAdd,Nat.reduceMul,Nat.reduceLeDiff,quietOp,blindOp,Int.reduceEq,Int.reduceLT,Int.reduceLE,Nat.reduceLT,tiA,tiXA, h7, h6, h5, h4, h0, h2, h3, hbi, hm1, w64]
            exact ⟨n - (a + 1), by omega, a + 1, u, by omega, by omega, by omega, rfl, by rw [hsucc]; exact o5⟩
          | false =>
            rw [hct] at hm1
            rw [if_neg (by rw [hct]; simp)] at hsucc
            try simp (disch := first | omega | (simp only [ints_length, List.length_replicate, List.length_set, bools_length, metL_length] <;> omega)) only [Sall,evalOp,init,binA_s,binE,binI,unE,convE,okNil,builtE,gv,TD.isAgg,resV,↓reduceIte,Nat.reduceEqDiff,reduceCtorEq,Nat.reduceAdd,Nat.reduceMul,Nat.reduceLeDiff,quietOp,blindOp,Int.reduceEq,Int.reduceLT,Int.reduceLE,Nat.reduceLT,tiA,tiXA, h7, h6, h5, h4, h0, h2, h3, hbi, hm1, w64]
            (repeat refine And.intro (by omega) ?_)
            try simp (disch := first | omega | (simp only [ints_length, List.length_replicate, List.length_set, bools_length, metL_length] <;> omega)) only [Sall,evalOp,init,binA_s,binE,binI,unE,convE,okNil,builtE,gv,TD.isAgg,resV,↓reduceIte,Nat.reduceEqDiff,reduceCtorEq,Nat.reduceAdd,Nat.reduceMul,Nat.reduceLeDiff,quietOp,blindOp,Int.reduceEq,Int.reduceLT,Int.reduceLE,Nat.reduceLT,tiA,tiXA, h7, h6, h5, h4, h0, h2, h3, hbi, hm1, w64]
            refine awp_loop (fun m2 t H' => ∃ (j : Nat) (u : Value), m2 = n - a - j ∧ a + j ≤ n ∧ t 8 = .int .i64 ((a + j : Nat) : Int) ∧ t 7 = .int .i64 a ∧ t 5 = u ∧ t 6 = .slice (some ⟨mi, 0, some 1⟩) n n ∧ t 4 = .int .i64 i ∧ t 0 = .int .i64 k ∧ t 2 = .pointer (some ⟨c2, 0, none⟩) ∧ t 3 = .pointer (some ⟨ri, 0, none⟩) ∧ Ow H H' [.row c2 ⟨26, true, [.int .i64 0, .int .i64 0, .slice none 0 0]⟩, .sl2 (Value.int .i64) 28 2 w (grdL k i), .row ri ⟨26, true, [.int .i64 n, .int .i64 k, w]⟩, .sl 1 2 u (grI k i a (grA k i a) j).length (ints (grI k i a (grA k i a) j)), .sl 1 4 (.slice (some ⟨mi, 0, some 1⟩) n n) n (bools (metL n (grI k i a (grA k i a) j)))]) (n - a) ?_ ?_
            · refine ⟨0, u, by omega, by omega, ?_⟩
              try simp (disch := first | omega | (simp only [ints_length, List.length_replicate, List.length_set, bools_length, metL_length] <;> omega)) only [Sall,evalOp,init,binA_s,binE,binI,unE,convE,okNil,builtE,gv,TD.isAgg,resV,↓reduceIte,Nat.reduceEqDiff,reduceCtorEq,Nat.reduceAdd,Nat.reduceMul,Nat.reduceLeDiff,quietOp,blindOp,Int.reduceEq,Int.reduceLT,Int.reduceLE,Nat.reduceLT,tiA,tiXA, Nat.add_zero, h7, h6, h5, h4, h0, h2, h3]
              exact o5
            · rintro m2 t H4 ⟨j, u, hm2, hj, h8, h7, h5, h6, h4, h0, h2, h3, o6⟩
              try simp (disch := first | omega | (simp only [ints_length, List.length_replicate, List.length_set, bools_length, metL_length] <;> omega)) only [Sall,evalOp,init,binA_s,binE,binI,unE,convE,okNil,builtE,gv,TD.isAgg,resV,↓reduceIte,Nat.reduceEqDiff,reduceCtorEq,Nat.reduceAdd,Nat.reduceMul,Nat.reduceLeDiff,quietOp,blindOp,Int.reduceEq,Int.reduceLT,Int.reduceLE,Nat.reduceLT,tiA,tiXA, h8, h0, ekk, wn]
              refine condC_dec (fun hh3 => ?_) (fun hh3 => ?_)
              · have hjn : a + j < n := by omega
                obtain ⟨hI1, hI2⟩ := grI_ok hA1 (k := k) (i := i) (a := a) j (by omega)
                have hIs := grI_succ k i a (grA k i a) j
                obtain ⟨d1, ed1⟩ : ∃ d1, d1 = (a + j) / k := ⟨_, rfl⟩
                obtain ⟨d2, ed2⟩ : ∃ d2, d2 = a / k := ⟨_, rfl⟩
                obtain ⟨m1, em1⟩ : ∃ m1, m1 = (a + j) % k := ⟨_, rfl⟩
                obtain ⟨m3, em3⟩ : ∃ m3, m3 = a % k := ⟨_, rfl⟩
                have dk1 : Int.tdiv ((a + j : Nat) : Int) (k : Int) = (d1 : Int) := by rw [ed1]; rfl
                have dk2 : Int.tdiv (a : Int) (k : Int) = (d2 : Int) := by rw [ed2]; rfl
                have mk1 : Int.tmod ((a + j : Nat) : Int) (k : Int) = (m1 : Int) := by rw [em1]; rfl
                have mk2 : Int.tmod (a : Int) (k : Int) = (m3 : Int) := by rw [em3]; rfl
                have hk0 : ¬ (k : Int) = 0 := by omega
                have b1 : d1 ≤ 25 := by have := Nat.div_le_self (a + j) k; rw [← ed1] at this; omega
                have b2 : d2 ≤ 25 := by have := Nat.div_le_self a k; rw [← ed2] at this; omega
                have b3 : m1 ≤ 25 := by have := Nat.mod_le (a + j) k; rw [← em1] at this; omega
                have b4 : m3 ≤ 25 := by have := Nat.mod_le a k; rw [← em3] at this; omega
                have wd : ∀ A : Int, -1000 ≤ A ∧ A ≤ 1000 → IntKind.i64.wrap A = A := fun A hA => w64 ⟨by omega, by omega⟩
                have w1 := wd (d1 : Int) (by omega)
                have w2 := wd (d2 : Int) (by omega)
                have w5 := wd ((d1 : Int) - (d2 : Int)) (by omega)
                have w6 := wd ((m1 : Int) - (m3 : Int)) (by omega)
                have eX : (d1 : Int) - (d2 : Int) = grX k a (a + j) := by rw [ed1, ed2]; rfl
                have eY : (m1 : Int) - (m3 : Int) = grY k a (a + j) := by rw [em1, em3]; rfl
                have eB : grB k i a (a + j) = ((decide ((i : Int) < (k : Int)) && (Int.tmod (grX k a (a + j) * (i : Int) - grY k a (a + j)) (k : Int) == 0)) || (((i : Int) == (k : Int)) && (grX k a (a + j) == 0))) := rfl
                rw [eX] at w5
                rw [eY] at w6
                have bX : -25 ≤ grX k a (a + j) ∧ grX k a (a + j) ≤ 25 := by omega
                have bY : -25 ≤ grY k a (a + j) ∧ grY k a (a + j) ≤ 25 := by omega
                generalize grX k a (a + j) = x at *
                generalize grY k a (a + j) = y at *
                generalize grB k i a (a + j) = bb at *
                have hik : i ≤ 5 := by omega
                have bXi : -500 ≤ x * (i : Int) ∧ x * (i : Int) ≤ 500 := by
                  have : i = 0 ∨ i = 1 ∨ i = 2 ∨ i = 3 ∨ i = 4 ∨ i = 5 := by omega
                  rcases this with rfl | rfl | rfl | rfl | rfl | rfl <;> omega
                have w7 := wd (x * (i : Int)) (by omega)
                have w8 := wd (x * (i : Int) - y) (by omega)
                clear ed1 ed2 em1 em3
                try simp (disch := first | omega | (simp only [ints_length, List.length_replicate, List.length_set, bools_length, metL_length] <;> omega)) only [Sall,evalOp,init,binA_s,binE,binI,unE,convE,okNil,builtE,gv,TD.isAgg,resV,↓reduceIte,Nat.reduceEqDiff,reduceCtorEq,Nat.reduceAdd,Nat.reduceMul,Nat.reduceLeDiff,quietOp,blindOp,Int.reduceEq,Int.reduceLT,Int.reduceLE,Nat.reduceLT,tiA,tiXA, true_and]
                refine awp_cutQ (fun t H' => t 9 = .int .i64 x ∧ t 10 = .int .i64 y ∧ t 8 = .int .i64 ((a + j : Nat) : Int) ∧ t 7 = .int .i64 a ∧ t 5 = u ∧ t 6 = .slice (some ⟨mi, 0, some 1⟩) n n ∧ t 4 = .int .i64 i ∧ t 0 = .int .i64 k ∧ t 2 = .pointer (some ⟨c2, 0, none⟩) ∧ t 3 = .pointer (some ⟨ri, 0, none⟩) ∧ Ow H H' [.row c2 ⟨26, true, [.int .i64 0, .int .i64 0, .slice none 0 0]⟩, .sl2 (Value.int .i64) 28 2 w (grdL k i), .row ri ⟨26, true, [.int .i64 n, .int .i64 k, w]⟩, .sl 1 2 u (grI k i a (grA k i a) j).length (ints (grI k i a (grA k i a) j)), .sl 1 4 (.slice (some ⟨mi, 0, some 1⟩) n n) n (bools (metL n (grI k i a (grA k i a) j)))]) ?_ ?_
                · refine draw_id (by kernel_rfl) (by kernel_rfl) ?_
                  try simp (disch := first | omega | (simp only [ints_length, List.length_replicate, List.length_set, bools_length, metL_length] <;> omega)) only [Sall,evalOp,init,binA_s,binE,binI,unE,convE,okNil,builtE,gv,TD.isAgg,resV,↓reduceIte,Nat.reduceEqDiff,reduceCtorEq,Nat.reduceAdd,Nat.reduceMul,Nat.reduceLeDiff,quietOp,blindOp,Int.reduceEq,Int.reduceLT,Int.reduceLE,Nat.reduceLT,tiA,tiXA, h8, h7, h5, h6, h4, h0, h2, h3, dk1, dk2, mk1, mk2, hk0, w1, w2, eX, eY, w5, w6]
                  exact o6
                rintro t H5 ⟨h9, h10, h8, h7, h5, h6, h4, h0, h2, h3, o7⟩
                rw [awp_seq]
                refine awp_cutQ (fun t H' => t 81 = .bool bb ∧ t 8 = .int .i64 ((a + j : Nat) : Int) ∧ t 7 = .int .i64 a ∧ t 5 = u ∧ t 6 = .slice (some ⟨mi, 0, some 1⟩) n n ∧ t 4 = .int .i64 i ∧ t 0 = .int .i64 k ∧ t 2 = .pointer (some ⟨c2, 0, none⟩) ∧ t 3 = .pointer (some ⟨ri, 0, none⟩) ∧ Ow H H' [.row c2 ⟨26, true, [.int .i64 0, .int .i64 0, .slice none 0 0]⟩, .sl2 (Value.int .i64) 28 2 w (grdL k i), .row ri ⟨26, true, [.int .i64 n, .int .i64 k, w]⟩, .sl 1 2 u (grI k i a (grA k i a) j).length (ints (grI k i a (grA k i a) j)), .sl 1 4 (.slice (some ⟨mi, 0, some 1⟩) n n) n (bools (metL n (grI k i a (grA k i a) j)))]) ?_ ?_
                · by_cases c1 : (i : Int) < (k : Int)
                  · have f1 : ((i : Int) == (k : Int)) = false := beq_eq_false_iff_ne.2 (by omega)
                    rw [decide_eq_true c1, f1, Bool.true_and, Bool.false_and, Bool.or_false] at eB
                    cases e2 : (Int.tmod (x * (i : Int) - y) (k : Int) == 0) with
                    | true =>
                      rw [e2] at eB
                      try simp (disch := first | omega | (simp only [ints_length, List.length_replicate, List.length_set, bools_length, metL_length] <;> omega)) only [Sall,evalOp,init,binA_s,binE,binI,unE,convE,okNil,builtE,gv,TD.isAgg,resV,↓reduceIte,Nat.reduceEqDiff,reduceCtorEq,Nat.reduceAdd,Nat.reduceMul,Nat.reduceLeDiff,quietOp,blindOp,Int.reduceEq,Int.reduceLT,Int.reduceLE,Nat.reduceLT,tiA,tiXA, h9, h10, h8, h7, h5, h6, h4, h0, h2, h3, c1, decide_true, w7, w8, hk0, e2]
                      exact ⟨eB.symm, o7⟩
                    | false =>
                      rw [e2] at eB
                      try simp (disch := first | omega | (simp only [ints_length, List.length_replicate, List.length_set, bools_length, metL_length] <;> omega)) only [Sall,evalOp,init,binA_s,binE,binI,unE,convE,okNil,builtE,gv,TD.isAgg,resV,↓reduceIte,Nat.reduceEqDiff,reduceCtorEq,Nat.reduceAdd,Nat.reduceMul,Nat.reduceLeDiff,quietOp,blindOp,Int.reduceEq,Int.reduceLT,Int.reduceLE,Nat.reduceLT,tiA,tiXA, h9, h10, h8, h7, h5, h6, h4, h0, h2, h3, c1, decide_true, w7, w8, hk0, e2, f1]
                      exact ⟨eB.symm, o7⟩
                  · have f1 : ((i : Int) == (k : Int)) = true := beq_iff_eq.2 (by omega)
                    rw [decide_eq_false c1, f1, Bool.true_and, Bool.false_and, Bool.false_or] at eB
                    cases e2 : (x == 0) with
                    | true =>
                      rw [e2] at eB
                      try simp (disch := first | omega | (simp only [ints_length, List.length_replicate, List.length_set, bools_length, metL_length] <;> omega)) only [Sall,evalOp,init,binA_s,binE,binI,unE,convE,okNil,builtE,gv,TD.isAgg,resV,↓reduceIte,Nat.reduceEqDiff,reduceCtorEq,Nat.reduceAdd,Nat.reduceMul,Nat.reduceLeDiff,quietOp,blindOp,Int.reduceEq,Int.reduceLT,Int.reduceLE,Nat.reduceLT,tiA,tiXA, h9, h10, h8, h7, h5, h6, h4, h0, h2, h3, c1, decide_false, e2, f1]
                      exact ⟨eB.symm, o7⟩
                    | false =>
                      rw [e2] at eB
                      try simp (disch := first | omega | (simp only [ints_length, List.length_replicate, List.length_set, bools_length, metL_length] <;> omega)) only [Sall,evalOp,init,binA_s,binE,binI,unE,convE,okNil,builtE,gv,TD.isAgg,resV,↓reduceIte,Nat.reduceEqDiff,reduceCtorEq,Nat.reduceAdd,Nat.reduceMul,Nat.reduceLeDiff,quietOp,blindOp,Int.reduceEq,Int.reduceLT,Int.reduceLE,Nat.reduceLT,tiA,tiXA, h9, h10, h8, h7, h5, h6, h4, h0, h2, h3, c1, decide_false, e2, f1]
                      exact ⟨eB.symm, o7⟩
                rintro t H6 ⟨h81, h8, h7, h5, h6, h4, h0, h2, h3, o6⟩
                have eaj : ((a + j : Nat) : Int) + 1 = ((a + (j + 1) : Nat) : Int) := by omega
                have weaj := wd ((a + (j + 1) : Nat) : Int) (by omega)
                cases hbb : bb with
                | false =>
                  rw [hbb] at h81 hIs
                  try simp (disch := first | omega | (simp only [ints_length, List.length_replicate, List.length_set, bools_length, metL_length] <;> omega)) only [Sall,evalOp,init,binA_s,binE,binI,unE,convE,okNil,builtE,gv,TD.isAgg,resV,↓reduceIte,Nat.reduceEqDiff,reduceCtorEq,Nat.reduceAdd,Nat.reduceMul,Nat.reduceLeDiff,quietOp,blindOp,Int.reduceEq,Int.reduceLT,Int.reduceLE,Nat.reduceLT,tiA,tiXA, h81, h8, h7, h5, h6, h4, h0, h2, h3, eaj, weaj]
                  refine ⟨n - a - (j + 1), by omega, j + 1, u, by omega, by omega, by omega, rfl, ?_⟩
                  rw [hIs, if_neg (by simp), List.append_nil]
                  exact o6
                | true =>
                  rw [hbb, if_pos rfl] at hIs
                  rw [hbb] at h81
                  have hbi := (o6.getV 4 rfl).2.2
                  have hu := o6.one 3 rfl
                  have g3 := metL_put n (grI k i a (grA k i a) j) ((a + j : Nat) : Int) (by omega)
                  rw [Int.toNat_natCast] at g3
                  have hml : (metL n (grI k i a (grA k i a) j)).length = n := metL_length _ _
                  have hput := o6.put 4 rfl (vs' := bools (metL n (grI k i a (grA k i a) j ++ [((a + j : Nat) : Int)]))) (by rw [bools_length, bools_length, metL_length, metL_length])
                  have zz : zeros 1 [.int .i64 0] = [.int .i64 0] := rfl
                  try simp (disch := first | omega | (simp only [ints_length, List.length_replicate, List.length_set, bools_length, metL_length] <;> omega)) only [Sall,evalOp,init,binA_s,binE,binI,unE,convE,okNil,builtE,gv,TD.isAgg,resV,↓reduceIte,Nat.reduceEqDiff,reduceCtorEq,Nat.reduceAdd,Nat.reduceMul,Nat.reduceLeDiff,quietOp,blindOp,Int.reduceEq,Int.reduceLT,Int.reduceLE,Nat.reduceLT,tiA,tiXA, h81, h8, h7, h5, h6, h4, h0, h2, h3, hbi, g3, hu, zz, slCells]
                  (repeat refine And.intro (by omega) ?_)
                  try simp (disch := first | omega | (simp only [ints_length, List.length_replicate, List.length_set, bools_length, metL_length] <;> omega)) only [Sall,evalOp,init,binA_s,binE,binI,unE,convE,okNil,builtE,gv,TD.isAgg,resV,↓reduceIte,Nat.reduceEqDiff,reduceCtorEq,Nat.reduceAdd,Nat.reduceMul,Nat.reduceLeDiff,quietOp,blindOp,Int.reduceEq,Int.reduceLT,Int.reduceLE,Nat.reduceLT,tiA,tiXA, h81, h8, h7, h5, h6, h4, h0, h2, h3, hbi, g3, hu, zz, slCells]
                  have hIl : (grI k i a (grA k i a) j).length ≤ 1000 := by omega
                  refine ⟨by rw [bools_length, metL_length]; omega, ?_⟩
                  refine (hput.tmp ⟨2, true, [.int .i64 ((a + j : Nat) : Int)]⟩).app 3 (c := 1) (ms := ints [((a + j : Nat) : Int)]) rfl rfl (by omega) rfl (by omega) (by decide) (by omega) ?_
                  intro v' H7 n7 o8
                  rw [ints_append] at o8
                  try simp (disch := first | omega | (simp only [ints_length, List.length_replicate, List.length_set, bools_length, metL_length] <;> omega)) only [Sall,evalOp,init,binA_s,binE,binI,unE,convE,okNil,builtE,gv,TD.isAgg,resV,↓reduceIte,Nat.reduceEqDiff,reduceCtorEq,Nat.reduceAdd,Nat.reduceMul,Nat.reduceLeDiff,quietOp,blindOp,Int.reduceEq,Int.reduceLT,Int.reduceLE,Nat.reduceLT,tiA,tiXA, h8, h7, h6, h4, h0, h2, h3, eaj, weaj]
                  refine ⟨n - a - (j + 1), by omega, j + 1, v', by omega, by omega, by omega, rfl, ?_⟩
                  rw [hIs, List.length_append]
                  exact o8
              · have hje : j = n - a := by omega
                try simp (disch := first | omega | (simp only [ints_length, List.length_replicate, List.length_set, bools_length, metL_length] <;> omega)) only [Sall,evalOp,init,binA_s,binE,binI,unE,convE,okNil,builtE,gv,TD.isAgg,resV,↓reduceIte,Nat.reduceEqDiff,reduceCtorEq,Nat.reduceAdd,Nat.reduceMul,Nat.reduceLeDiff,quietOp,blindOp,Int.reduceEq,Int.reduceLT,Int.reduceLE,Nat.reduceLT,tiA,tiXA, h7, h5, h6, h4, h0, h2, h3, w64]
                exact ⟨n - (a + 1), by omega, a + 1, u, by omega, by omega, by omega, rfl, by rw [hsucc, ← hje]; exact o6⟩
        · have hae : a = n := by omega
          rw [hae] at o5
          have g3 := (o5.rowAt 2 rfl).1
          have hu := o5.one 3 rfl
          have hw := (o5.rd2 1 rfl).one
          have zz : zeros 1 [.slice none 0 0] = [.slice none 0 0] := rfl
          have hq1 := cells_of_one hu
          have hq2 := noTuple_of_one hu
          have hq3 := fun r => ok_one (r := r) hu
          try simp (disch := first | omega | (simp only [ints_length, List.length_replicate, List.length_set, bools_length, metL_length] <;> omega)) only [Sall,evalOp,init,binA_s,binE,binI,unE,convE,okNil,builtE,gv,TD.isAgg,resV,↓reduceIte,Nat.reduceEqDiff,reduceCtorEq,Nat.reduceAdd,Nat.reduceMul,Nat.reduceLeDiff,quietOp,blindOp,Int.reduceEq,Int.reduceLT,Int.reduceLE,Nat.reduceLT,tiA,tiXA, h5, h3, g3, hu, hw, zz, hq1, hq2, hq3, slCells]
          refine (o5.tmp ⟨28, true, [u]⟩).app2 (l := grA k i n) 1 3 rfl rfl (by omega) rfl (by decide) (by rw [grdL_length]; omega) ?_
          intro v' H4 n4 o6
          have g3' := (o6.rowAt 2 rfl).1
          have hv' := (o6.rd2 1 rfl).one
          have nr : ¬ ri = H3.next := by have := (o5.rowAt 2 rfl).2.2; omega
          try simp (disch := first | omega | (simp only [ints_length, List.length_replicate, List.length_set, bools_length, metL_length] <;> omega)) only [Sall,evalOp,init,binA_s,binE,binI,unE,convE,okNil,builtE,gv,TD.isAgg,resV,↓reduceIte,Nat.reduceEqDiff,reduceCtorEq,Nat.reduceAdd,Nat.reduceMul,Nat.reduceLeDiff,quietOp,blindOp,Int.reduceEq,Int.reduceLT,Int.reduceLE,Nat.reduceLT,tiA,tiXA, h4, h0, h2, h3, g3', hv', w64]
          refine ⟨k + 1 - (i + 1), by omega, i + 1, v', by omega, by omega, by omega, ?_⟩
          have o7 := o6.putRow 2 rfl (cs' := [.int .i64 n, .int .i64 k, v'])
          rw [grdL_succ, ← en]
          exact Ow.left (L := [.row c2 ⟨26, true, [.int .i64 0, .int .i64 0, .slice none 0 0]⟩, .sl2 (Value.int .i64) 28 2 v' (grdL k i ++ [grA k i n]), .row ri ⟨26, true, [.int .i64 n, .int .i64 k, v']⟩]) o7
    · have hie : i = k + 1 := by omega
      rw [hie] at o3
      have g3 := (o3.rowAt 2 rfl).1
      have g2 := (o3.rowAt 0 rfl).1
      have hw := (o3.rd2 1 rfl).one
      try simp (disch := first | omega | (simp only [ints_length, List.length_replicate, List.length_set, bools_length, metL_length] <;> omega)) only [Sall,evalOp,init,binA_s,binE,binI,unE,convE,okNil,builtE,gv,TD.isAgg,resV,↓reduceIte,Nat.reduceEqDiff,reduceCtorEq,Nat.reduceAdd,Nat.reduceMul,Nat.reduceLeDiff,quietOp,blindOp,Int.reduceEq,Int.reduceLT,Int.reduceLE,Nat.reduceLT,tiA,tiXA, h2, h3, g3, g2, hw]
      exact ⟨w, rfl, (o3.putRow 0 rfl (cs' := [.int .i64 n, .int .i64 k, w])).only 1 rfl⟩
end Go.Proofs.YtollphjompimjaaGreat.A
end

section
set_option maxRecDepth 100000
namespace Go.Abs
def lnF (k i a : Nat) : Nat := if i = k then a / k else (a % k + (k - 1) * i * (a / k)) % k
def grG (k i j : Nat) : Nat → List Int
  | 0 => []
  | a + 1 => grG k i j a ++ if lnF k i a = j then [(a : Int)] else []
theorem grG_succ (k i j a : Nat) : grG k i j (a + 1) = grG k i j a ++ if lnF k i a = j then [(a : Int)] else [] := rfl
theorem grG_len (k i j : Nat) : ∀ a, (grG k i j a).length ≤ a
  | 0 => by simp [grG]
  | a + 1 => by
    rw [grG_succ, List.length_append]
    have := grG_len k i j a
    split
    · simp; omega
    · simp; omega
theorem lnF_lt {k i a : Nat} (hk : 0 < k) (ha : a < k * k) : lnF k i a < k := by
  unfold lnF
  split
  · rw [Nat.div_lt_iff_lt_mul hk]; exact ha
  · exact Nat.mod_lt _ hk
def grO (k i : Nat) : List Int := ((List.range k).map fun j => grG k i j (k * k)).flatten
def rawB (g : Nat) (l : List Int) (t : Nat) : List Int := (l.drop (t * g)).take g
def tidR (g : Nat) (l : List Int) : Nat → List Int
  | 0 => []
  | a + 1 => if (tidR g l a).contains (a : Int) = true then tidR g l a else tidR g l a ++ rawB g l (ixOf l (a : Int) / g)
theorem tidR_succ (g : Nat) (l : List Int) (a : Nat) : tidR g l (a + 1) = if (tidR g l a).contains (a : Int) = true then tidR g l a else tidR g l a ++ rawB g l (ixOf l (a : Int) / g) := rfl
theorem tid_raw {g c : Nat} {l : List Int} (hl : l.length = g * c) (h : ∀ t, t < c → (rawB g l t).Pairwise fun x y => x ≤ y) : ∀ a, tidF g l a = tidR g l a
  | 0 => rfl
  | a + 1 => by
    have hb : ∀ t, blkL g l t = rawB g l t := fun t => by
      by_cases ht : t < c
      · exact sortedL_eq (List.Perm.refl _) (h t ht)
      · have e : rawB g l t = [] := by
          unfold rawB
          have h2 : c * g ≤ t * g := Nat.mul_le_mul_right g (by omega)
          rw [Nat.mul_comm c g, ← hl] at h2
          rw [List.drop_eq_nil_of_le h2, List.take_nil]
        unfold blkL
        have e2 : (l.drop (t * g)).take g = [] := e
        rw [e, e2]; simp [sortedL]
    rw [tidF_succ, tidR_succ, tid_raw hl h a]
    unfold grpL
    rw [hb]
def grOk (k i : Nat) : Bool := decide ((grO k i).length = k * k) && ((grO k i).all fun x => decide (0 ≤ x ∧ x < ((k * k : Nat) : Int))) && decide (grO k i).Nodup && ((List.range k).all fun t => decide ((rawB k (grO k i) t).Pairwise fun x y => x ≤ y)) && (tidR k (grO k i) (k * k) == grA k i (k * k)) && ((List.range k).all fun j => decide (0 < (grG k i j (k * k)).length))
theorem gr_all : (((List.range 3).all (grOk 2)) && ((List.range 4).all (grOk 3)) && ((List.range 6).all (grOk 5))) = true := by decide +kernel
theorem gr_facts {k i : Nat} (hk : k = 2 ∨ k = 3 ∨ k = 5) (hi : i < k + 1) : ordB (k * k) (grO k i) = true ∧ tidF k (grO k i) (k * k) = grA k i (k * k) ∧ ∀ j, j < k → 0 < (grG k i j (k * k)).length := by
  have h := gr_all
  rw [Bool.and_eq_true, Bool.and_eq_true, List.all_eq_true, List.all_eq_true, List.all_eq_true] at h
  have hok : grOk k i = true := by
    rcases hk with rfl | rfl | rfl
    · exact h.1.1 i (by simpa using hi)
    · exact h.1.2 i (by simpa using hi)
    · exact h.2 i (by simpa using hi)
  unfold grOk at hok
  simp only [Bool.and_eq_true, List.all_eq_true, decide_eq_true_iff, beq_iff_eq, List.mem_range] at hok
  obtain ⟨⟨⟨⟨⟨h1, h2⟩, h3⟩, h4⟩, h5⟩, h6⟩ := hok
  exact ⟨(ordB_iff _ _).2 ⟨h1, h2, h3⟩, by rw [tid_raw h1 h4]; exact h5, h6⟩
end Go.Abs
end

section
set_option maxRecDepth 100000
set_option maxHeartbeats 2000000
namespace Go.Proofs.YtollphjompimjaaGreat.A
open Go Go.Abs Go.RowKit
theorem getM {α : Type} (A : List α) (f : Nat → α) {k r b : Nat} (hb : A.length = b) (hr : r < k) : (A ++ (List.range k).map f)[b + r]? = some (f r) := by
  rw [List.getElem?_append_right (by omega), show b + r - A.length = r by omega]
  simp [hr]
theorem setM {α : Type} (A : List α) (f : Nat → α) (x : α) {k r b : Nat} (hb : A.length = b) : (A ++ (List.range k).map f).set (b + r) x = A ++ (List.range k).map (fun j => if j = r then x else f j) := by
  rw [List.set_append_right _ _ (by omega), show b + r - A.length = r by omega]
  congr 1
  refine List.ext_getElem? fun j => ?_
  rw [List.getElem?_set]
  by_cases hj : j < k
  · by_cases h : r = j
    · subst h
      simp [hj]
    · have h' : ¬ j = r := fun e => h e.symm
      simp [hj, h, h']
  · by_cases h : r = j
    · subst h
      simp [hj]
    · simp [hj, h]
theorem Ow.addNils {B H : AH} {A : List Th} (h : Ow B H A) (ty : TypeId) : ∀ k, Ow B H (A ++ (List.range k).map fun _ => .sl 1 ty (.slice none 0 0) 0 [])
  | 0 => by simpa using h
  | k + 1 => by
    have := (Ow.addNils h ty k).addNil 1 ty
    rw [List.range_succ, List.map_append, ← List.append_assoc]
    exact this
theorem condC_cutZ {P : Program} {A : Code} {Q : Exit → T → AH → Prop} {N : T → AH → Prop} {t : T} {H : AH} {b : Bool} (M : T → AH → Prop) (hf : b = false → M t H) (ht : b = true → awp P A (seqQ M Q) t H) (hN : ∀ t H, M t H → N t H) :
    condC (some (.bool b)) (awp P A (seqQ N Q) t H) (N t H) := by
  cases b with
  | false => exact hN _ _ (hf rfl)
  | true => exact awp_mono A _ _ t H (seqQ_mono hN fun _ _ _ h => h) (ht rfl)
def gridC (k : Int) : Int := if k = 2 ∨ k = 3 ∨ k = 5 then 0 else 2
def gridL (k : Int) : List (List Int) := if k = 2 ∨ k = 3 ∨ k = 5 then grdL k.toNat (k.toNat + 1) else []
def gridQ (k : Int) : Int := if k = 2 ∨ k = 3 ∨ k = 5 then k * k else 0
def gridG (k : Int) : Int := if k = 2 ∨ k = 3 ∨ k = 5 then k else 0
theorem specGridOf_c (k : Int) (H : AH) :
    ACalls Tryz.prog 22 [.int .i64 k] H (fun r H' => ∃ u, r = .tuple #[.agg #[.int .i64 (gridQ k), .int .i64 (gridG k), u], .int .i64 (gridC k)] ∧ Ow H H' [.sl2 (Value.int .i64) 28 2 u (gridL k)]) := by
  refine ACalls.wf (by kernel_rfl) fun hs => acalls_of_awp [.cell 2 26, .tmp 3] Tryz.func22 (by kernel_rfl) rfl rfl (Nat.le_of_ble_eq_true rfl) (by kernel_rfl) ?_
  have o1 := (Ow.refl hs).push ⟨26, true, [.int .i64 0, .int .i64 0, .slice none 0 0]⟩
  rw [awp_seq]
  refine awp_cutQ (fun t H' => t 0 = .int .i64 k ∧ t 2 = .pointer (some ⟨H.next, 0, none⟩) ∧ t 3 = .int .i64 0 ∧ H' = H.push ⟨26, true, [.int .i64 0, .int .i64 0, .slice none 0 0]⟩) ?_ ?_
  · try simp (disch := first | omega | (simp only [ints_length, List.length_replicate, List.length_set, List.length_map, List.length_range] <;> omega)) only [Sall,evalOp,init,binA_s,binE,binI,unE,convE,okNil,builtE,gv,TD.isAgg,resV,↓reduceIte,Nat.reduceEqDiff,reduceCtorEq,Nat.reduceAdd,Nat.reduceMul,Nat.reduceLeDiff,quietOp,blindOp,Int.reduceEq,Int.reduceLT,Int.reduceLE,Nat.reduceLT,tiA,tiXA, true_and]
  rintro t H1 ⟨h0, h2, h3, eH1⟩
  rw [← eH1] at o1
  clear eH1
  obtain ⟨c2, ec2⟩ : ∃ c2, c2 = H.next := ⟨_, rfl⟩
  rw [← ec2] at o1 h2
  have o1 : Ow H H1 [.row c2 ⟨26, true, [.int .i64 0, .int .i64 0, .slice none 0 0]⟩] := o1
  have g1 := (o1.rowAt 0 rfl).1
  by_cases hk : k = 2 ∨ k = 3 ∨ k = 5
  · obtain ⟨kN, rfl⟩ : ∃ kN : Nat, k = kN := ⟨k.toNat, by omega⟩
    unfold gridC gridL gridQ gridG
    rw [if_pos hk, if_pos hk, if_pos hk, if_pos hk, Int.toNat_natCast]
    refine awp_cut (fun t H' => t 0 = .int .i64 kN ∧ t 2 = .pointer (some ⟨c2, 0, none⟩) ∧ H' = H1) ?_ ?_
    · rcases hk with h | h | h
      · try simp (disch := first | omega | (simp only [ints_length, List.length_replicate, List.length_set, List.length_map, List.length_range] <;> omega)) only [Sall,evalOp,init,binA_s,binE,binI,unE,convE,okNil,builtE,gv,TD.isAgg,resV,↓reduceIte,Nat.reduceEqDiff,reduceCtorEq,Nat.reduceAdd,Nat.reduceMul,Nat.reduceLeDiff,quietOp,blindOp,Int.reduceEq,Int.reduceLT,Int.reduceLE,Nat.reduceLT,tiA,tiXA, h0, h2, h3, h, bne_self_eq_false, Bool.false_and]
      · have e1 : ((3 : Int) != 2) = true := rfl
        try simp (disch := first | omega | (simp only [ints_length, List.length_replicate, List.length_set, List.length_map, List.length_range] <;> omega)) only [Sall,evalOp,init,binA_s,binE,binI,unE,convE,okNil,builtE,gv,TD.isAgg,resV,↓reduceIte,Nat.reduceEqDiff,reduceCtorEq,Nat.reduceAdd,Nat.reduceMul,Nat.reduceLeDiff,quietOp,blindOp,Int.reduceEq,Int.reduceLT,Int.reduceLE,Nat.reduceLT,tiA,tiXA, h0, h2, h3, h, bne_self_eq_false, Bool.false_and, e1]
      · have e1 : ((5 : Int) != 2) = true := rfl
        have e2 : ((5 : Int) != 3) = true := rfl
        try simp (disch := first | omega | (simp only [ints_length, List.length_replicate, List.length_set, List.length_map, List.length_range] <;> omega)) only [Sall,evalOp,init,binA_s,binE,binI,unE,convE,okNil,builtE,gv,TD.isAgg,resV,↓reduceIte,Nat.reduceEqDiff,reduceCtorEq,Nat.reduceAdd,Nat.reduceMul,Nat.reduceLeDiff,quietOp,blindOp,Int.reduceEq,Int.reduceLT,Int.reduceLE,Nat.reduceLT,tiA,tiXA, h0, h2, h3, h, bne_self_eq_false, Bool.false_and, e1, e2]
    rintro t H1' ⟨h0, h2, rfl⟩
    try simp (disch := first | omega | (simp only [ints_length, List.length_replicate, List.length_set, List.length_map, List.length_range] <;> omega)) only [Sall,evalOp,init,binA_s,binE,binI,unE,convE,okNil,builtE,gv,TD.isAgg,resV,↓reduceIte,Nat.reduceEqDiff,reduceCtorEq,Nat.reduceAdd,Nat.reduceMul,Nat.reduceLeDiff,quietOp,blindOp,Int.reduceEq,Int.reduceLT,Int.reduceLE,Nat.reduceLT,tiA,tiXA, h0]
    refine (l08Grid_c kN (by omega) _).ex ?_
    rintro u H2 o2
    have hu := (o2.rd2 0 rfl).one
    have o3 := o1.call o2
    have g2 := (o3.rowAt 0 rfl).1
    refine Holds.mp ?_
    try simp (disch := first | omega | (simp only [ints_length, List.length_replicate, List.length_set, List.length_map, List.length_range] <;> omega)) only [Sall,evalOp,init,binA_s,binE,binI,unE,convE,okNil,builtE,gv,TD.isAgg,resV,↓reduceIte,Nat.reduceEqDiff,reduceCtorEq,Nat.reduceAdd,Nat.reduceMul,Nat.reduceLeDiff,quietOp,blindOp,Int.reduceEq,Int.reduceLT,Int.reduceLE,Nat.reduceLT,tiA,tiXA, h0, h2, hu, g2]
    refine ⟨u, ?_, (o3.putRow 0 rfl (cs' := [.int .i64 ((kN * kN : Nat) : Int), .int .i64 kN, u])).only 1 rfl⟩
    rw [Int.natCast_mul]
  · unfold gridC gridL gridQ gridG
    rw [if_neg hk, if_neg hk, if_neg hk, if_neg hk]
    have e1 : (k != 2) = true := bne_iff_ne.2 (by omega)
    have e2 : (k != 3) = true := bne_iff_ne.2 (by omega)
    have e3 : (k != 5) = true := bne_iff_ne.2 (by omega)
    try simp (disch := first | omega | (simp only [ints_length, List.length_replicate, List.length_set, List.length_map, List.length_range] <;> omega)) only [Sall,evalOp,init,binA_s,binE,binI,unE,convE,okNil,builtE,gv,TD.isAgg,resV,↓reduceIte,Nat.reduceEqDiff,reduceCtorEq,Nat.reduceAdd,Nat.reduceMul,Nat.reduceLeDiff,quietOp,blindOp,Int.reduceEq,Int.reduceLT,Int.reduceLE,Nat.reduceLT,tiA,tiXA, h0, h2, h3, e1, e2, e3, g1]
    exact ⟨_, rfl, (Ow.left (L := []) (o1.putRow 0 rfl (cs' := [.int .i64 0, .int .i64 0, .slice none 0 0]))).addNil2⟩
theorem GridOf_c (k : Int) (H : AH) :
    ACalls Tryz.prog 21 [.int .i64 k] H (fun r H' => ∃ u, r = .tuple #[.agg #[.int .i64 (gridQ k), .int .i64 (gridG k), u], .int .i64 (gridC k)] ∧ Ow H H' [.sl2 (Value.int .i64) 28 2 u (gridL k)]) := by
  refine ACalls.wf (by kernel_rfl) fun hs => acalls_of_awp [.cell 2 26, .tmp 3] Tryz.func21 (by kernel_rfl) rfl rfl (Nat.le_of_ble_eq_true rfl) (by kernel_rfl) ?_
  have o1 := (Ow.refl hs).push ⟨26, true, [.int .i64 0, .int .i64 0, .slice none 0 0]⟩
  rw [awp_seq]
  refine awp_cutQ (fun t H' => t 0 = .int .i64 k ∧ t 2 = .pointer (some ⟨H.next, 0, none⟩) ∧ t 3 = .int .i64 0 ∧ H' = H.push ⟨26, true, [.int .i64 0, .int .i64 0, .slice none 0 0]⟩) ?_ ?_
  · try simp (disch := first | omega | (simp only [ints_length, List.length_replicate, List.length_set, List.length_map, List.length_range] <;> omega)) only [Sall,evalOp,init,binA_s,binE,binI,unE,convE,okNil,builtE,gv,TD.isAgg,resV,↓reduceIte,Nat.reduceEqDiff,reduceCtorEq,Nat.reduceAdd,Nat.reduceMul,Nat.reduceLeDiff,quietOp,blindOp,Int.reduceEq,Int.reduceLT,Int.reduceLE,Nat.reduceLT,tiA,tiXA, true_and]
  rintro t H1 ⟨h0, h2, h3, eH1⟩
  rw [← eH1] at o1
  clear eH1
  obtain ⟨c2, ec2⟩ : ∃ c2, c2 = H.next := ⟨_, rfl⟩
  rw [← ec2] at o1 h2
  have o1 : Ow H H1 [.row c2 ⟨26, true, [.int .i64 0, .int .i64 0, .slice none 0 0]⟩] := o1
  have g1 := (o1.rowAt 0 rfl).1
  by_cases hk : k = 2 ∨ k = 3 ∨ k = 5
  · obtain ⟨kN, rfl⟩ : ∃ kN : Nat, k = kN := ⟨k.toNat, by omega⟩
    unfold gridC gridL gridQ gridG
    rw [if_pos hk, if_pos hk, if_pos hk, if_pos hk, Int.toNat_natCast]
    refine awp_cut (fun t H' => t 0 = .int .i64 kN ∧ t 2 = .pointer (some ⟨c2, 0, none⟩) ∧ H' = H1) ?_ ?_
    · rcases hk with h | h | h
      · try simp (disch := first | omega | (simp only [ints_length, List.length_replicate, List.length_set, List.length_map, List.length_range] <;> omega)) only [Sall,evalOp,init,binA_s,binE,binI,unE,convE,okNil,builtE,gv,TD.isAgg,resV,↓reduceIte,Nat.reduceEqDiff,reduceCtorEq,Nat.reduceAdd,Nat.reduceMul,Nat.reduceLeDiff,quietOp,blindOp,Int.reduceEq,Int.reduceLT,Int.reduceLE,Nat.reduceLT,tiA,tiXA, h0, h2, h3, h, bne_self_eq_false, Bool.false_and]
      · have e1 : ((3 : Int) != 2) = true := rfl
        try simp (disch := first | omega | (simp only [ints_length, List.length_replicate, List.length_set, List.length_map, List.length_range] <;> omega)) only [Sall,evalOp,init,binA_s,binE,binI,unE,convE,okNil,builtE,gv,TD.isAgg,resV,↓reduceIte,Nat.reduceEqDiff,reduceCtorEq,Nat.reduceAdd,Nat.reduceMul,Nat.reduceLeDiff,quietOp,blindOp,Int.reduceEq,Int.reduceLT,Int.reduceLE,Nat.reduceLT,tiA,tiXA, h0, h2, h3, h, bne_self_eq_false, Bool.false_and, e1]
      · have e1 : ((5 : Int) != 2) = true := rfl
        have e2 : ((5 : Int) != 3) = true := rfl
        try simp (disch := first | omega | (simp only [ints_length, List.length_replicate, List.length_set, List.length_map, List.length_range] <;> omega)) only [Sall,evalOp,init,binA_s,binE,binI,unE,convE,okNil,builtE,gv,TD.isAgg,resV,↓reduceIte,Nat.reduceEqDiff,reduceCtorEq,Nat.reduceAdd,Nat.reduceMul,Nat.reduceLeDiff,quietOp,blindOp,Int.reduceEq,Int.reduceLT,Int.reduceLE,Nat.reduceLT,tiA,tiXA, h0, h2, h3, h, bne_self_eq_false, Bool.false_and, e1, e2]
    rintro t H1' ⟨h0, h2, rfl⟩
    have hkN : kN = 2 ∨ kN = 3 ∨ kN = 5 := by omega
    generalize kN = k at *
    obtain ⟨n, en⟩ : ∃ n, n = k * k := ⟨_, rfl⟩
    have hn : 4 ≤ n ∧ n ≤ 25 := by rcases hkN with rfl | rfl | rfl <;> omega
    have ekk : (k : Int) * (k : Int) = (n : Int) := by rw [en]; exact (Int.natCast_mul _ _).symm
    rw [ekk]
    have wn : IntKind.i64.wrap (n : Int) = n := w64 ⟨by omega, by omega⟩
    have wd : ∀ A : Int, -10000 ≤ A ∧ A ≤ 10000 → IntKind.i64.wrap A = A := fun A hA => w64 ⟨by omega, by omega⟩
    have z1 : zeros 1 [.slice none 0 0] = [.slice none 0 0] := rfl
    have wk1 : IntKind.i64.wrap ((k : Int) + 1) = (k : Int) + 1 := wd _ (by omega)
    try simp (disch := first | omega | (simp only [ints_length, List.length_replicate, List.length_set, List.length_map, List.length_range] <;> omega)) only [Sall,evalOp,init,binA_s,binE,binI,unE,convE,okNil,builtE,gv,TD.isAgg,resV,↓reduceIte,Nat.reduceEqDiff,reduceCtorEq,Nat.reduceAdd,Nat.reduceMul,Nat.reduceLeDiff,quietOp,blindOp,Int.reduceEq,Int.reduceLT,Int.reduceLE,Nat.reduceLT,tiA,tiXA, h0, ekk, wn, wk1]
    have o2 := (o1.addNil2 (ty := 28) (ty' := 2) |>.push ⟨26, true, [.int .i64 0, .int .i64 0, .slice none 0 0]⟩).putRow 2 rfl (cs' := [.int .i64 n, .int .i64 k, .slice none 0 0])
    have o2 : Ow H _ [.row c2 ⟨26, true, [.int .i64 0, .int .i64 0, .slice none 0 0]⟩, .sl2 (Value.int .i64) 28 2 (.slice none 0 0) (grdL k 0), .row H1'.next ⟨26, true, [.int .i64 n, .int .i64 k, .slice none 0 0]⟩] := o2
    refine awp_loop (fun m t H' => ∃ (i : Nat) (w : Value) (ri : Nat), m = k + 1 - i ∧ i ≤ k + 1 ∧ t 27 = .int .i64 i ∧ t 26 = .int .i64 ((k : Int) + 1) ∧ t 0 = .int .i64 k ∧ t 2 = .pointer (some ⟨c2, 0, none⟩) ∧ t 4 = .pointer (some ⟨ri, 0, none⟩) ∧ Ow H H' [.row c2 ⟨26, true, [.int .i64 0, .int .i64 0, .slice none 0 0]⟩, .sl2 (Value.int .i64) 28 2 w (grdL k i), .row ri ⟨26, true, [.int .i64 n, .int .i64 k, w]⟩]) (k + 1) ?_ ?_
    · refine ⟨0, .slice none 0 0, H1'.next, by omega, by omega, ?_⟩
      try simp (disch := first | omega | (simp only [ints_length, List.length_replicate, List.length_set, List.length_map, List.length_range] <;> omega)) only [Sall,evalOp,init,binA_s,binE,binI,unE,convE,okNil,builtE,gv,TD.isAgg,resV,↓reduceIte,Nat.reduceEqDiff,reduceCtorEq,Nat.reduceAdd,Nat.reduceMul,Nat.reduceLeDiff,quietOp,blindOp,Int.reduceEq,Int.reduceLT,Int.reduceLE,Nat.reduceLT,tiA,tiXA, Int.natCast_zero, h2, h0]
      exact o2
    · rintro m t H1 ⟨i, w, ri, hm, hi, h27, h26, h0, h2, h4, o3⟩
      try simp (disch := first | omega | (simp only [ints_length, List.length_replicate, List.length_set, List.length_map, List.length_range] <;> omega)) only [Sall,evalOp,init,binA_s,binE,binI,unE,convE,okNil,builtE,gv,TD.isAgg,resV,↓reduceIte,Nat.reduceEqDiff,reduceCtorEq,Nat.reduceAdd,Nat.reduceMul,Nat.reduceLeDiff,quietOp,blindOp,Int.reduceEq,Int.reduceLT,Int.reduceLE,Nat.reduceLT,tiA,tiXA, h27, h26]
      refine condC_dec (fun hh => ?_) (fun hh => ?_)
      · have hik : i < k + 1 := by omega
        obtain ⟨hf1, hf2, hf3⟩ := gr_facts hkN hik
        rw [← en] at hf1 hf2 hf3
        try simp (disch := first | omega | (simp only [ints_length, List.length_replicate, List.length_set, List.length_map, List.length_range] <;> omega)) only [Sall,evalOp,init,binA_s,binE,binI,unE,convE,okNil,builtE,gv,TD.isAgg,resV,↓reduceIte,Nat.reduceEqDiff,reduceCtorEq,Nat.reduceAdd,Nat.reduceMul,Nat.reduceLeDiff,quietOp,blindOp,Int.reduceEq,Int.reduceLT,Int.reduceLE,Nat.reduceLT,tiA,tiXA, h27, h26, h0, h2, h4, zeros_nil]
        refine ⟨⟨by omega, by omega, by omega⟩, ?_⟩
        have o4 := o3.pushSl (k := 1) (n := k) (ty := 28) (vs := (List.range k).map fun _ => .slice none 0 0) (by simp)
        have o4 := Ow.addNils o4 2 k
        have er : List.replicate k (Value.slice none 0 0) = (List.range k).map fun _ => Value.slice none 0 0 := by
          refine List.ext_getElem (by simp) fun j _ _ => by simp
        rw [er]
        refine awp_loop (fun m' t H' => ∃ (a : Nat) (vs : Nat → Value) (gi : Nat), m' = n - a ∧ a ≤ n ∧ t 35 = .int .i64 a ∧ t 34 = .int .i64 n ∧ t 5 = .int .i64 i ∧ t 6 = .slice (some ⟨gi, 0, some 1⟩) k k ∧ t 27 = .int .i64 i ∧ t 26 = .int .i64 ((k : Int) + 1) ∧ t 0 = .int .i64 k ∧ t 2 = .pointer (some ⟨c2, 0, none⟩) ∧ t 4 = .pointer (some ⟨ri, 0, none⟩) ∧ Ow H H' ([.row c2 ⟨26, true, [.int .i64 0, .int .i64 0, .slice none 0 0]⟩, .sl2 (Value.int .i64) 28 2 w (grdL k i), .row ri ⟨26, true, [.int .i64 n, .int .i64 k, w]⟩, .sl 1 28 (.slice (some ⟨gi, 0, some 1⟩) k k) k ((List.range k).map vs)] ++ (List.range k).map fun j => Th.sl 1 2 (vs j) (grG k i j a).length (ints (grG k i j a)))) n ?_ ?_
        · refine ⟨0, fun _ => .slice none 0 0, H1.next, by omega, by omega, ?_⟩
          try simp (disch := first | omega | (simp only [ints_length, List.length_replicate, List.length_set, List.length_map, List.length_range] <;> omega)) only [Sall,evalOp,init,binA_s,binE,binI,unE,convE,okNil,builtE,gv,TD.isAgg,resV,↓reduceIte,Nat.reduceEqDiff,reduceCtorEq,Nat.reduceAdd,Nat.reduceMul,Nat.reduceLeDiff,quietOp,blindOp,Int.reduceEq,Int.reduceLT,Int.reduceLE,Nat.reduceLT,tiA,tiXA, Int.natCast_zero, h27, h26, h0, h2, h4, ekk, wn]
          exact o4
        · rintro m' t H2 ⟨a, vs, gi, hm', ha, h35, h34, h5, h6, h27, h26, h0, h2, h4, o5⟩
          try simp (disch := first | omega | (simp only [ints_length, List.length_replicate, List.length_set, List.length_map, List.length_range] <;> omega)) only [Sall,evalOp,init,binA_s,binE,binI,unE,convE,okNil,builtE,gv,TD.isAgg,resV,↓reduceIte,Nat.reduceEqDiff,reduceCtorEq,Nat.reduceAdd,Nat.reduceMul,Nat.reduceLeDiff,quietOp,blindOp,Int.reduceEq,Int.reduceLT,Int.reduceLE,Nat.reduceLT,tiA,tiXA, h35, h34]
          refine condC_dec (fun hh2 => ?_) (fun hh2 => ?_)
          · have han : a < n := by omega
            have hlt := lnF_lt (k := k) (i := i) (a := a) (by omega) (by omega)
            obtain ⟨d1, ed1⟩ : ∃ d1, d1 = a / k := ⟨_, rfl⟩
            obtain ⟨m1, em1⟩ : ∃ m1, m1 = a % k := ⟨_, rfl⟩
            obtain ⟨p1, ep1⟩ : ∃ p1, p1 = (k - 1) * i := ⟨_, rfl⟩
            obtain ⟨p2, ep2⟩ : ∃ p2, p2 = p1 * d1 := ⟨_, rfl⟩
            obtain ⟨s1, es1⟩ : ∃ s1, s1 = m1 + p2 := ⟨_, rfl⟩
            obtain ⟨r1, er1⟩ : ∃ r1, r1 = s1 % k := ⟨_, rfl⟩
            have eln : lnF k i a = if i = k then d1 else r1 := by unfold lnF; rw [er1, es1, ep2, ep1, em1, ed1]
            have b1 : d1 ≤ 25 := by have := Nat.div_le_self a k; omega
            have b2 : p1 ≤ 100 := by rw [ep1]; exact Nat.le_trans (Nat.mul_le_mul (show k - 1 ≤ 5 by omega) (show i ≤ 6 by omega)) (by omega)
            have b3 : p2 ≤ 2500 := by rw [ep2]; exact Nat.mul_le_mul b2 b1
            have b4 : m1 ≤ 25 := by have := Nat.mod_le a k; omega
            have b5 : r1 ≤ 2600 := by have := Nat.mod_le s1 k; omega
            have x1 : Int.tdiv (a : Int) (k : Int) = (d1 : Int) := by rw [ed1]; rfl
            have x2 : Int.tmod (a : Int) (k : Int) = (m1 : Int) := by rw [em1]; rfl
            have x3 : (k : Int) - 1 = ((k - 1 : Nat) : Int) := by omega
            have x4 : ((k - 1 : Nat) : Int) * (i : Int) = (p1 : Int) := by rw [ep1]; exact (Int.natCast_mul _ _).symm
            have x5 : (p1 : Int) * (d1 : Int) = (p2 : Int) := by rw [ep2]; exact (Int.natCast_mul _ _).symm
            have x6 : (m1 : Int) + (p2 : Int) = (s1 : Int) := by omega
            have x7 : Int.tmod (s1 : Int) (k : Int) = (r1 : Int) := by rw [er1]; rfl
            have hk0 : ¬ (k : Int) = 0 := by omega
            have y0 := wd ((k - 1 : Nat) : Int) (by omega)
            have y1 := wd (d1 : Int) (by omega)
            have y2 := wd (m1 : Int) (by omega)
            have y4 := wd (p1 : Int) (by omega)
            have y5 := wd (p2 : Int) (by omega)
            have y6 := wd (s1 : Int) (by omega)
            have y7 := wd (r1 : Int) (by omega)
            have y8 := wd ((a : Int) + 1) (by omega)
            clear ed1 em1 ep1 ep2 es1 er1
            try simp (disch := first | omega | (simp only [ints_length, List.length_replicate, List.length_set, List.length_map, List.length_range] <;> omega)) only [Sall,evalOp,init,binA_s,binE,binI,unE,convE,okNil,builtE,gv,TD.isAgg,resV,↓reduceIte,Nat.reduceEqDiff,reduceCtorEq,Nat.reduceAdd,Nat.reduceMul,Nat.reduceLeDiff,quietOp,blindOp,Int.reduceEq,Int.reduceLT,Int.reduceLE,Nat.reduceLT,tiA,tiXA, true_and]
            refine draw_id (by kernel_rfl) (by kernel_rfl) ?_
            try simp (disch := first | omega | (simp only [ints_length, List.length_replicate, List.length_set, List.length_map, List.length_range] <;> omega)) only [Sall,evalOp,init,binA_s,binE,binI,unE,convE,okNil,builtE,gv,TD.isAgg,resV,↓reduceIte,Nat.reduceEqDiff,reduceCtorEq,Nat.reduceAdd,Nat.reduceMul,Nat.reduceLeDiff,quietOp,blindOp,Int.reduceEq,Int.reduceLT,Int.reduceLE,Nat.reduceLT,tiA,tiXA, h35, h34, h5, h6, h27, h26, h0, h2, h4, x1, x2, x3, x4, x5, x6, x7, hk0, y0, y1, y2, y4, y5, y6, y7]
            refine condC_cutZ (fun t H' => H' = H2 ∧ t 8 = .int .i64 ((lnF k i a : Nat) : Int) ∧ t 7 = .int .i64 a ∧ t 35 = .int .i64 a ∧ t 34 = .int .i64 n ∧ t 5 = .int .i64 i ∧ t 6 = .slice (some ⟨gi, 0, some 1⟩) k k ∧ t 27 = .int .i64 i ∧ t 26 = .int .i64 ((k : Int) + 1) ∧ t 0 = .int .i64 k ∧ t 2 = .pointer (some ⟨c2, 0, none⟩) ∧ t 4 = .pointer (some ⟨ri, 0, none⟩)) (fun hb => ?_) (fun hb => ?_) ?_
            · have hik2 : ¬ i = k := fun e => by rw [e, beq_self_eq_true] at hb; exact absurd hb (by decide)
              rw [if_neg hik2] at eln
              rw [eln]
              refine ⟨rfl, ?_⟩
              try simp (disch := first | omega | (simp only [ints_length, List.length_replicate, List.length_set, List.length_map, List.length_range] <;> omega)) only [Sall,evalOp,init,binA_s,binE,binI,unE,convE,okNil,builtE,gv,TD.isAgg,resV,↓reduceIte,Nat.reduceEqDiff,reduceCtorEq,Nat.reduceAdd,Nat.reduceMul,Nat.reduceLeDiff,quietOp,blindOp,Int.reduceEq,Int.reduceLT,Int.reduceLE,Nat.reduceLT,tiA,tiXA, h35, h34, h5, h6, h27, h26, h0, h2, h4]
            · have hik2 : i = k := by have := beq_iff_eq.1 hb; omega
              rw [if_pos hik2] at eln
              rw [eln]
              try simp (disch := first | omega | (simp only [ints_length, List.length_replicate, List.length_set, List.length_map, List.length_range] <;> omega)) only [Sall,evalOp,init,binA_s,binE,binI,unE,convE,okNil,builtE,gv,TD.isAgg,resV,↓reduceIte,Nat.reduceEqDiff,reduceCtorEq,Nat.reduceAdd,Nat.reduceMul,Nat.reduceLeDiff,quietOp,blindOp,Int.reduceEq,Int.reduceLT,Int.reduceLE,Nat.reduceLT,tiA,tiXA, h35, h34, h5, h6, h27, h26, h0, h2, h4, x1, y1, hk0]
            rintro t H2' ⟨rfl, h8, h7, h35, h34, h5, h6, h27, h26, h0, h2, h4⟩
            generalize er : lnF k i a = r at *
            have hgr := (o5.getV 3 rfl).2.2
            have hth : ∀ r, r < k → _ := fun r hr => getM [Th.row c2 ⟨26, true, [.int .i64 0, .int .i64 0, .slice none 0 0]⟩, .sl2 (Value.int .i64) 28 2 w (grdL k i), .row ri ⟨26, true, [.int .i64 n, .int .i64 k, w]⟩, .sl 1 28 (.slice (some ⟨gi, 0, some 1⟩) k k) k ((List.range k).map vs)] (fun j => Th.sl 1 2 (vs j) (grG k i j a).length (ints (grG k i j a))) (b := 4) rfl hr
            have hvr : ((List.range k).map vs)[r]? = some (vs r) := by rw [List.getElem?_map, List.getElem?_range hlt]; rfl
            have hu := o5.one (4 + r) (hth r hlt)
            have hgl := grG_len k i r a
            have zz : zeros 1 [.int .i64 0] = [.int .i64 0] := rfl
            try simp (disch := first | omega | (simp only [ints_length, List.length_replicate, List.length_set, List.length_map, List.length_range] <;> omega)) only [Sall,evalOp,init,binA_s,binE,binI,unE,convE,okNil,builtE,gv,TD.isAgg,resV,↓reduceIte,Nat.reduceEqDiff,reduceCtorEq,Nat.reduceAdd,Nat.reduceMul,Nat.reduceLeDiff,quietOp,blindOp,Int.reduceEq,Int.reduceLT,Int.reduceLE,Nat.reduceLT,tiA,tiXA, h35, h34, h5, h6, h27, h26, h0, h2, h4, h8, h7, hgr, hvr, hu, zz, slCells]
            (repeat refine And.intro (by omega) ?_)
            try simp (disch := first | omega | (simp only [ints_length, List.length_replicate, List.length_set, List.length_map, List.length_range] <;> omega)) only [Sall,evalOp,init,binA_s,binE,binI,unE,convE,okNil,builtE,gv,TD.isAgg,resV,↓reduceIte,Nat.reduceEqDiff,reduceCtorEq,Nat.reduceAdd,Nat.reduceMul,Nat.reduceLeDiff,quietOp,blindOp,Int.reduceEq,Int.reduceLT,Int.reduceLE,Nat.reduceLT,tiA,tiXA, h35, h34, h5, h6, h27, h26, h0, h2, h4, h8, h7, hgr, hvr, hu, zz, slCells]
            refine (o5.tmp ⟨2, true, [.int .i64 a]⟩).app (4 + r) (c := 1) (ms := ints [(a : Int)]) (hth r hlt) rfl (by omega) rfl (by omega) (by decide) (by omega) ?_
            intro v' H3 n3 o6
            rw [setM (b := 4) _ _ _ rfl, ints_append] at o6
            have hgr3 := (o6.getV 3 rfl).2.2
            have hput := o6.put 3 rfl (vs' := ((List.range k).map vs).set r v') (by simp)
            have es : ((List.range k).map vs).set r v' = (List.range k).map fun j => if j = r then v' else vs j := by
              have := setM [] vs v' (k := k) (r := r) (b := 0) rfl
              rw [Nat.zero_add] at this
              exact this
            rw [es] at hput
            have hm6 := getM [Th.row c2 ⟨26, true, [.int .i64 0, .int .i64 0, .slice none 0 0]⟩, .sl2 (Value.int .i64) 28 2 w (grdL k i), .row ri ⟨26, true, [.int .i64 n, .int .i64 k, w]⟩, .sl 1 28 (.slice (some ⟨gi, 0, some 1⟩) k k) k ((List.range k).map vs)] (fun j => if j = r then Th.sl 1 2 v' ((grG k i r a).length + 1) (ints (grG k i r a ++ [(a : Int)])) else Th.sl 1 2 (vs j) (grG k i j a).length (ints (grG k i j a))) (b := 4) rfl hlt
            simp only [if_pos] at hm6
            have hv' := o6.one (4 + r) hm6
            have hq1 := cells_of_one hv'
            have hq2 := noTuple_of_one hv'
            have hq3 := fun r => ok_one (r := r) hv'
            try simp (disch := first | omega | (simp only [ints_length, List.length_replicate, List.length_set, List.length_map, List.length_range] <;> omega)) only [Sall,evalOp,init,binA_s,binE,binI,unE,convE,okNil,builtE,gv,TD.isAgg,resV,↓reduceIte,Nat.reduceEqDiff,reduceCtorEq,Nat.reduceAdd,Nat.reduceMul,Nat.reduceLeDiff,quietOp,blindOp,Int.reduceEq,Int.reduceLT,Int.reduceLE,Nat.reduceLT,tiA,tiXA, h35, h34, h5, h6, h27, h26, h0, h2, h4, h8, h7, hgr3, hvr, hv', hq1, hq2, hq3]
            refine ⟨⟨by omega, by omega⟩, by simp only [List.length_map, List.length_range]; omega, n - (a + 1), by omega, a + 1, fun j => if j = r then v' else vs j, gi, by omega, by omega, by rw [y8, Int.natCast_add]; rfl, rfl, ?_⟩
            rw [es]
            have eM : (List.range k).map (fun j => Th.sl 1 2 (if j = r then v' else vs j) (grG k i j (a + 1)).length (ints (grG k i j (a + 1)))) = (List.range k).map (fun j => if j = r then Th.sl 1 2 v' ((grG k i r a).length + 1) (ints (grG k i r a ++ [(a : Int)])) else Th.sl 1 2 (vs j) (grG k i j a).length (ints (grG k i j a))) := by
              refine List.map_congr_left fun j _ => ?_
              rw [grG_succ, er]
              by_cases hj : j = r
              · rw [if_pos hj, if_pos hj.symm, if_pos hj, hj, List.length_append]; rfl
              · rw [if_neg hj, if_neg (fun e => hj e.symm), if_neg hj, List.append_nil]
            rw [eM]
            exact hput
          · have hae : a = n := by omega
            rw [hae] at o5
            have hgr := (o5.getV 3 rfl).2.2
            have hrow := hgr
            have hR : RowsP ((List.range k).map fun j => (vs j, grG k i j n)) H2 := by
              intro p hp
              obtain ⟨j, hj, rfl⟩ := List.mem_map.1 hp
              have hj := List.mem_range.1 hj
              exact o5.rs (4 + j) (getM [Th.row c2 ⟨26, true, [.int .i64 0, .int .i64 0, .slice none 0 0]⟩, .sl2 (Value.int .i64) 28 2 w (grdL k i), .row ri ⟨26, true, [.int .i64 n, .int .i64 k, w]⟩, .sl 1 28 (.slice (some ⟨gi, 0, some 1⟩) k k) k ((List.range k).map vs)] (fun j => Th.sl 1 2 (vs j) (grG k i j n).length (ints (grG k i j n))) (b := 4) rfl hj)
            have o6 := o5.left
            clear o5
            generalize eps : (List.range k).map (fun j => (vs j, grG k i j n)) = ps at hR
            have ef : ps.map Prod.fst = (List.range k).map vs := by rw [← eps, List.map_map]; rfl
            have ed : (ps.map Prod.snd).flatten = grO k i := by rw [← eps, List.map_map, en]; rfl
            have epl : ps.length = k := by rw [← eps]; simp
            have hpos : ∀ p ∈ ps, 0 < p.2.length := by
              intro p hp
              rw [← eps] at hp
              obtain ⟨j, hj, rfl⟩ := List.mem_map.1 hp
              exact hf3 j (List.mem_range.1 hj)
            have hsum : sumL ps = n := by
              unfold sumL
              rw [ed]
              exact ((ordB_iff n _).1 hf1).1
            clear eps
            rw [← ef] at hrow
            have g3 := (o6.rowAt 2 rfl).1
            have hw := (o6.rd2 1 rfl).one
            try simp (disch := first | omega | (simp only [ints_length, List.length_replicate, List.length_set, List.length_map, List.length_range] <;> omega)) only [Sall,evalOp,init,binA_s,binE,binI,unE,convE,okNil,builtE,gv,TD.isAgg,resV,↓reduceIte,Nat.reduceEqDiff,reduceCtorEq,Nat.reduceAdd,Nat.reduceMul,Nat.reduceLeDiff,quietOp,blindOp,Int.reduceEq,Int.reduceLT,Int.reduceLE,Nat.reduceLT,tiA,tiXA, h35, h34, h5, h6, h27, h26, h0, h2, h4]
            refine draw_id (by kernel_rfl) (by kernel_rfl) ?_
            try simp (disch := first | omega | (simp only [ints_length, List.length_replicate, List.length_set, List.length_map, List.length_range] <;> omega)) only [Sall,evalOp,init,binA_s,binE,binI,unE,convE,okNil,builtE,gv,TD.isAgg,resV,↓reduceIte,Nat.reduceEqDiff,reduceCtorEq,Nat.reduceAdd,Nat.reduceMul,Nat.reduceLeDiff,quietOp,blindOp,Int.reduceEq,Int.reduceLT,Int.reduceLE,Nat.reduceLT,tiA,tiXA, h5, h6, h27, h26, h0, h2, h4, g3, hw]
            refine ACalls.mono (concatI_c k k gi ps epl (by omega) (by omega) hpos H2 hrow hR) ?_
            intro x H3 ox
            rw [hsum, ed] at ox
            have hx := ox.one 0 rfl
            have hxs := ox.rs 0 rfl
            refine ⟨.inr (.inr (ox.up.le o6.sc)), ?_⟩
            have o7 := (o6.call ox)
            have g3' := (o7.rowAt 2 rfl).1
            refine Holds.mp ?_
            try simp (disch := first | omega | (simp only [ints_length, List.length_replicate, List.length_set, List.length_map, List.length_range] <;> omega)) only [Sall,evalOp,init,binA_s,binE,binI,unE,convE,okNil,builtE,gv,TD.isAgg,resV,↓reduceIte,Nat.reduceEqDiff,reduceCtorEq,Nat.reduceAdd,Nat.reduceMul,Nat.reduceLeDiff,quietOp,blindOp,Int.reduceEq,Int.reduceLT,Int.reduceLE,Nat.reduceLT,tiA,tiXA, h5, h6, h27, h26, h0, h2, h4, hx, hw]
            refine ACalls.mono (tidy_c n k k (by omega) en (by omega) (by omega) (by rcases hkN with rfl | rfl | rfl <;> omega) w x (grO k i) H3 hw hxs hf1) ?_
            intro y H4 oy
            rw [hf2] at oy
            have hy := oy.one 0 rfl
            refine ⟨.inr (.inr (oy.up.le o7.sc)), ?_⟩
            have o8 := o7.call oy
            have hq1 := cells_of_one hy
            have hq2 := noTuple_of_one hy
            have hq3 := fun r => ok_one (r := r) hy
            have gl := grdL_length k i
            refine Holds.mp ?_
            try simp (disch := first | omega | (simp only [ints_length, List.length_replicate, List.length_set, List.length_map, List.length_range] <;> omega)) only [Sall,evalOp,init,binA_s,binE,binI,unE,convE,okNil,builtE,gv,TD.isAgg,resV,↓reduceIte,Nat.reduceEqDiff,reduceCtorEq,Nat.reduceAdd,Nat.reduceMul,Nat.reduceLeDiff,quietOp,blindOp,Int.reduceEq,Int.reduceLT,Int.reduceLE,Nat.reduceLT,tiA,tiXA, h5, h6, h27, h26, h0, h2, h4, hy, hw, z1, hq1, hq2, hq3, slCells]
            refine ⟨.inr (.inr (o8.sc.le _)), ?_⟩
            refine (o8.tmp ⟨28, true, [y]⟩).app2 (l := grA k i n) 1 5 rfl rfl (by omega) rfl (by decide) (by omega) ?_
            intro v' H5 n5 o9
            have g5 := (o9.rowAt 2 rfl).1
            have hv' := (o9.rd2 1 rfl).one
            have p5 := o9.putRow 2 rfl (cs' := [.int .i64 n, .int .i64 k, v'])
            have y9 := wd ((i : Int) + 1) (by omega)
            refine ⟨.inr (.inl (by kernel_rfl)), ?_⟩
            try simp (disch := first | omega | (simp only [ints_length, List.length_replicate, List.length_set, List.length_map, List.length_range] <;> omega)) only [Sall,evalOp,init,binA_s,binE,binI,unE,convE,okNil,builtE,gv,TD.isAgg,resV,↓reduceIte,Nat.reduceEqDiff,reduceCtorEq,Nat.reduceAdd,Nat.reduceMul,Nat.reduceLeDiff,quietOp,blindOp,Int.reduceEq,Int.reduceLT,Int.reduceLE,Nat.reduceLT,tiA,tiXA, h5, h6, h27, h26, h0, h2, h4, hy, hw, g5, hv']
            refine ⟨.inr (.inl (by kernel_rfl)), k + 1 - (i + 1), by omega, i + 1, v', ri, by omega, by omega, by rw [y9, Int.natCast_add]; rfl, rfl, ?_⟩
            rw [grdL_succ, ← en]
            exact Ow.left (L := [.row c2 ⟨26, true, [.int .i64 0, .int .i64 0, .slice none 0 0]⟩, .sl2 (Value.int .i64) 28 2 v' (grdL k i ++ [grA k i n]), .row ri ⟨26, true, [.int .i64 n, .int .i64 k, v']⟩]) p5
      · have hie : i = k + 1 := by omega
        rw [hie] at o3
        have g3 := (o3.rowAt 2 rfl).1
        have g2 := (o3.rowAt 0 rfl).1
        have hw := (o3.rd2 1 rfl).one
        try simp (disch := first | omega | (simp only [ints_length, List.length_replicate, List.length_set, List.length_map, List.length_range] <;> omega)) only [Sall,evalOp,init,binA_s,binE,binI,unE,convE,okNil,builtE,gv,TD.isAgg,resV,↓reduceIte,Nat.reduceEqDiff,reduceCtorEq,Nat.reduceAdd,Nat.reduceMul,Nat.reduceLeDiff,quietOp,blindOp,Int.reduceEq,Int.reduceLT,Int.reduceLE,Nat.reduceLT,tiA,tiXA, h2, h4, g3, g2, hw]
        exact ⟨w, rfl, (o3.putRow 0 rfl (cs' := [.int .i64 n, .int .i64 k, w])).only 1 rfl⟩
  · unfold gridC gridL gridQ gridG
    rw [if_neg hk, if_neg hk, if_neg hk, if_neg hk]
    have e1 : (k != 2) = true := bne_iff_ne.2 (by omega)
    have e2 : (k != 3) = true := bne_iff_ne.2 (by omega)
    have e3 : (k != 5) = true := bne_iff_ne.2 (by omega)
    try simp (disch := first | omega | (simp only [ints_length, List.length_replicate, List.length_set, List.length_map, List.length_range] <;> omega)) only [Sall,evalOp,init,binA_s,binE,binI,unE,convE,okNil,builtE,gv,TD.isAgg,resV,↓reduceIte,Nat.reduceEqDiff,reduceCtorEq,Nat.reduceAdd,Nat.reduceMul,Nat.reduceLeDiff,quietOp,blindOp,Int.reduceEq,Int.reduceLT,Int.reduceLE,Nat.reduceLT,tiA,tiXA, h0, h2, h3, e1, e2, e3, g1]
    exact ⟨_, rfl, (Ow.left (L := []) (o1.putRow 0 rfl (cs' := [.int .i64 0, .int .i64 0, .slice none 0 0]))).addNil2⟩
end Go.Proofs.YtollphjompimjaaGreat.A
end

section
set_option maxRecDepth 100000
set_option maxHeartbeats 2000000
namespace Go.Proofs.YtollphjompimjaaGreat.A
open Go Go.Abs Go.RowKit
theorem zeros_int0 (n : Nat) : zeros n [.int .i64 0] = ints (List.replicate n 0) := by
  have h := zeros_ints n 1
  rw [Nat.mul_one] at h; exact h
theorem replicate_snoc {α : Type} (n : Nat) (a : α) : List.replicate (n + 1) a = List.replicate n a ++ [a] := by
  rw [List.replicate_succ']
theorem square_c (n : Nat) (hn : n ≤ 1024) (H : AH) : ACalls Tryz.prog 64 [.int .i64 n] H (fun v H' => Up H.next H H' ∧ Fr2 1 28 2 H.next H'.next H' v (zeroM n)) := by
  refine acalls_of_awp [.tmp 2] Tryz.func64 (by kernel_rfl) rfl rfl (Nat.le_of_ble_eq_true rfl) (by kernel_rfl) ?_
  try simp (disch := first | omega | (simp only [L3] <;> omega)) only [Sall,evalOp,init,binA_s,binE,binI,unE,convE,okNil,builtE,gv,TD.isAgg,resV,↓reduceIte,Nat.reduceEqDiff,reduceCtorEq,Nat.reduceAdd,Nat.reduceMul,Nat.reduceLeDiff,quietOp,blindOp,Int.reduceEq,Int.reduceLT,Int.reduceLE,Nat.reduceLT,tiA, zeros_zero]
  refine awp_loop (fun m t H' => ∃ (a : Nat) (u : Value) (lo hi : Nat), m = n - a ∧ a ≤ n ∧ t 6 = .int .i64 a ∧ t 5 = .int .i64 n ∧ t 0 = .int .i64 n ∧ t 3 = u ∧ Up H.next H H' ∧ H.next ≤ lo ∧ lo ≤ hi ∧ hi ≤ H'.next ∧ Fr2 1 28 2 lo hi H' u (List.replicate a (List.replicate n 0))) n ?_ ?_
  · refine ⟨0, .slice (some ⟨H.next, 0, some 1⟩) 0 0, H.next, H.next + 1, by omega, by omega, ?_⟩
    try simp (disch := first | omega | (simp only [L3] <;> omega)) only [Sall,evalOp,init,binA_s,binE,binI,unE,convE,okNil,builtE,gv,TD.isAgg,resV,↓reduceIte,Nat.reduceEqDiff,reduceCtorEq,Nat.reduceAdd,Nat.reduceMul,Nat.reduceLeDiff,quietOp,blindOp,Int.reduceEq,Int.reduceLT,Int.reduceLE,Nat.reduceLT,tiA, Int.natCast_zero]
    refine ⟨(Up.refl _ H).push (by omega) _, ?_⟩
    (repeat refine And.intro (by omega) ?_)
    exact .inr ⟨H.next, [], fun _ => H.next + 1, by omega, by omega, rfl, by rw [AH.push_row, if_pos rfl], rfl, by dsimp only; omega, by dsimp only; omega, .inl (by dsimp only; omega), fun _ => Nat.le_refl _, fun j hj => by simp at hj⟩
  · rintro m t H' ⟨a, u, lo, hi, hm, h14, h6, h5, h0, h3, hup, hlo, hlh, hhi, hfr⟩
    try simp (disch := first | omega | (simp only [L3] <;> omega)) only [Sall,evalOp,init,binA_s,binE,binI,unE,convE,okNil,builtE,gv,TD.isAgg,resV,↓reduceIte,Nat.reduceEqDiff,reduceCtorEq,Nat.reduceAdd,Nat.reduceMul,Nat.reduceLeDiff,quietOp,blindOp,Int.reduceEq,Int.reduceLT,Int.reduceLE,Nat.reduceLT,tiA, h6, h5]
    refine condC_dec (fun h => ?_) (fun h => ?_)
    · have zz : zeros 1 [.slice none 0 0] = [.slice none 0 0] := rfl
      have ne1 : ¬ H'.next = H'.next + 1 := by omega
      try simp (disch := first | omega | (simp only [L3] <;> omega)) only [Sall,evalOp,init,binA_s,binE,binI,unE,convE,okNil,builtE,gv,TD.isAgg,resV,↓reduceIte,Nat.reduceEqDiff,reduceCtorEq,Nat.reduceAdd,Nat.reduceMul,Nat.reduceLeDiff,quietOp,blindOp,Int.reduceEq,Int.reduceLT,Int.reduceLE,Nat.reduceLT,tiA, h6, h5, h3, h0, zeros_int0, zz, slCells]
      (repeat refine And.intro (by omega) ?_)
      obtain ⟨H2, e2⟩ : ∃ H2, H2 = (H'.push ⟨2, true, ints (List.replicate n 0)⟩).push ⟨28, true, [.slice (some ⟨H'.next, 0, some 1⟩) n n]⟩ := ⟨_, rfl⟩
      have n2 : H2.next = H'.next + 2 := by rw [e2]; rfl
      have s2 : ∀ i, i < H'.next → H2.row i = H'.row i := fun i hi => by rw [e2, AH.push_row, if_neg (by rw [AH.push_next]; omega), AH.push_row, if_neg (by omega)]
      have x2 : H2.row H'.next = some ⟨2, true, ints (List.replicate n 0)⟩ := by rw [e2, AH.push_row, if_neg (by rw [AH.push_next]; omega), AH.push_row, if_pos rfl]
      rw [← e2]
      clear e2
      refine appE_fr2 (hfr.same fun i _ hi => s2 i (by omega)) (m := n) (l := List.replicate n 0) ⟨by simp, .inr ⟨H'.next, by omega, by omega, rfl, x2⟩⟩ rfl (by decide) (by rw [List.length_replicate]; omega) hlh (by omega) ?_
      intro v' H3 n3 s3 f3
      try simp (disch := first | omega | (simp only [L3] <;> omega)) only [Sall,evalOp,init,binA_s,binE,binI,unE,convE,okNil,builtE,gv,TD.isAgg,resV,↓reduceIte,Nat.reduceEqDiff,reduceCtorEq,Nat.reduceAdd,Nat.reduceMul,Nat.reduceLeDiff,quietOp,blindOp,Int.reduceEq,Int.reduceLT,Int.reduceLE,Nat.reduceLT,tiA, h6, h5, h0, w64]
      refine ⟨n - (a + 1), by omega, a + 1, v', lo, H2.next + 1, rfl, by omega, rfl, rfl, ⟨by have := hup.next; omega, fun i hi => ?_⟩, by omega, by omega, by omega, ?_⟩
      · rw [s3 i (by have := hup.next; omega) (by have := hup.next; omega), s2 i (by have := hup.next; omega), hup.row i hi]
      · rw [replicate_snoc]; exact f3
    · have ha : a = n := by omega
      subst ha
      try simp (disch := first | omega | (simp only [L3] <;> omega)) only [Sall,evalOp,init,binA_s,binE,binI,unE,convE,okNil,builtE,gv,TD.isAgg,resV,↓reduceIte,Nat.reduceEqDiff,reduceCtorEq,Nat.reduceAdd,Nat.reduceMul,Nat.reduceLeDiff,quietOp,blindOp,Int.reduceEq,Int.reduceLT,Int.reduceLE,Nat.reduceLT,tiA, h3]
      exact ⟨hup, hfr.wide hlo hhi⟩
end Go.Proofs.YtollphjompimjaaGreat.A
end
