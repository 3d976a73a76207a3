/- Contracts: golfs. And what follows. -/
import Derived.Test.YtollphjompimjaaM2
set_option linter.unusedSimpArgs false
set_option linter.unusedVariables false
section
set_option maxRecDepth 100000
set_option maxHeartbeats 2000000
namespace Go.Proofs.Ytollphjompimjaa.A
open Go Go.Abs Go.RowKit
theorem golf_push {H : AH} (hs : Sc H) (q g : Int) (v : Value) : Ow H (H.push ⟨24, true, [.int .i64 q, .int .i64 g, v]⟩) [.row H.next ⟨24, true, [.int .i64 q, .int .i64 g, v]⟩] := (Ow.refl hs).push _
theorem l08Size_c (q g m : Int) (H : AH) (hm : m ≤ 1000) : ACalls Try.prog 48 [.int .i64 q, .int .i64 g, .int .i64 m] H (is (.bool (golfS q g m)) H) := by
  refine acalls_of_awp [.tmp 6] Try.func48 (by kernel_rfl) rfl rfl (Nat.le_of_ble_eq_true rfl) (by kernel_rfl) ?_
  unfold golfS
  try simp (disch := first | omega | (simp only [ints_length, List.length_replicate, bools_length, metL_length] <;> omega)) only [Sall,evalOp,init,binA_s,binE,binI,unE,convE,okNil,builtE,gv,TD.isAgg,resV,↓reduceIte,Nat.reduceEqDiff,reduceCtorEq,Nat.reduceAdd,Nat.reduceMul,Nat.reduceLeDiff,quietOp,blindOp,Int.reduceEq,Int.reduceLT,Int.reduceLE,Nat.reduceLT,tiA,tiXA, true_and]
  refine (l01In_c _ _ _ _).to ?_
  by_cases h1 : 2 ≤ q ∧ q ≤ m
  · rw [decide_eq_true h1]
    refine Holds.mp ?_
    try simp (disch := first | omega | (simp only [ints_length, List.length_replicate, bools_length, metL_length] <;> omega)) only [Sall,evalOp,init,binA_s,binE,binI,unE,convE,okNil,builtE,gv,TD.isAgg,resV,↓reduceIte,Nat.reduceEqDiff,reduceCtorEq,Nat.reduceAdd,Nat.reduceMul,Nat.reduceLeDiff,quietOp,blindOp,Int.reduceEq,Int.reduceLT,Int.reduceLE,Nat.reduceLT,tiA,tiXA, true_and]
    refine (l01In_c _ _ _ _).to ?_
    by_cases h2 : 2 ≤ g ∧ g ≤ q
    · rw [decide_eq_true h2]
      have hg : ¬ g = 0 := by omega
      have hw : IntKind.i64.wrap (Int.tmod q g) = Int.tmod q g := by
        obtain ⟨n, rfl⟩ : ∃ n : Nat, q = n := ⟨q.toNat, by omega⟩
        obtain ⟨k, rfl⟩ : ∃ k : Nat, g = k := ⟨g.toNat, by omega⟩
        have e : Int.tmod (n : Int) (k : Int) = ((n % k : Nat) : Int) := rfl
        have := Nat.mod_lt n (show 0 < k by omega)
        rw [e]
        exact w64 ⟨by omega, by omega⟩
      refine Holds.mp ?_
      try simp (disch := first | omega | (simp only [ints_length, List.length_replicate, bools_length, metL_length] <;> omega)) only [Sall,evalOp,init,binA_s,binE,binI,unE,convE,okNil,builtE,gv,TD.isAgg,resV,↓reduceIte,Nat.reduceEqDiff,reduceCtorEq,Nat.reduceAdd,Nat.reduceMul,Nat.reduceLeDiff,quietOp,blindOp,Int.reduceEq,Int.reduceLT,Int.reduceLE,Nat.reduceLT,tiA,tiXA, hg, hw]
      exact ⟨rfl, rfl⟩
    · rw [decide_eq_false h2]
      refine Holds.mp ?_
      try simp (disch := first | omega | (simp only [ints_length, List.length_replicate, bools_length, metL_length] <;> omega)) only [Sall,evalOp,init,binA_s,binE,binI,unE,convE,okNil,builtE,gv,TD.isAgg,resV,↓reduceIte,Nat.reduceEqDiff,reduceCtorEq,Nat.reduceAdd,Nat.reduceMul,Nat.reduceLeDiff,quietOp,blindOp,Int.reduceEq,Int.reduceLT,Int.reduceLE,Nat.reduceLT,tiA,tiXA, Bool.false_and]
      exact ⟨rfl, rfl⟩
  · rw [decide_eq_false h1]
    refine Holds.mp ?_
    try simp (disch := first | omega | (simp only [ints_length, List.length_replicate, bools_length, metL_length] <;> omega)) only [Sall,evalOp,init,binA_s,binE,binI,unE,convE,okNil,builtE,gv,TD.isAgg,resV,↓reduceIte,Nat.reduceEqDiff,reduceCtorEq,Nat.reduceAdd,Nat.reduceMul,Nat.reduceLeDiff,quietOp,blindOp,Int.reduceEq,Int.reduceLT,Int.reduceLE,Nat.reduceLT,tiA,tiXA, Bool.false_and]
    exact ⟨rfl, rfl⟩
theorem l08Round_c (n : Nat) (hn : n ≤ 1024) (v : Value) (y : List Int) (H : AH) (hv : Rd 1 H v y.length y) (hy : y.length ≤ 4294967296) :
    ACalls Try.prog 49 [.int .i64 n, v] H (is (.bool (ordB n y)) H) := by
  refine acalls_up rfl (ACalls.wf (by kernel_rfl) fun hs => acalls_of_awp [.tmp 4] Try.func49 (by kernel_rfl) rfl rfl (Nat.le_of_ble_eq_true rfl) (by kernel_rfl) ?_)
  try simp (disch := first | omega | (simp only [ints_length, List.length_replicate, bools_length, metL_length] <;> omega)) only [Sall,evalOp,init,binA_s,binE,binI,unE,convE,okNil,builtE,gv,TD.isAgg,resV,↓reduceIte,Nat.reduceEqDiff,reduceCtorEq,Nat.reduceAdd,Nat.reduceMul,Nat.reduceLeDiff,quietOp,blindOp,Int.reduceEq,Int.reduceLT,Int.reduceLE,Nat.reduceLT,tiA, zeros_bools, ← metL_nil]
  (repeat refine And.intro (by omega) ?_)
  have hml := metL_length n []
  refine awp_loop (fun m t H' => ∃ a : Nat, m = y.length - a ∧ a ≤ y.length ∧ t 6 = .int .i64 a ∧ t 5 = .slice (some ⟨H.next, 0, some 1⟩) n n ∧ t 1 = v ∧ t 0 = .int .i64 n ∧ H.next < H'.next ∧ (∀ i, i < H.next → H'.row i = H.row i) ∧ H'.row H.next = some ⟨4, true, bools (metL n (y.take a))⟩ ∧ goodTo n y a) y.length ?_ ?_
  · refine ⟨0, by omega, by omega, ?_⟩
    try simp (disch := first | omega | (simp only [ints_length, List.length_replicate, bools_length, metL_length] <;> omega)) only [Sall,evalOp,init,binA_s,binE,binI,unE,convE,okNil,builtE,gv,TD.isAgg,resV,↓reduceIte,Nat.reduceEqDiff,reduceCtorEq,Nat.reduceAdd,Nat.reduceMul,Nat.reduceLeDiff,quietOp,blindOp,Int.reduceEq,Int.reduceLT,Int.reduceLE,Nat.reduceLT,tiA, Int.natCast_zero, List.take_zero]
    refine ⟨by omega, fun i hi => by rw [if_neg (by omega)], goodTo_zero n y⟩
  · rintro m t H' ⟨a, hm, han, h6, h5, h1, h0, hnx, hrows, hrow, hgood⟩
    have hv' : Rd 1 H' v y.length y := hv.same fun i r hr => by rw [hrows i (hs _ _ hr)]; exact hr
    have up : Up H.next H H' := ⟨by omega, hrows⟩
    try simp (disch := first | omega | (simp only [ints_length, List.length_replicate, bools_length, metL_length] <;> omega)) only [Sall,evalOp,init,binA_s,binE,binI,unE,convE,okNil,builtE,gv,TD.isAgg,resV,↓reduceIte,Nat.reduceEqDiff,reduceCtorEq,Nat.reduceAdd,Nat.reduceMul,Nat.reduceLeDiff,quietOp,blindOp,Int.reduceEq,Int.reduceLT,Int.reduceLE,Nat.reduceLT,tiA, h6, h1, builtE, hv'.len]
    refine condC_dec (fun h => ?_) (fun h => ?_)
    · obtain ⟨i, o, uu, cc, r, rfl, hr, hc, hg, _⟩ := hv'.get (by omega)
      have g1 := hg a (by omega)
      obtain ⟨x, hx⟩ : ∃ x, x = y.getD a 0 := ⟨_, rfl⟩
      rw [← hx] at g1
      by_cases hin : 0 ≤ x ∧ x ≤ (n : Int) - 1
      · have hin' : 0 ≤ x ∧ x < (n : Int) := by omega
        have g2 := metL_get? n (y.take a) x hin'
        have g3 := metL_put n (y.take a) x hin'
        try simp (disch := first | omega | (simp only [ints_length, List.length_replicate, bools_length, metL_length] <;> omega)) only [Sall,evalOp,init,binA_s,binE,binI,unE,convE,okNil,builtE,gv,TD.isAgg,resV,↓reduceIte,Nat.reduceEqDiff,reduceCtorEq,Nat.reduceAdd,Nat.reduceMul,Nat.reduceLeDiff,quietOp,blindOp,Int.reduceEq,Int.reduceLT,Int.reduceLE,Nat.reduceLT,tiA, h6, h0, h1, hr, g1, w64]
        (repeat refine And.intro (by omega) ?_)
        refine (l01In_c _ _ _ _).to ?_
        rw [decide_eq_true hin]
        cases hct : (y.take a).contains x with
        | true =>
          rw [hct] at g2
          try simp (disch := first | omega | (simp only [ints_length, List.length_replicate, bools_length, metL_length] <;> omega)) only [Sall,evalOp,init,binA_s,binE,binI,unE,convE,okNil,builtE,gv,TD.isAgg,resV,↓reduceIte,Nat.reduceEqDiff,reduceCtorEq,Nat.reduceAdd,Nat.reduceMul,Nat.reduceLeDiff,quietOp,blindOp,Int.reduceEq,Int.reduceLT,Int.reduceLE,Nat.reduceLT,tiA, Bool.not_true, h6, h5, h0, h1, hr, g1, hrow, g2, w64]
          (repeat refine And.intro (by omega) ?_)
          rw [ordB_bad (i := a) (by omega) (.inr (by rw [← hx]; exact hct))]
          exact ⟨rfl, up⟩
        | false =>
          rw [hct] at g2
          have ne : ¬ i = H.next := by
            rintro rfl
            rw [hrow] at hr
            cases hr
            rcases hv.2 with ⟨h9, _⟩ | ⟨i9, o9, u9, c9, r9, e9, hr9, _⟩
            · omega
            · cases e9
              have := hs _ _ hr9
              omega
          try simp (disch := first | omega | (simp only [ints_length, List.length_replicate, bools_length, metL_length] <;> omega)) only [Sall,evalOp,init,binA_s,binE,binI,unE,convE,okNil,builtE,gv,TD.isAgg,resV,↓reduceIte,Nat.reduceEqDiff,reduceCtorEq,Nat.reduceAdd,Nat.reduceMul,Nat.reduceLeDiff,quietOp,blindOp,Int.reduceEq,Int.reduceLT,Int.reduceLE,Nat.reduceLT,tiA, Bool.not_true, h6, h5, h0, h1, hr, g1, hrow, g2, g3, ne, w64]
          (repeat refine And.intro (by omega) ?_)
          refine ⟨by rw [bools_length, metL_length]; omega, y.length - (a + 1), by omega, a + 1, rfl, by omega, rfl, hnx, fun i hi => by rw [if_neg (by omega)]; exact hrows i hi, by rw [take_snoc y 0 a (by omega), ← hx], goodTo_succ (by omega) hgood (by rw [← hx]; exact hin') (by rw [← hx]; exact hct)⟩
      · try simp (disch := first | omega | (simp only [ints_length, List.length_replicate, bools_length, metL_length] <;> omega)) only [Sall,evalOp,init,binA_s,binE,binI,unE,convE,okNil,builtE,gv,TD.isAgg,resV,↓reduceIte,Nat.reduceEqDiff,reduceCtorEq,Nat.reduceAdd,Nat.reduceMul,Nat.reduceLeDiff,quietOp,blindOp,Int.reduceEq,Int.reduceLT,Int.reduceLE,Nat.reduceLT,tiA, h6, h0, h1, hr, g1, w64]
        (repeat refine And.intro (by omega) ?_)
        refine (l01In_c _ _ _ _).to ?_
        rw [decide_eq_false hin]
        try simp (disch := first | omega | (simp only [ints_length, List.length_replicate, bools_length, metL_length] <;> omega)) only [Sall,evalOp,init,binA_s,binE,binI,unE,convE,okNil,builtE,gv,TD.isAgg,resV,↓reduceIte,Nat.reduceEqDiff,reduceCtorEq,Nat.reduceAdd,Nat.reduceMul,Nat.reduceLeDiff,quietOp,blindOp,Int.reduceEq,Int.reduceLT,Int.reduceLE,Nat.reduceLT,tiA, Bool.not_false]
        rw [ordB_bad (i := a) (by omega) (.inl (by rw [← hx]; omega))]
        exact ⟨rfl, up⟩
    · have ha : a = y.length := by omega
      subst ha
      try simp (disch := first | omega | (simp only [ints_length, List.length_replicate, bools_length, metL_length] <;> omega)) only [Sall,evalOp,init,binA_s,binE,binI,unE,convE,okNil,builtE,gv,TD.isAgg,resV,↓reduceIte,Nat.reduceEqDiff,reduceCtorEq,Nat.reduceAdd,Nat.reduceMul,Nat.reduceLeDiff,quietOp,blindOp,Int.reduceEq,Int.reduceLT,Int.reduceLE,Nat.reduceLT,tiA, h0, h1, builtE, hv'.len]
      rw [goodTo_all hgood]
      refine ⟨?_, up⟩
      by_cases e : y.length = n
      · rw [decide_eq_true e, e]; simp
      · rw [decide_eq_false e]; simp; omega
theorem l08Is_c (q g : Int) (v : Value) (R : List (List Int)) (H : AH) (hv : Rd2 1 H v R) (hl : R.length ≤ 4194304) (hl2 : ∀ r ∈ R, r.length ≤ 4194304) :
    ACalls Try.prog 35 [.agg #[.int .i64 q, .int .i64 g, v]] H (is (.bool (golfB q g R)) H) := by
  refine acalls_up rfl (ACalls.wf (by kernel_rfl) fun hs => acalls_of_awp [.tmp 2] Try.func35 (by kernel_rfl) rfl rfl (Nat.le_of_ble_eq_true rfl) (by kernel_rfl) ?_)
  have hone := hv.one
  have o1 := golf_push hs q g v
  try simp (disch := first | omega | (simp only [ints_length, List.length_replicate, bools_length, metL_length] <;> omega)) only [Sall,evalOp,init,binA_s,binE,binI,unE,convE,okNil,builtE,gv,TD.isAgg,resV,↓reduceIte,Nat.reduceEqDiff,reduceCtorEq,Nat.reduceAdd,Nat.reduceMul,Nat.reduceLeDiff,quietOp,blindOp,Int.reduceEq,Int.reduceLT,Int.reduceLE,Nat.reduceLT,tiA,tiXA, hone]
  obtain ⟨pi, epi⟩ : ∃ pi, pi = H.next := ⟨_, rfl⟩
  rw [← epi] at o1 ⊢
  generalize H.push ⟨24, true, [.int .i64 q, .int .i64 g, v]⟩ = H1 at o1 ⊢
  have up : Up pi H H1 := by rw [epi]; exact o1.up
  have e1 := (o1.rowAt 0 rfl).1
  have hv1 := hv.same (o1.old hs)
  have hvl := hv1.len
  try simp (disch := first | omega | (simp only [ints_length, List.length_replicate, bools_length, metL_length] <;> omega)) only [Sall,evalOp,init,binA_s,binE,binI,unE,convE,okNil,builtE,gv,TD.isAgg,resV,↓reduceIte,Nat.reduceEqDiff,reduceCtorEq,Nat.reduceAdd,Nat.reduceMul,Nat.reduceLeDiff,quietOp,blindOp,Int.reduceEq,Int.reduceLT,Int.reduceLE,Nat.reduceLT,tiA,tiXA, e1]
  refine (l08Size_c q g 25 H1 (by omega)).to ?_
  refine Holds.mp ?_
  unfold golfB
  cases hS : golfS q g 25 with
  | false =>
    try simp (disch := first | omega | (simp only [ints_length, List.length_replicate, bools_length, metL_length] <;> omega)) only [Sall,evalOp,init,binA_s,binE,binI,unE,convE,okNil,builtE,gv,TD.isAgg,resV,↓reduceIte,Nat.reduceEqDiff,reduceCtorEq,Nat.reduceAdd,Nat.reduceMul,Nat.reduceLeDiff,quietOp,blindOp,Int.reduceEq,Int.reduceLT,Int.reduceLE,Nat.reduceLT,tiA,tiXA, Bool.not_false, Bool.false_and]
    exact up
  | true =>
    obtain ⟨n, gN, c, rfl, rfl, ec, q1, q2, q3, q4, q5⟩ := golfS_at hS
    rw [Int.toNat_natCast]
    by_cases h12 : R.length ≤ 12
    · have k : ¬ (12 : Int) < (R.length : Int) := by omega
      rw [decide_eq_true h12]
      try simp (disch := first | omega | (simp only [ints_length, List.length_replicate, bools_length, metL_length] <;> omega)) only [Sall,evalOp,init,binA_s,binE,binI,unE,convE,okNil,builtE,gv,TD.isAgg,resV,↓reduceIte,Nat.reduceEqDiff,reduceCtorEq,Nat.reduceAdd,Nat.reduceMul,Nat.reduceLeDiff,quietOp,blindOp,Int.reduceEq,Int.reduceLT,Int.reduceLE,Nat.reduceLT,tiA,tiXA, e1, builtE, hvl, k, decide_false, Bool.not_true, Bool.true_and]
      refine awp_loop (fun m t H' => ∃ a : Nat, m = R.length - a ∧ a ≤ R.length ∧ t 3 = .int .i64 a ∧ t 1 = .pointer (some ⟨pi, 0, none⟩) ∧ H' = H1 ∧ (∀ i, i < a → ordB n (R.getD i []) = true)) R.length ?_ ?_
      · refine ⟨0, by omega, by omega, ?_⟩
        try simp (disch := first | omega | (simp only [ints_length, List.length_replicate, bools_length, metL_length] <;> omega)) only [Sall,evalOp,init,binA_s,binE,binI,unE,convE,okNil,builtE,gv,TD.isAgg,resV,↓reduceIte,Nat.reduceEqDiff,reduceCtorEq,Nat.reduceAdd,Nat.reduceMul,Nat.reduceLeDiff,quietOp,blindOp,Int.reduceEq,Int.reduceLT,Int.reduceLE,Nat.reduceLT,tiA,tiXA, Int.natCast_zero, Nat.not_lt_zero, false_implies]
      · rintro m t H' ⟨a, hm, ha, h3, h1, rfl, hall⟩
        try simp (disch := first | omega | (simp only [ints_length, List.length_replicate, bools_length, metL_length] <;> omega)) only [Sall,evalOp,init,binA_s,binE,binI,unE,convE,okNil,builtE,gv,TD.isAgg,resV,↓reduceIte,Nat.reduceEqDiff,reduceCtorEq,Nat.reduceAdd,Nat.reduceMul,Nat.reduceLeDiff,quietOp,blindOp,Int.reduceEq,Int.reduceLT,Int.reduceLE,Nat.reduceLT,tiA,tiXA, h3, h1, e1, builtE, hvl]
        refine condC_dec (fun h => ?_) (fun h => ?_)
        · obtain ⟨xi, xo, xuu, xc, xr, y, my, ex, hxr, hy, hsx, hok⟩ := hv1.get (j := a) (by omega)
          have hmm := hsx.lenK1
          subst hmm
          have hll := hl2 (R.getD a []) (by rw [List.getD_eq_getElem?_getD, List.getElem?_eq_getElem (by omega)]; exact List.getElem_mem _)
          refine draw_id (by kernel_rfl) (by kernel_rfl) ?_
          try simp (disch := first | omega | (simp only [ints_length, List.length_replicate, bools_length, metL_length] <;> omega)) only [Sall,evalOp,init,binA_s,binE,binI,unE,convE,okNil,builtE,gv,TD.isAgg,resV,↓reduceIte,Nat.reduceEqDiff,reduceCtorEq,Nat.reduceAdd,Nat.reduceMul,Nat.reduceLeDiff,quietOp,blindOp,Int.reduceEq,Int.reduceLT,Int.reduceLE,Nat.reduceLT,tiA,tiXA, h3, h1, e1, ex, hxr, hy, hok]
          (repeat refine And.intro (by omega) ?_)
          refine (l08Round_c n (by omega) y _ H' hsx (by omega)).to ?_
          refine ⟨.inr (.inr (LE.refl _)), ?_⟩
          cases hr : ordB n (R.getD a []) with
          | true =>
            try simp (disch := first | omega | (simp only [ints_length, List.length_replicate, bools_length, metL_length] <;> omega)) only [Sall,evalOp,init,binA_s,binE,binI,unE,convE,okNil,builtE,gv,TD.isAgg,resV,↓reduceIte,Nat.reduceEqDiff,reduceCtorEq,Nat.reduceAdd,Nat.reduceMul,Nat.reduceLeDiff,quietOp,blindOp,Int.reduceEq,Int.reduceLT,Int.reduceLE,Nat.reduceLT,tiA,tiXA, Bool.not_true, h3, h1, w64]
            refine ⟨R.length - (a + 1), by omega, a + 1, rfl, by omega, by omega, fun i hi => ?_⟩
            by_cases e : i = a
            · rw [e]; exact hr
            · exact hall i (by omega)
          | false =>
            try simp (disch := first | omega | (simp only [ints_length, List.length_replicate, bools_length, metL_length] <;> omega)) only [Sall,evalOp,init,binA_s,binE,binI,unE,convE,okNil,builtE,gv,TD.isAgg,resV,↓reduceIte,Nat.reduceEqDiff,reduceCtorEq,Nat.reduceAdd,Nat.reduceMul,Nat.reduceLeDiff,quietOp,blindOp,Int.reduceEq,Int.reduceLT,Int.reduceLE,Nat.reduceLT,tiA,tiXA, Bool.not_false]
            rw [all_false_of (i := a) (by omega) hr]
            exact ⟨rfl, up⟩
        · try simp (disch := first | omega | (simp only [ints_length, List.length_replicate, bools_length, metL_length] <;> omega)) only [Sall,evalOp,init,binA_s,binE,binI,unE,convE,okNil,builtE,gv,TD.isAgg,resV,↓reduceIte,Nat.reduceEqDiff,reduceCtorEq,Nat.reduceAdd,Nat.reduceMul,Nat.reduceLeDiff,quietOp,blindOp,Int.reduceEq,Int.reduceLT,Int.reduceLE,Nat.reduceLT,tiA,tiXA, true_and]
          have ha2 : a = R.length := by omega
          subst ha2
          rw [all_true_of hall]
          exact ⟨rfl, up⟩
    · have k : (12 : Int) < (R.length : Int) := by omega
      rw [decide_eq_false h12]
      try simp (disch := first | omega | (simp only [ints_length, List.length_replicate, bools_length, metL_length] <;> omega)) only [Sall,evalOp,init,binA_s,binE,binI,unE,convE,okNil,builtE,gv,TD.isAgg,resV,↓reduceIte,Nat.reduceEqDiff,reduceCtorEq,Nat.reduceAdd,Nat.reduceMul,Nat.reduceLeDiff,quietOp,blindOp,Int.reduceEq,Int.reduceLT,Int.reduceLE,Nat.reduceLT,tiA,tiXA, e1, builtE, hvl, k, decide_true, Bool.not_true, Bool.false_and, Bool.and_false]
      exact up
theorem IsGolfC_c (n : Nat) (g : Int) (u : Value) (y : Value) (l : List Int) (c0 : Nat) (H : AH) (h0 : H.row c0 = some ⟨24, true, [.int .i64 n, .int .i64 g, u]⟩) (hy : Rd 1 H y l.length l) (hl : l.length ≤ 4194304) :
    ACalls Try.prog 52 [y, .pointer (some ⟨c0, 0, none⟩)] H (is (.bool (!ordB n l)) H) := by
  refine acalls_of_awp [.tmp 3] Try.func52 (by kernel_rfl) rfl rfl (Nat.le_of_ble_eq_true rfl) (by kernel_rfl) ?_
  try simp (disch := first | omega | (simp only [ints_length, List.length_replicate, bools_length, metL_length] <;> omega)) only [Sall,evalOp,init,binA_s,binE,binI,unE,convE,okNil,builtE,gv,TD.isAgg,resV,↓reduceIte,Nat.reduceEqDiff,reduceCtorEq,Nat.reduceAdd,Nat.reduceMul,Nat.reduceLeDiff,quietOp,blindOp,Int.reduceEq,Int.reduceLT,Int.reduceLE,Nat.reduceLT,tiA,tiXA, h0]
  refine (isOrder_c n y l H hy (by omega)).to ?_
  refine Holds.mp ?_
  try simp (disch := first | omega | (simp only [ints_length, List.length_replicate, bools_length, metL_length] <;> omega)) only [Sall,evalOp,init,binA_s,binE,binI,unE,convE,okNil,builtE,gv,TD.isAgg,resV,↓reduceIte,Nat.reduceEqDiff,reduceCtorEq,Nat.reduceAdd,Nat.reduceMul,Nat.reduceLeDiff,quietOp,blindOp,Int.reduceEq,Int.reduceLT,Int.reduceLE,Nat.reduceLT,tiA,tiXA, is]
theorem IsGolf_c (q g : Int) (v : Value) (R : List (List Int)) (H : AH) (hv : Rd2 1 H v R) (hl : R.length ≤ 4194304) (hl2 : ∀ r ∈ R, r.length ≤ 4194304) :
    ACalls Try.prog 39 [.agg #[.int .i64 q, .int .i64 g, v]] H (is (.bool (golfB q g R)) H) := by
  refine acalls_up rfl (ACalls.wf (by kernel_rfl) fun hs => acalls_of_awp [.tmp 2] Try.func39 (by kernel_rfl) rfl rfl (Nat.le_of_ble_eq_true rfl) (by kernel_rfl) ?_)
  have hone := hv.one
  have o1 := golf_push hs q g v
  try simp (disch := first | omega | (simp only [ints_length, List.length_replicate, bools_length, metL_length] <;> omega)) only [Sall,evalOp,init,binA_s,binE,binI,unE,convE,okNil,builtE,gv,TD.isAgg,resV,↓reduceIte,Nat.reduceEqDiff,reduceCtorEq,Nat.reduceAdd,Nat.reduceMul,Nat.reduceLeDiff,quietOp,blindOp,Int.reduceEq,Int.reduceLT,Int.reduceLE,Nat.reduceLT,tiA,tiXA, hone]
  obtain ⟨pi, epi⟩ : ∃ pi, pi = H.next := ⟨_, rfl⟩
  rw [← epi] at o1 ⊢
  generalize H.push ⟨24, true, [.int .i64 q, .int .i64 g, v]⟩ = H1 at o1 ⊢
  have up : Up pi H H1 := by rw [epi]; exact o1.up
  have e1 := (o1.rowAt 0 rfl).1
  have hv1 := hv.same (o1.old hs)
  have hvl := hv1.len
  try simp (disch := first | omega | (simp only [ints_length, List.length_replicate, bools_length, metL_length] <;> omega)) only [Sall,evalOp,init,binA_s,binE,binI,unE,convE,okNil,builtE,gv,TD.isAgg,resV,↓reduceIte,Nat.reduceEqDiff,reduceCtorEq,Nat.reduceAdd,Nat.reduceMul,Nat.reduceLeDiff,quietOp,blindOp,Int.reduceEq,Int.reduceLT,Int.reduceLE,Nat.reduceLT,tiA,tiXA, e1]
  refine (between_c _ _ _ _).to ?_
  unfold golfB golfS
  by_cases hq : 2 ≤ q ∧ q ≤ 25
  · rw [decide_eq_true hq]
    refine Holds.mp ?_
    try simp (disch := first | omega | (simp only [ints_length, List.length_replicate, bools_length, metL_length] <;> omega)) only [Sall,evalOp,init,binA_s,binE,binI,unE,convE,okNil,builtE,gv,TD.isAgg,resV,↓reduceIte,Nat.reduceEqDiff,reduceCtorEq,Nat.reduceAdd,Nat.reduceMul,Nat.reduceLeDiff,quietOp,blindOp,Int.reduceEq,Int.reduceLT,Int.reduceLE,Nat.reduceLT,tiA,tiXA, e1]
    refine (between_c _ _ _ _).to ?_
    by_cases hg : 2 ≤ g ∧ g ≤ q
    · rw [decide_eq_true hg]
      obtain ⟨n, rfl⟩ : ∃ n : Nat, q = n := ⟨q.toNat, by omega⟩
      obtain ⟨gN, rfl⟩ : ∃ gN : Nat, g = gN := ⟨g.toNat, by omega⟩
      rw [Int.toNat_natCast]
      have em : Int.tmod (n : Int) (gN : Int) = ((n % gN : Nat) : Int) := rfl
      have hlt := Nat.mod_lt n (show 0 < gN by omega)
      have hg0 : ¬ (gN : Int) = 0 := by omega
      by_cases h0 : n % gN = 0
      · have h0' : (((n % gN : Nat) : Int) == 0) = true := by rw [h0]; rfl
        have h0'' : decide (((n % gN : Nat) : Int) = 0) = true := by rw [h0]; rfl
        by_cases h12 : R.length ≤ 12
        · have k : (R.length : Int) ≤ 12 := by omega
          rw [em, h0'', decide_eq_true h12]
          refine Holds.mp ?_
          try simp (disch := first | omega | (simp only [ints_length, List.length_replicate, bools_length, metL_length] <;> omega)) only [Sall,evalOp,init,binA_s,binE,binI,unE,convE,okNil,builtE,gv,TD.isAgg,resV,↓reduceIte,Nat.reduceEqDiff,reduceCtorEq,Nat.reduceAdd,Nat.reduceMul,Nat.reduceLeDiff,quietOp,blindOp,Int.reduceEq,Int.reduceLT,Int.reduceLE,Nat.reduceLT,tiA,tiXA, e1, hg0, em, h0', builtE, hvl, k, decide_true, List.mem_cons, List.not_mem_nil, or_false, forall_eq_or_imp, forall_eq, Array.size_empty, w64]
          refine (containsFuncLL_c 52 [.pointer (some ⟨pi, 0, none⟩)] (fun l => !ordB n l) v R H1 hv1 (by omega) fun y r hr hy => IsGolfC_c n gN v y r pi H1 e1 hy (hl2 r hr)).to ?_
          have hany : ((List.range R.length).any fun i => !ordB n (R.getD i [])) = !((List.range R.length).all fun i => ordB n (R.getD i [])) := by rw [List.not_all_eq_any_not]
          rw [hany]
          refine Holds.mp ?_
          try simp (disch := first | omega | (simp only [ints_length, List.length_replicate, bools_length, metL_length] <;> omega)) only [Sall,evalOp,init,binA_s,binE,binI,unE,convE,okNil,builtE,gv,TD.isAgg,resV,↓reduceIte,Nat.reduceEqDiff,reduceCtorEq,Nat.reduceAdd,Nat.reduceMul,Nat.reduceLeDiff,quietOp,blindOp,Int.reduceEq,Int.reduceLT,Int.reduceLE,Nat.reduceLT,tiA,tiXA, Bool.not_not, Bool.true_and]
          first | exact up | exact ⟨rfl, up⟩
        · have k : ¬ (R.length : Int) ≤ 12 := by omega
          rw [em, h0'', decide_eq_false h12]
          refine Holds.mp ?_
          try simp (disch := first | omega | (simp only [ints_length, List.length_replicate, bools_length, metL_length] <;> omega)) only [Sall,evalOp,init,binA_s,binE,binI,unE,convE,okNil,builtE,gv,TD.isAgg,resV,↓reduceIte,Nat.reduceEqDiff,reduceCtorEq,Nat.reduceAdd,Nat.reduceMul,Nat.reduceLeDiff,quietOp,blindOp,Int.reduceEq,Int.reduceLT,Int.reduceLE,Nat.reduceLT,tiA,tiXA, e1, hg0, em, h0', builtE, hvl, k, decide_false, Bool.false_and, Bool.and_false, w64]
          exact up
      · have h0' : (((n % gN : Nat) : Int) == 0) = false := beq_eq_false_iff_ne.2 (by omega)
        have h0'' : decide (((n % gN : Nat) : Int) = 0) = false := decide_eq_false (by omega)
        rw [em, h0'']
        refine Holds.mp ?_
        try simp (disch := first | omega | (simp only [ints_length, List.length_replicate, bools_length, metL_length] <;> omega)) only [Sall,evalOp,init,binA_s,binE,binI,unE,convE,okNil,builtE,gv,TD.isAgg,resV,↓reduceIte,Nat.reduceEqDiff,reduceCtorEq,Nat.reduceAdd,Nat.reduceMul,Nat.reduceLeDiff,quietOp,blindOp,Int.reduceEq,Int.reduceLT,Int.reduceLE,Nat.reduceLT,tiA,tiXA, e1, hg0, em, h0', Bool.false_and, Bool.and_false, w64]
        exact up
    · rw [decide_eq_false hg]
      refine Holds.mp ?_
      try simp (disch := first | omega | (simp only [ints_length, List.length_replicate, bools_length, metL_length] <;> omega)) only [Sall,evalOp,init,binA_s,binE,binI,unE,convE,okNil,builtE,gv,TD.isAgg,resV,↓reduceIte,Nat.reduceEqDiff,reduceCtorEq,Nat.reduceAdd,Nat.reduceMul,Nat.reduceLeDiff,quietOp,blindOp,Int.reduceEq,Int.reduceLT,Int.reduceLE,Nat.reduceLT,tiA,tiXA, Bool.false_and, Bool.and_false]
      exact up
  · rw [decide_eq_false hq]
    refine Holds.mp ?_
    try simp (disch := first | omega | (simp only [ints_length, List.length_replicate, bools_length, metL_length] <;> omega)) only [Sall,evalOp,init,binA_s,binE,binI,unE,convE,okNil,builtE,gv,TD.isAgg,resV,↓reduceIte,Nat.reduceEqDiff,reduceCtorEq,Nat.reduceAdd,Nat.reduceMul,Nat.reduceLeDiff,quietOp,blindOp,Int.reduceEq,Int.reduceLT,Int.reduceLE,Nat.reduceLT,tiA,tiXA, Bool.false_and]
    exact up
theorem golfCode_c (q g : Int) (v : Value) (R : List (List Int)) (b : Bool) (H : AH) (hv : Rd2 1 H v R) (hl : R.length ≤ 4194304) (hl2 : ∀ r ∈ R, r.length ≤ 4194304) :
    ACalls Try.prog 27 [.agg #[.int .i64 q, .int .i64 g, v], .bool b] H (is (.int .i64 (glC q g R b)) H) := by
  refine acalls_up rfl (ACalls.wf (by kernel_rfl) fun hs => acalls_of_awp [.tmp 4] Try.func27 (by kernel_rfl) rfl rfl (Nat.le_of_ble_eq_true rfl) (by kernel_rfl) ?_)
  have hone := hv.one
  have o1 := golf_push hs q g v
  try simp (disch := first | omega | (simp only [ints_length, List.length_replicate, bools_length, metL_length] <;> omega)) only [Sall,evalOp,init,binA_s,binE,binI,unE,convE,okNil,builtE,gv,TD.isAgg,resV,↓reduceIte,Nat.reduceEqDiff,reduceCtorEq,Nat.reduceAdd,Nat.reduceMul,Nat.reduceLeDiff,quietOp,blindOp,Int.reduceEq,Int.reduceLT,Int.reduceLE,Nat.reduceLT,tiA,tiXA, hone]
  refine (IsGolf_c q g v R _ (hv.same (o1.old hs)) hl hl2).to ?_
  refine Holds.mp ?_
  have up := o1.up
  unfold glC
  obtain hE | hE : golfB q g R = true ∨ golfB q g R = false := by cases golfB q g R <;> simp
  · rw [hE, if_pos rfl]
    obtain hb | hb : b = true ∨ b = false := by cases b <;> simp
    · rw [hb, if_pos rfl]
      try simp (disch := first | omega | (simp only [ints_length, List.length_replicate, bools_length, metL_length] <;> omega)) only [Sall,evalOp,init,binA_s,binE,binI,unE,convE,okNil,builtE,gv,TD.isAgg,resV,↓reduceIte,Nat.reduceEqDiff,reduceCtorEq,Nat.reduceAdd,Nat.reduceMul,Nat.reduceLeDiff,quietOp,blindOp,Int.reduceEq,Int.reduceLT,Int.reduceLE,Nat.reduceLT,tiA,tiXA, Bool.not_true]
      exact up
    · rw [hb, if_neg (by simp)]
      try simp (disch := first | omega | (simp only [ints_length, List.length_replicate, bools_length, metL_length] <;> omega)) only [Sall,evalOp,init,binA_s,binE,binI,unE,convE,okNil,builtE,gv,TD.isAgg,resV,↓reduceIte,Nat.reduceEqDiff,reduceCtorEq,Nat.reduceAdd,Nat.reduceMul,Nat.reduceLeDiff,quietOp,blindOp,Int.reduceEq,Int.reduceLT,Int.reduceLE,Nat.reduceLT,tiA,tiXA, Bool.not_true, Bool.not_false]
      exact up
  · rw [hE, if_neg (by simp)]
    try simp (disch := first | omega | (simp only [ints_length, List.length_replicate, bools_length, metL_length] <;> omega)) only [Sall,evalOp,init,binA_s,binE,binI,unE,convE,okNil,builtE,gv,TD.isAgg,resV,↓reduceIte,Nat.reduceEqDiff,reduceCtorEq,Nat.reduceAdd,Nat.reduceMul,Nat.reduceLeDiff,quietOp,blindOp,Int.reduceEq,Int.reduceLT,Int.reduceLE,Nat.reduceLT,tiA,tiXA, Bool.not_false]
    exact up
theorem hasRound_c (q g : Int) (v : Value) (R : List (List Int)) (i : Int) (H : AH) (hv : Rd2 1 H v R) (hl : R.length ≤ 4194304) :
    ACalls Try.prog 28 [.agg #[.int .i64 q, .int .i64 g, v], .int .i64 i] H (is (.bool (decide (0 ≤ i ∧ i ≤ (R.length : Int) - 1))) H) := by
  refine acalls_up rfl (ACalls.wf (by kernel_rfl) fun hs => acalls_of_awp [.tmp 4] Try.func28 (by kernel_rfl) rfl rfl (Nat.le_of_ble_eq_true rfl) (by kernel_rfl) ?_)
  have hone := hv.one
  have o1 := golf_push hs q g v
  have up := o1.up
  try simp (disch := first | omega | (simp only [ints_length, List.length_replicate, bools_length, metL_length] <;> omega)) only [Sall,evalOp,init,binA_s,binE,binI,unE,convE,okNil,builtE,gv,TD.isAgg,resV,↓reduceIte,Nat.reduceEqDiff,reduceCtorEq,Nat.reduceAdd,Nat.reduceMul,Nat.reduceLeDiff,quietOp,blindOp,Int.reduceEq,Int.reduceLT,Int.reduceLE,Nat.reduceLT,tiA,tiXA, hone]
  refine (sizeLL_c v R _ (hv.same (o1.old hs)) (by omega)).to ?_
  refine Holds.mp ?_
  try simp (disch := first | omega | (simp only [ints_length, List.length_replicate, bools_length, metL_length] <;> omega)) only [Sall,evalOp,init,binA_s,binE,binI,unE,convE,okNil,builtE,gv,TD.isAgg,resV,↓reduceIte,Nat.reduceEqDiff,reduceCtorEq,Nat.reduceAdd,Nat.reduceMul,Nat.reduceLeDiff,quietOp,blindOp,Int.reduceEq,Int.reduceLT,Int.reduceLE,Nat.reduceLT,tiA,tiXA, w64]
  refine (between_c _ _ _ _).to ?_
  refine Holds.mp ?_
  try simp (disch := first | omega | (simp only [ints_length, List.length_replicate, bools_length, metL_length] <;> omega)) only [Sall,evalOp,init,binA_s,binE,binI,unE,convE,okNil,builtE,gv,TD.isAgg,resV,↓reduceIte,Nat.reduceEqDiff,reduceCtorEq,Nat.reduceAdd,Nat.reduceMul,Nat.reduceLeDiff,quietOp,blindOp,Int.reduceEq,Int.reduceLT,Int.reduceLE,Nat.reduceLT,tiA,tiXA, true_and]
  exact up
theorem l08Code_c (q g : Int) (v : Value) (R : List (List Int)) (i : Int) (pv : Value) (P : List Int) (H : AH) (hv : Rd2 1 H v R) (hl : R.length ≤ 4194304) (hl2 : ∀ r ∈ R, r.length ≤ 4194304) (hp : Rd 1 H pv P.length P) (hpl : P.length ≤ 4194304) :
    ACalls Try.prog 24 [.agg #[.int .i64 q, .int .i64 g, v], .int .i64 i, pv] H (is (.int .i64 (glC q g R (decide (0 ≤ i ∧ i ≤ (R.length : Int) - 1) && (List.range P.length).all fun k => decide (0 ≤ P.getD k 0 ∧ P.getD k 0 ≤ q - 1)))) H) := by
  refine acalls_up rfl (ACalls.wf (by kernel_rfl) fun hs => acalls_of_awp [.tmp 6] Try.func24 (by kernel_rfl) rfl rfl (Nat.le_of_ble_eq_true rfl) (by kernel_rfl) ?_)
  have hone := hv.one
  have hpo := hp.one
  have o1 := golf_push hs q g v
  try simp (disch := first | omega | (simp only [ints_length, List.length_replicate, bools_length, metL_length] <;> omega)) only [Sall,evalOp,init,binA_s,binE,binI,unE,convE,okNil,builtE,gv,TD.isAgg,resV,↓reduceIte,Nat.reduceEqDiff,reduceCtorEq,Nat.reduceAdd,Nat.reduceMul,Nat.reduceLeDiff,quietOp,blindOp,Int.reduceEq,Int.reduceLT,Int.reduceLE,Nat.reduceLT,tiA,tiXA, hone]
  obtain ⟨pi, epi⟩ : ∃ pi, pi = H.next := ⟨_, rfl⟩
  rw [← epi] at o1 ⊢
  generalize H.push ⟨24, true, [.int .i64 q, .int .i64 g, v]⟩ = H1 at o1 ⊢
  have up : Up pi H H1 := by rw [epi]; exact o1.up
  have e1 := (o1.rowAt 0 rfl).1
  have hv1 := hv.same (o1.old hs)
  have hp1 := hp.same (o1.old hs)
  have hvl := hv1.len
  try simp (disch := first | omega | (simp only [ints_length, List.length_replicate, bools_length, metL_length] <;> omega)) only [Sall,evalOp,init,binA_s,binE,binI,unE,convE,okNil,builtE,gv,TD.isAgg,resV,↓reduceIte,Nat.reduceEqDiff,reduceCtorEq,Nat.reduceAdd,Nat.reduceMul,Nat.reduceLeDiff,quietOp,blindOp,Int.reduceEq,Int.reduceLT,Int.reduceLE,Nat.reduceLT,tiA,tiXA, e1, hone]
  refine (l08Is_c q g v R H1 hv1 hl hl2).to ?_
  refine Holds.mp ?_
  unfold glC
  cases hE : golfB q g R with
  | false =>
    rw [if_neg (by simp)]
    try simp (disch := first | omega | (simp only [ints_length, List.length_replicate, bools_length, metL_length] <;> omega)) only [Sall,evalOp,init,binA_s,binE,binI,unE,convE,okNil,builtE,gv,TD.isAgg,resV,↓reduceIte,Nat.reduceEqDiff,reduceCtorEq,Nat.reduceAdd,Nat.reduceMul,Nat.reduceLeDiff,quietOp,blindOp,Int.reduceEq,Int.reduceLT,Int.reduceLE,Nat.reduceLT,tiA,tiXA, Bool.not_false]
    exact up
  | true =>
    rw [if_pos rfl]
    obtain ⟨n, gN, c, rfl, rfl, ec, q1, q2, q3, q4, q5, q6, q7⟩ := golfB_at hE
    try simp (disch := first | omega | (simp only [ints_length, List.length_replicate, bools_length, metL_length] <;> omega)) only [Sall,evalOp,init,binA_s,binE,binI,unE,convE,okNil,builtE,gv,TD.isAgg,resV,↓reduceIte,Nat.reduceEqDiff,reduceCtorEq,Nat.reduceAdd,Nat.reduceMul,Nat.reduceLeDiff,quietOp,blindOp,Int.reduceEq,Int.reduceLT,Int.reduceLE,Nat.reduceLT,tiA,tiXA, Bool.not_true, e1, builtE, hvl, w64]
    refine (l01In_c _ _ _ _).to ?_
    refine Holds.mp ?_
    by_cases hi : 0 ≤ i ∧ i ≤ (R.length : Int) - 1
    · rw [decide_eq_true hi, Bool.true_and]
      try simp (disch := first | omega | (simp only [ints_length, List.length_replicate, bools_length, metL_length] <;> omega)) only [Sall,evalOp,init,binA_s,binE,binI,unE,convE,okNil,builtE,gv,TD.isAgg,resV,↓reduceIte,Nat.reduceEqDiff,reduceCtorEq,Nat.reduceAdd,Nat.reduceMul,Nat.reduceLeDiff,quietOp,blindOp,Int.reduceEq,Int.reduceLT,Int.reduceLE,Nat.reduceLT,tiA,tiXA, Bool.not_true]
      refine awp_loop (fun m t H' => ∃ a : Nat, m = P.length - a ∧ a ≤ P.length ∧ t 7 = .int .i64 a ∧ t 2 = pv ∧ t 3 = .pointer (some ⟨pi, 0, none⟩) ∧ H' = H1 ∧ (∀ k, k < a → decide (0 ≤ P.getD k 0 ∧ P.getD k 0 ≤ (n : Int) - 1) = true)) P.length ?_ ?_
      · refine ⟨0, by omega, by omega, ?_⟩
        try simp (disch := first | omega | (simp only [ints_length, List.length_replicate, bools_length, metL_length] <;> omega)) only [Sall,evalOp,init,binA_s,binE,binI,unE,convE,okNil,builtE,gv,TD.isAgg,resV,↓reduceIte,Nat.reduceEqDiff,reduceCtorEq,Nat.reduceAdd,Nat.reduceMul,Nat.reduceLeDiff,quietOp,blindOp,Int.reduceEq,Int.reduceLT,Int.reduceLE,Nat.reduceLT,tiA,tiXA, Int.natCast_zero, Nat.not_lt_zero, false_implies]
      · rintro m t H' ⟨a, hm, ha, h7, h2, h3, rfl, hall⟩
        have hpl1 := hp1.len
        try simp (disch := first | omega | (simp only [ints_length, List.length_replicate, bools_length, metL_length] <;> omega)) only [Sall,evalOp,init,binA_s,binE,binI,unE,convE,okNil,builtE,gv,TD.isAgg,resV,↓reduceIte,Nat.reduceEqDiff,reduceCtorEq,Nat.reduceAdd,Nat.reduceMul,Nat.reduceLeDiff,quietOp,blindOp,Int.reduceEq,Int.reduceLT,Int.reduceLE,Nat.reduceLT,tiA,tiXA, h7, h2, builtE, hpl1]
        refine condC_dec (fun h => ?_) (fun h => ?_)
        · obtain ⟨xi, xo, xuu, xc, xr, ex, hxr, hxc, hxg, _⟩ := hp1.get (by omega)
          have g1 := hxg a (by omega)
          refine draw_id (by kernel_rfl) (by kernel_rfl) ?_
          try simp (disch := first | omega | (simp only [ints_length, List.length_replicate, bools_length, metL_length] <;> omega)) only [Sall,evalOp,init,binA_s,binE,binI,unE,convE,okNil,builtE,gv,TD.isAgg,resV,↓reduceIte,Nat.reduceEqDiff,reduceCtorEq,Nat.reduceAdd,Nat.reduceMul,Nat.reduceLeDiff,quietOp,blindOp,Int.reduceEq,Int.reduceLT,Int.reduceLE,Nat.reduceLT,tiA,tiXA, h7, h2, h3, e1, ex, hxr, g1, w64]
          (repeat refine And.intro (by omega) ?_)
          try simp (disch := first | omega | (simp only [ints_length, List.length_replicate, bools_length, metL_length] <;> omega)) only [Sall,evalOp,init,binA_s,binE,binI,unE,convE,okNil,builtE,gv,TD.isAgg,resV,↓reduceIte,Nat.reduceEqDiff,reduceCtorEq,Nat.reduceAdd,Nat.reduceMul,Nat.reduceLeDiff,quietOp,blindOp,Int.reduceEq,Int.reduceLT,Int.reduceLE,Nat.reduceLT,tiA,tiXA, h7, h2, h3, e1, ex, hxr, g1, w64]
          refine (l01In_c _ _ _ _).to ?_
          refine ⟨.inr (.inr (LE.refl _)), ?_⟩
          cases hr : decide (0 ≤ P.getD a 0 ∧ P.getD a 0 ≤ (n : Int) - 1) with
          | true =>
            try simp (disch := first | omega | (simp only [ints_length, List.length_replicate, bools_length, metL_length] <;> omega)) only [Sall,evalOp,init,binA_s,binE,binI,unE,convE,okNil,builtE,gv,TD.isAgg,resV,↓reduceIte,Nat.reduceEqDiff,reduceCtorEq,Nat.reduceAdd,Nat.reduceMul,Nat.reduceLeDiff,quietOp,blindOp,Int.reduceEq,Int.reduceLT,Int.reduceLE,Nat.reduceLT,tiA,tiXA, Bool.not_true, h7, h2, h3, w64]
            refine ⟨P.length - (a + 1), by omega, a + 1, rfl, by omega, by omega, fun k hk => ?_⟩
            by_cases e : k = a
            · rw [e]; exact hr
            · exact hall k (by omega)
          | false =>
            try simp (disch := first | omega | (simp only [ints_length, List.length_replicate, bools_length, metL_length] <;> omega)) only [Sall,evalOp,init,binA_s,binE,binI,unE,convE,okNil,builtE,gv,TD.isAgg,resV,↓reduceIte,Nat.reduceEqDiff,reduceCtorEq,Nat.reduceAdd,Nat.reduceMul,Nat.reduceLeDiff,quietOp,blindOp,Int.reduceEq,Int.reduceLT,Int.reduceLE,Nat.reduceLT,tiA,tiXA, Bool.not_false]
            rw [all_false_of (i := a) (by omega) hr]
            exact ⟨rfl, up⟩
        · try simp (disch := first | omega | (simp only [ints_length, List.length_replicate, bools_length, metL_length] <;> omega)) only [Sall,evalOp,init,binA_s,binE,binI,unE,convE,okNil,builtE,gv,TD.isAgg,resV,↓reduceIte,Nat.reduceEqDiff,reduceCtorEq,Nat.reduceAdd,Nat.reduceMul,Nat.reduceLeDiff,quietOp,blindOp,Int.reduceEq,Int.reduceLT,Int.reduceLE,Nat.reduceLT,tiA,tiXA, true_and]
          have ha2 : a = P.length := by omega
          subst ha2
          rw [all_true_of hall]
          exact ⟨rfl, up⟩
    · rw [decide_eq_false hi, Bool.false_and]
      try simp (disch := first | omega | (simp only [ints_length, List.length_replicate, bools_length, metL_length] <;> omega)) only [Sall,evalOp,init,binA_s,binE,binI,unE,convE,okNil,builtE,gv,TD.isAgg,resV,↓reduceIte,Nat.reduceEqDiff,reduceCtorEq,Nat.reduceAdd,Nat.reduceMul,Nat.reduceLeDiff,quietOp,blindOp,Int.reduceEq,Int.reduceLT,Int.reduceLE,Nat.reduceLT,tiA,tiXA, Bool.not_false]
      exact up
end Go.Proofs.Ytollphjompimjaa.A
end

section
namespace Go.Abs
open Go Go.RowKit
def Rg (H : AH) (v : Value) (ll : List (List Int)) : Prop :=
  (ll = [] ∧ ∃ a c, v = .slice a 0 c ∧ (a = none → c = 0)) ∨ ∃ i o u c r, v = .slice (some ⟨i, o, u⟩) ll.length c ∧ H.row i = some r ∧
    ∀ j, j < ll.length → ∃ x m, r.cells[o + j]? = some x ∧ Rs 1 H x m (ll.getD j [])
theorem Rg.rd2 {H : AH} {v : Value} {ll : List (List Int)} (h : Rg H v ll) : Rd2 1 H v ll := by
  rcases h with h | ⟨i, o, u, c, r, hv, hr, hj⟩
  · exact .inl h
  · refine .inr ⟨i, o, u, c, r, hv, hr, fun j hjl => ?_⟩
    obtain ⟨x, m, hx, hf⟩ := hj j hjl
    exact ⟨x, m, hx, hf.rd⟩
theorem Rg.same {H H' : AH} {v : Value} {ll : List (List Int)} (h : Rg H v ll) (hs : ∀ i r, H.row i = some r → H'.row i = some r) : Rg H' v ll := by
  rcases h with h | ⟨i, o, u, c, r, hv, hr, hj⟩
  · exact .inl h
  · refine .inr ⟨i, o, u, c, r, hv, hs _ _ hr, fun j hjl => ?_⟩
    obtain ⟨x, m, hx, hf⟩ := hj j hjl
    exact ⟨x, m, hx, hf.same hs⟩
theorem Rg.len {H : AH} {v : Value} {ll : List (List Int)} (h : Rg H v ll) (H' : AH) : asSl v (.val (.int .i64 0) H') (fun _ _ _ n _ => .val (.int .i64 (n : Int)) H') = .val (.int .i64 (ll.length : Int)) H' := h.rd2.len H'
theorem Rg.one {H : AH} {v : Value} {ll : List (List Int)} (h : Rg H v ll) : v.oneCell' = true := h.rd2.one
theorem Rg.get {H : AH} {v : Value} {ll : List (List Int)} (h : Rg H v ll) {j : Nat} (hj : j < ll.length) :
    ∃ i o u c r x, v = .slice (some ⟨i, o, u⟩) ll.length c ∧ H.row i = some r ∧ r.cells[o + j]? = some x ∧ Rs 1 H x (ll.getD j []).length (ll.getD j []) ∧ Row.ok r [x] := by
  rcases h with ⟨rfl, _⟩ | ⟨i, o, u, c, r, rfl, hr, h3⟩
  · simp at hj
  · obtain ⟨x, m, hx, hf⟩ := h3 j hj
    have hm := hf.rd.lenK1
    subst hm
    exact ⟨i, o, u, c, r, x, rfl, hr, hx, hf, ok_one hf.rd.one⟩
theorem sl2_rg {ty ty' : TypeId} {v : Value} {ll : List (List Int)} {H : AH} {S : Nat → Prop} (hp : (Th.sl2 (Value.int .i64) ty ty' v ll).p H S) : Rg H v ll := by
  rcases hp with ⟨h1, h2⟩ | ⟨i, vs, o, h1, h2, h3, h4, h5, h6⟩
  · exact .inl ⟨h1, none, 0, h2, fun _ => rfl⟩
  · refine .inr ⟨i, 0, some 1, _, _, h3, h4, fun j hj => ?_⟩
    obtain ⟨x, hx, hq⟩ := h6 j hj
    have hf : (Th.sl 1 ty' x (ll.getD j []).length (ints (ll.getD j []))).p H (fun z => S z ∧ o z = j + 1) := hq
    exact ⟨x, _, by simpa using hx, cap_rs (cap_of_sl hf)⟩
theorem Ow.rg {B H : AH} {L : List Th} (h : Ow B H L) (k : Nat) {ty ty' : TypeId} {v : Value} {ll : List (List Int)} (hk : L[k]? = some (.sl2 (Value.int .i64) ty ty' v ll)) : Rg H v ll := by
  obtain ⟨S, _, hp⟩ := h.at hk
  exact sl2_rg hp
theorem Ow.rs {B H : AH} {L : List Th} (h : Ow B H L) (k : Nat) {z n : Nat} {ty : TypeId} {v : Value} {l : List Int} (hk : L[k]? = some (.sl z ty v n (ints l))) : Rs z H v n l := by
  obtain ⟨S, _, hp⟩ := h.at hk
  exact cap_rs (cap_of_sl hp)
def RowsC (vs : List Value) (ll : List (List Int)) (H : AH) : Prop := vs.length = ll.length ∧ ∀ j, j < ll.length → ∃ x, vs[j]? = some x ∧ Rs 1 H x (ll.getD j []).length (ll.getD j [])
theorem RowsC.nil (H : AH) : RowsC [] [] H := ⟨rfl, fun j h => by simp at h⟩
theorem RowsC.snoc {vs : List Value} {ll : List (List Int)} {H : AH} {x : Value} {l : List Int} (h : RowsC vs ll H) (hx : Rs 1 H x l.length l) : RowsC (vs ++ [x]) (ll ++ [l]) H := by
  refine ⟨by simp [h.1], fun j hj => ?_⟩
  rw [List.length_append, List.length_singleton] at hj
  by_cases e : j < ll.length
  · obtain ⟨y, h1, h2⟩ := h.2 j e
    have e2 : (ll ++ [l]).getD j [] = ll.getD j [] := by rw [List.getD_eq_getElem?_getD, List.getD_eq_getElem?_getD, List.getElem?_append_left e]
    rw [e2]
    exact ⟨y, by rw [List.getElem?_append_left (by rw [h.1]; exact e)]; exact h1, h2⟩
  · obtain rfl : j = ll.length := by omega
    have e2 : (ll ++ [l]).getD ll.length [] = l := by rw [List.getD_eq_getElem?_getD, List.getElem?_append_right (Nat.le_refl _), Nat.sub_self]; rfl
    rw [e2]
    exact ⟨x, by rw [← h.1, List.getElem?_append_right (Nat.le_refl _), Nat.sub_self]; rfl, hx⟩
theorem RowsC.app {vs ws : List Value} {ll mm : List (List Int)} {H : AH} (h : RowsC vs ll H) (k : RowsC ws mm H) : RowsC (vs ++ ws) (ll ++ mm) H := by
  refine ⟨by simp [h.1, k.1], fun j hj => ?_⟩
  rw [List.length_append] at hj
  by_cases e : j < ll.length
  · obtain ⟨y, h1, h2⟩ := h.2 j e
    have e2 : (ll ++ mm).getD j [] = ll.getD j [] := by rw [List.getD_eq_getElem?_getD, List.getD_eq_getElem?_getD, List.getElem?_append_left e]
    rw [e2]
    exact ⟨y, by rw [List.getElem?_append_left (by rw [h.1]; exact e)]; exact h1, h2⟩
  · obtain ⟨y, h1, h2⟩ := k.2 (j - ll.length) (by omega)
    have e2 : (ll ++ mm).getD j [] = mm.getD (j - ll.length) [] := by rw [List.getD_eq_getElem?_getD, List.getD_eq_getElem?_getD, List.getElem?_append_right (by omega)]
    rw [e2]
    exact ⟨y, by rw [List.getElem?_append_right (by rw [h.1]; omega), h.1]; exact h1, h2⟩
theorem RowsC.rg {ty : TypeId} {vs : List Value} {ll : List (List Int)} {H : AH} {S : Nat → Prop} {u : Value} {m : Nat} (h : RowsC vs ll H) (hp : (Th.sl 1 ty u m vs).p H S) : Rg H u ll := by
  have hm : m = ll.length := by have := hp.1; have := h.1; omega
  rcases hp.2 with ⟨h0, h1⟩ | ⟨i, _, h1, h2⟩
  · exact .inl ⟨List.eq_nil_of_length_eq_zero (by omega), none, 0, h1, fun _ => rfl⟩
  · refine .inr ⟨i, 0, some 1, _, _, by rw [h1, hm], h2, fun j hj => ?_⟩
    obtain ⟨x, hx, hr⟩ := h.2 j hj
    exact ⟨x, _, by simpa using hx, hr⟩
def Rc (u : Value) (ws : List Value) (ll : List (List Int)) (H : AH) : Prop :=
  RowsC ws ll H ∧ ((u = .slice none 0 0 ∧ ws = []) ∨ ∃ i o s c r, u = .slice (some ⟨i, o, s⟩) ws.length c ∧ H.row i = some r ∧ o + ws.length ≤ r.cells.length ∧ seg r.cells o ws.length = ws)
theorem Rc.rg {u : Value} {ws : List Value} {ll : List (List Int)} {H : AH} (h : Rc u ws ll H) : Rg H u ll := by
  obtain ⟨h1, h2⟩ := h
  rcases h2 with ⟨e1, e2⟩ | ⟨i, o, s, c, r, e1, h3, h4, h5⟩
  · exact .inl ⟨List.eq_nil_of_length_eq_zero (by rw [← h1.1, e2]; rfl), none, 0, e1, fun _ => rfl⟩
  · refine .inr ⟨i, o, s, c, r, by rw [e1, h1.1], h3, fun j hj => ?_⟩
    obtain ⟨x, hx, hr⟩ := h1.2 j hj
    refine ⟨x, _, ?_, hr⟩
    rw [← h5] at hx
    simp only [seg, List.getElem?_take, List.getElem?_drop] at hx
    rw [if_pos (by rw [h1.1]; exact hj)] at hx
    exact hx
theorem Ow.setTwice {B H : AH} {ty : TypeId} {v : Value} {n z : Nat} {vs vs' : List Value} (h : Ow B H [.sl z ty v n vs]) (i : Nat) (hv : v = .slice (some ⟨i, 0, some z⟩) n n) (ws : List Value) (hl : vs'.length = vs.length) (hw : ws.length = vs.length) :
    Ow B ((H.setCells i ws).setCells i vs') [.sl z ty v n vs'] := by
  subst hv
  have h1 := h.put 0 rfl (vs' := ws) hw
  have h1 : Ow B (H.setCells i ws) [.sl z ty (.slice (some ⟨i, 0, some z⟩) n n) n ws] := h1
  exact h1.put 0 rfl (vs' := vs') (by rw [hl, hw])
theorem Ow.rowNew {B H H' : AH} {L : List Th} (h : Ow B H L) (k : Nat) {z n i m c o : Nat} {u : Option Nat} {ty : TypeId} {vs vs' : List Value} (hk : L[k]? = some (.sl z ty (.slice (some ⟨i, o, u⟩) m c) n vs)) (hl : vs'.length = vs.length) (hn : H.next ≤ H'.next) (hs : Sc H')
    (hr : ∀ j, j < H.next → ¬ j = i → H'.row j = H.row j) (hi : H'.row i = some ⟨ty, true, vs'⟩) : Ow B H' (L.set k (.sl z ty (.slice (some ⟨i, o, u⟩) m c) n vs')) := by
  refine h.upd hk hn hs fun S hS hp => ?_
  have hiS := sl_mem S hp
  refine ⟨fun j hj hjS => hr j hj fun e => hjS (by rw [e]; exact hiS), fun S' hS' _ => ?_⟩
  rcases hp.2 with ⟨_, h1⟩ | ⟨i', h1, h2, h3⟩
  · cases h1
  · cases h2
    exact ⟨by rw [hl]; exact hp.1, .inr ⟨i, hS' i h1, rfl, hi⟩⟩
theorem Ow.seeStab {B H : AH} {L : List Th} (h : Ow B H L) (j k : Nat) {Q : AH → Prop} {z n i m c o : Nat} {u : Option Nat} {ty : TypeId} {vs : List Value} (hj : L[j]? = some (.see Q)) (hk : L[k]? = some (.sl z ty (.slice (some ⟨i, o, u⟩) m c) n vs)) (hjk : j ≠ k) {H' : AH}
    (hr : ∀ x, x < H.next → ¬ x = i → H'.row x = H.row x) : Q H' := by
  obtain ⟨o', ho⟩ := h.own
  have h1 := ho j _ hj
  have h2 := sl_mem _ (ho k _ hk)
  refine h1 H' fun x r hx hxr => ?_
  rw [hr x hx.2.1 (fun e => by rw [e] at hx; exact hjk (hx.2.2.symm.trans h2.2.2))]
  exact hxr
def RowsP (ps : List (Value × List Int)) (H : AH) : Prop := ∀ p ∈ ps, Rs 1 H p.1 p.2.length p.2
theorem RowsP.snoc {ps : List (Value × List Int)} {H : AH} {x : Value} {l : List Int} (h : RowsP ps H) (hx : Rs 1 H x l.length l) : RowsP (ps ++ [(x, l)]) H := by
  intro p hp
  rcases List.mem_append.1 hp with hp | hp
  · exact h p hp
  · rw [List.mem_singleton] at hp; rw [hp]; exact hx
theorem Ow.addP {B H : AH} {L : List Th} (h : Ow B H L) (k m : Nat) {ps : List (Value × List Int)} {q : Th} {x : Value} {l : List Int} (hk : L[k]? = some (.see (RowsP ps))) (hm : L[m]? = some q) (hkm : k ≠ m) (hq : ∀ H S, q.p H S → Rs 1 H x l.length l) :
    Ow B H (((L.set k ((Th.see (RowsP ps)).both q)).set m .no).set k (.see (RowsP (ps ++ [(x, l)])))) := by
  have hM := h.merge k m hk hm hkm
  refine hM.toSee k (p := (Th.see (RowsP ps)).both q) ?_ fun H S hp => ?_
  · rw [List.getElem?_set, if_neg (fun e => hkm e.symm), List.getElem?_set, if_pos rfl, if_pos (List.getElem?_eq_some_iff.1 hk).1]
  · obtain ⟨o, h1, h2⟩ := hp
    exact (h1 H fun _ _ _ h => h).snoc (hq _ _ h2)
theorem sl_rs {ty : TypeId} {k n : Nat} {v : Value} {l : List Int} {H : AH} {S : Nat → Prop} (hp : (Th.sl k ty v n (ints l)).p H S) : Rs k H v n l := cap_rs (cap_of_sl hp)
theorem Ow.slC {P : Program} {B H H' : AH} {L : List Th} (h : Ow B H L) (k : Nat) {z n : Nat} {ty : TypeId} {v : Value} {vs : List Value} (hk : L[k]? = some (.sl z ty v n vs)) (hn : 0 < n) {f : List Value → Nat → Out} {K : Value → AH → Prop} (hf : runOut P H' (f vs n) K) : runOut P H' (slCells H z v f) K := by
  obtain ⟨i, _, _, rfl, hr⟩ := h.get k hk hn
  have hl := h.len k hk
  unfold slCells
  simp only [asSl_some, hr, bindO_some, runOut_need, Nat.zero_add, hl, seg_all _ _ hl.symm]
  exact ⟨⟨Nat.le_refl _, .inl rfl⟩, hf⟩
theorem Rd.slC {P : Program} {H H' : AH} {n : Nat} {v : Value} {l : List Int} (h : Rd 1 H v n l) (hn : 0 < n) {f : List Value → Nat → Out} {K : Value → AH → Prop} (hf : runOut P H' (f (ints l) n) K) : runOut P H' (slCells H 1 v f) K := by
  obtain ⟨i, o, u, c, r, rfl, hr, h2, h3, h4⟩ := h.get hn
  have h5 := h4 0 n (by omega)
  rw [List.drop_zero, List.take_of_length_le (by have := h.1; omega), Nat.add_zero] at h5
  unfold slCells
  simp only [asSl_some, hr, bindO_some, runOut_need, Nat.mul_one, h5]
  exact ⟨⟨by omega, (ok_ints _ _).symm ▸ trivial⟩, hf⟩
end Go.Abs
end

section
namespace Go.Abs
/-! ### Insertion -/
structure Ins {α : Type} (key : α → Int) (l : List α) (i : Nat) (A : List α) (x : α) (B C : List α) : Prop where
  eq : l = A ++ x :: (B ++ C)
  len : A.length + B.length = i
  srt : (A ++ B).Pairwise fun a b => key a ≤ key b
  hx : ∀ b ∈ B, key x ≤ key b
theorem Ins.start {α : Type} {key : α → Int} {l : List α} {i : Nat} (h : (l.take i).Pairwise fun a b => key a ≤ key b) (hi : i < l.length) : Ins key l i (l.take i) l[i] [] (l.drop (i + 1)) := by
  refine ⟨?_, by rw [List.length_take, List.length_nil]; omega, by rw [List.append_nil]; exact h, fun b hb => by simp at hb⟩
  rw [List.nil_append, ← List.drop_eq_getElem_cons hi, List.take_append_drop]
theorem Ins.exit0 {α : Type} {key : α → Int} {l : List α} {i : Nat} {x : α} {B C : List α} (h : Ins key l i [] x B C) : (l.take (i + 1)).Pairwise fun a b => key a ≤ key b := by
  have hl : B.length = i := by have := h.len; simp at this; exact this
  rw [h.eq, List.nil_append, List.take_succ_cons, List.take_left' hl, List.pairwise_cons]
  exact ⟨h.hx, h.srt⟩
theorem Ins.exit1 {α : Type} {key : α → Int} {l : List α} {i : Nat} {A : List α} {z x : α} {B C : List α} (h : Ins key l i (A ++ [z]) x B C) (hz : key z ≤ key x) : (l.take (i + 1)).Pairwise fun a b => key a ≤ key b := by
  have e : l = (A ++ [z] ++ x :: B) ++ C := by rw [h.eq]; simp
  have hl : (A ++ [z] ++ x :: B).length = i + 1 := by have := h.len; rw [List.length_append, List.length_cons]; omega
  rw [e, List.take_left' hl]
  have hs := h.srt
  rw [List.pairwise_append] at hs
  obtain ⟨h1, h2, h3⟩ := hs
  rw [List.pairwise_append]
  refine ⟨h1, ?_, ?_⟩
  · rw [List.pairwise_cons]; exact ⟨h.hx, h2⟩
  · intro a ha b hb
    rcases List.mem_cons.1 hb with rfl | hb
    · rw [List.pairwise_append] at h1
      rcases List.mem_append.1 ha with ha | ha
      · have := h1.2.2 a ha z (by simp)
        omega
      · rw [List.mem_singleton] at ha
        rw [ha]; exact hz
    · exact h3 a ha b hb
theorem Ins.step {α : Type} {key : α → Int} {l : List α} {i : Nat} {A : List α} {z x : α} {B C : List α} (h : Ins key l i (A ++ [z]) x B C) (hz : key x ≤ key z) : Ins key (A ++ x :: (z :: B ++ C)) i A x (z :: B) C ∧ (A ++ x :: (z :: B ++ C)).Perm l := by
  refine ⟨⟨rfl, ?_, ?_, ?_⟩, ?_⟩
  · have := h.len
    simp at this ⊢
    omega
  · have := h.srt
    simpa using this
  · intro b hb
    rcases List.mem_cons.1 hb with rfl | hb
    · exact hz
    · exact h.hx b hb
  · rw [h.eq]
    rw [List.append_assoc]
    exact List.Perm.append_left A (by simpa using List.Perm.swap z x (B ++ C))
theorem Ins.at {α : Type} {key : α → Int} {l : List α} {i : Nat} {A : List α} {x : α} {B C : List α} (h : Ins key l i A x B C) : l[A.length]? = some x := by
  rw [h.eq, List.getElem?_append_right (Nat.le_refl _), Nat.sub_self]; rfl
theorem Ins.at1 {α : Type} {key : α → Int} {l : List α} {i : Nat} {A : List α} {z x : α} {B C : List α} (h : Ins key l i (A ++ [z]) x B C) : l[A.length]? = some z := by
  rw [h.eq, List.append_assoc, List.getElem?_append_right (Nat.le_refl _), Nat.sub_self]; rfl
theorem Ins.swap {α : Type} {key : α → Int} {l : List α} {i : Nat} {A : List α} {z x : α} {B C : List α} (h : Ins key l i (A ++ [z]) x B C) : (l.set (A.length + 1) z).set A.length x = A ++ x :: (z :: B ++ C) := by
  rw [h.eq, List.append_assoc]
  rw [List.set_append_right _ _ (by omega), List.set_append_right _ _ (by omega)]
  rw [Nat.add_sub_cancel_left, Nat.sub_self]
  rfl
theorem Ins.len_all {α : Type} {key : α → Int} {l : List α} {i : Nat} {A : List α} {x : α} {B C : List α} (h : Ins key l i A x B C) : A.length + 1 + B.length + C.length = l.length := by
  rw [h.eq]; simp; omega
theorem cons_end {α : Type} {A : List α} (h : 0 < A.length) : ∃ A' z, A = A' ++ [z] := ⟨A.dropLast, A.getLast (by intro e; rw [e] at h; simp at h), (List.dropLast_concat_getLast _).symm⟩
theorem key_unique {α : Type} (key : α → Int) : ∀ {a b : List α}, a.Perm b → a.Pairwise (fun x y => key x < key y) → b.Pairwise (fun x y => key x < key y) → a = b
  | [], b, h, _, _ => by rw [List.nil_perm] at h; exact h.symm
  | x :: a, [], h, _, _ => by rw [List.perm_nil] at h; exact h
  | x :: a, y :: b, h, ha, hb => by
    have hxy : x = y := by
      have h1 : x ∈ y :: b := h.subset List.mem_cons_self
      have h2 : y ∈ x :: a := h.symm.subset List.mem_cons_self
      rcases List.mem_cons.1 h1 with e | e
      · exact e
      · rcases List.mem_cons.1 h2 with e2 | e2
        · exact e2.symm
        · have := List.rel_of_pairwise_cons ha e2
          have := List.rel_of_pairwise_cons hb e
          omega
    subst hxy
    rw [key_unique key ((List.perm_cons x).1 h) ha.of_cons hb.of_cons]
/-! ### Groups -/
def ixOf (l : List Int) (a : Int) : Nat := (firstI (fun i => l.getD i 0 == a) l.length).toNat
theorem ixOf_at {n : Nat} {l : List Int} (h : ordB n l = true) {i : Nat} (hi : i < n) : firstI (fun j => l.getD j 0 == l.getD i 0) l.length = (i : Int) := by
  obtain ⟨h1, h2, h3⟩ := (ordB_iff n l).1 h
  refine firstI_at (by omega) (by simp) fun x hx => ?_
  rw [beq_eq_false_iff_ne]
  exact getD_ne h3 (by omega) (by omega) (by omega)
theorem ord_has {n : Nat} {l : List Int} (h : ordB n l = true) {a : Int} (ha : 0 ≤ a ∧ a < n) : ∃ i, i < n ∧ l.getD i 0 = a := by
  obtain ⟨i, hi, e⟩ := (bij_of h).onto a.toNat (by omega)
  have h2 := ((ordB_iff n l).1 h).2.1 (l.getD i 0) (getD_memI (by rw [((ordB_iff n l).1 h).1]; exact hi))
  exact ⟨i, hi, by unfold sgR at e; omega⟩
def blkL (g : Nat) (l : List Int) (t : Nat) : List Int := sortedL ((l.drop (t * g)).take g)
def grpL (g : Nat) (l : List Int) (a : Int) : List Int := blkL g l (ixOf l a / g)
theorem grpL_at {n g : Nat} {l : List Int} (h : ordB n l = true) {i : Nat} (hi : i < n) : grpL g l (l.getD i 0) = blkL g l (i / g) := by
  unfold grpL ixOf
  rw [ixOf_at h hi, Int.toNat_natCast]
theorem blk_len {n g c : Nat} (hn : n = g * c) {l : List Int} (h : ordB n l = true) {t : Nat} (ht : t < c) : (blkL g l t).length = g := by
  unfold blkL
  rw [sortedL_length, List.length_take, List.length_drop, ((ordB_iff n l).1 h).1]
  have : (t + 1) * g ≤ c * g := Nat.mul_le_mul_right g ht
  rw [Nat.succ_mul, Nat.mul_comm c] at this
  omega
theorem blk_mem {n g c : Nat} (hg : 0 < g) (hn : n = g * c) {l : List Int} (h : ordB n l = true) {t : Nat} {x : Int} : x ∈ blkL g l t ↔ ∃ i, i < n ∧ i / g = t ∧ l.getD i 0 = x := by
  have hl := ((ordB_iff n l).1 h).1
  unfold blkL
  rw [(sortedL_perm _).mem_iff, List.mem_iff_getElem?]
  constructor
  · rintro ⟨j, hj⟩
    rw [List.getElem?_take] at hj
    split at hj
    · rename_i hjg
      rw [List.getElem?_drop] at hj
      have h1 : t * g + j < l.length := (List.getElem?_eq_some_iff.1 hj).1
      refine ⟨t * g + j, by omega, ?_, ?_⟩
      · rw [Nat.add_comm, Nat.add_mul_div_right _ _ hg, Nat.div_eq_of_lt hjg, Nat.zero_add]
      · rw [List.getD_eq_getElem?_getD, hj]; rfl
    · cases hj
  · rintro ⟨i, hi, rfl, rfl⟩
    obtain ⟨h1, h2⟩ := (div_block (x := i) (y := i) hg).2 rfl
    refine ⟨i - i / g * g, ?_⟩
    rw [List.getElem?_take, if_pos (by omega), List.getElem?_drop, show i / g * g + (i - i / g * g) = i by omega, List.getD_eq_getElem?_getD, List.getElem?_eq_getElem (by omega)]
    rfl
def hdL (r : List Int) : Int := r.getD 0 0
theorem hd_blk {n g c : Nat} (hg : 0 < g) (hn : n = g * c) {l : List Int} (h : ordB n l = true) {t : Nat} (ht : t < c) : hdL (blkL g l t) ∈ blkL g l t ∧ ∀ x ∈ blkL g l t, hdL (blkL g l t) ≤ x := by
  have hl := blk_len hn h ht
  refine ⟨getD_memI (by omega), fun x hx => ?_⟩
  have hs := sortedL_sorted ((l.drop (t * g)).take g)
  unfold hdL blkL at *
  generalize sortedL ((l.drop (t * g)).take g) = r at *
  cases r with
  | nil => simp at hx
  | cons a z =>
    rcases List.mem_cons.1 hx with rfl | hx
    · exact Int.le_refl _
    · exact List.rel_of_pairwise_cons hs hx
theorem blk_same {n g c : Nat} (hg : 0 < g) (hn : n = g * c) {l : List Int} (h : ordB n l = true) {t u : Nat} {x : Int} (h1 : x ∈ blkL g l t) (h2 : x ∈ blkL g l u) : t = u := by
  obtain ⟨i, hi, rfl, e⟩ := (blk_mem hg hn h).1 h1
  obtain ⟨j, hj, rfl, e2⟩ := (blk_mem hg hn h).1 h2
  obtain ⟨l1, _, l3⟩ := (ordB_iff n l).1 h
  by_cases e3 : i = j
  · rw [e3]
  · exact absurd (e.trans e2.symm) (getD_ne l3 (by omega) (by omega) e3)
theorem grp_blk {n g c : Nat} (hg : 0 < g) (hn : n = g * c) {l : List Int} (h : ordB n l = true) {t : Nat} {x : Int} (hx : x ∈ blkL g l t) : grpL g l x = blkL g l t := by
  obtain ⟨i, hi, rfl, e⟩ := (blk_mem hg hn h).1 hx
  rw [← e, grpL_at h hi]
theorem grp_own {n g c : Nat} (hg : 0 < g) (hn : n = g * c) {l : List Int} (h : ordB n l = true) {a : Int} (ha : 0 ≤ a ∧ a < n) : ∃ t, t < c ∧ grpL g l a = blkL g l t ∧ a ∈ grpL g l a := by
  obtain ⟨i, hi, e⟩ := ord_has h ha
  refine ⟨i / g, by rw [Nat.div_lt_iff_lt_mul hg, Nat.mul_comm, ← hn]; exact hi, by rw [← e, grpL_at h hi], ?_⟩
  rw [← e, grpL_at h hi]
  exact (blk_mem hg hn h).2 ⟨i, hi, rfl, rfl⟩
/-! ### Tidy rounds -/
def tidF (g : Nat) (l : List Int) : Nat → List Int
  | 0 => []
  | a + 1 => if (tidF g l a).contains (a : Int) = true then tidF g l a else tidF g l a ++ grpL g l (a : Int)
theorem tidF_succ (g : Nat) (l : List Int) (a : Nat) : tidF g l (a + 1) = if (tidF g l a).contains (a : Int) = true then tidF g l a else tidF g l a ++ grpL g l (a : Int) := rfl
theorem tidF_le {n g c : Nat} (hg : 0 < g) (hn : n = g * c) {l : List Int} (h : ordB n l = true) : ∀ a, a ≤ n → (tidF g l a).length ≤ a * g
  | 0, _ => by simp [tidF]
  | a + 1, ha => by
    have ih := tidF_le hg hn h a (by omega)
    obtain ⟨t, ht, e1, _⟩ := grp_own hg hn h (a := (a : Int)) (by omega)
    have hl := blk_len hn h ht
    rw [← e1] at hl
    rw [tidF_succ, Nat.succ_mul]
    split
    · omega
    · rw [List.length_append]; omega
def isHd (g : Nat) (l : List Int) (a : Nat) : Bool := hdL (grpL g l (a : Int)) == (a : Int)
def hdsL (g : Nat) (l : List Int) (a : Nat) : List (List Int) := ((List.range a).filter (isHd g l)).map fun (a : Nat) => grpL g l (a : Int)
theorem hdsL_succ (g : Nat) (l : List Int) (a : Nat) : hdsL g l (a + 1) = hdsL g l a ++ if isHd g l a = true then [grpL g l (a : Int)] else [] := by
  unfold hdsL
  rw [List.range_succ, List.filter_append, List.map_append]
  congr 1
  by_cases h : isHd g l a = true
  · rw [if_pos h]; simp [h]
  · rw [if_neg h]; simp [h]
theorem mem_hdsL {g : Nat} {l : List Int} {n : Nat} {r : List Int} : r ∈ hdsL g l n ↔ ∃ a : Nat, a < n ∧ isHd g l a = true ∧ grpL g l (a : Int) = r := by
  unfold hdsL
  rw [List.mem_map]
  constructor
  · rintro ⟨a, ha, rfl⟩
    rw [List.mem_filter, List.mem_range] at ha
    exact ⟨a, ha.1, ha.2, rfl⟩
  · rintro ⟨a, ha, h, rfl⟩
    exact ⟨a, by rw [List.mem_filter, List.mem_range]; exact ⟨ha, h⟩, rfl⟩
theorem tidF_hds {n g c : Nat} (hg : 0 < g) (hn : n = g * c) {l : List Int} (h : ordB n l = true) : ∀ a, a ≤ n → tidF g l a = (hdsL g l a).flatten
  | 0, _ => rfl
  | a + 1, ha => by
    have ih := tidF_hds hg hn h a (by omega)
    have ha2 : (0 : Int) ≤ (a : Int) ∧ (a : Int) < n := by omega
    obtain ⟨t, ht, e1, e2⟩ := grp_own hg hn h ha2
    have hb := hd_blk hg hn h ht
    rw [← e1] at hb
    have key : (tidF g l a).contains (a : Int) = true ↔ isHd g l a = false := by
      rw [List.contains_iff_mem, ih, List.mem_flatten]
      unfold isHd
      rw [beq_eq_false_iff_ne]
      constructor
      · rintro ⟨r, hr, hx⟩ e
        obtain ⟨b, hba, hbh, rfl⟩ := mem_hdsL.1 hr
        have hb2 : (0 : Int) ≤ (b : Int) ∧ (b : Int) < n := by omega
        obtain ⟨u, hu, e3, e4⟩ := grp_own hg hn h hb2
        have e5 : hdL (grpL g l (b : Int)) = (b : Int) := by unfold isHd at hbh; exact beq_iff_eq.1 hbh
        rw [e3] at hx
        have e6 := grp_blk hg hn h hx
        rw [e6, ← e3, e5] at e
        omega
      · intro e
        have hlt : hdL (grpL g l (a : Int)) < a := by have := hb.2 _ e2; omega
        have hm := hb.1
        have hr0 : 0 ≤ hdL (grpL g l (a : Int)) := by
          rw [e1] at hm
          obtain ⟨i, hi, _, e7⟩ := (blk_mem hg hn h).1 hm
          rw [e1, ← e7]
          exact (((ordB_iff n l).1 h).2.1 _ (getD_memI (by rw [((ordB_iff n l).1 h).1]; exact hi))).1
        obtain ⟨b, hb'⟩ : ∃ b : Nat, hdL (grpL g l (a : Int)) = b := ⟨(hdL (grpL g l (a : Int))).toNat, by omega⟩
        have e8 : grpL g l (b : Int) = grpL g l (a : Int) := by
          rw [e1] at hm hb' ⊢
          rw [hb'] at hm
          exact grp_blk hg hn h hm
        refine ⟨grpL g l (a : Int), mem_hdsL.2 ⟨b, by omega, ?_, e8⟩, e2⟩
        unfold isHd
        rw [e8, hb']
        exact beq_self_eq_true _
    rw [hdsL_succ, List.flatten_append, ← ih]
    rw [tidF_succ]
    by_cases hc : (tidF g l a).contains (a : Int) = true
    · rw [if_pos hc, key.1 hc, if_neg (by simp)]
      simp
    · have : isHd g l a = true := by
        cases e : isHd g l a with
        | true => rfl
        | false => exact absurd (key.2 e) hc
      rw [if_neg hc, if_pos this]
      simp
theorem hds_sorted (g : Nat) (l : List Int) : ∀ n, (hdsL g l n).Pairwise fun x y => hdL x < hdL y
  | 0 => by simp [hdsL]
  | n + 1 => by
    rw [hdsL_succ, List.pairwise_append]
    refine ⟨hds_sorted g l n, ?_, ?_⟩
    · split <;> simp
    · intro x hx y hy
      split at hy
      · rename_i hh
        rw [List.mem_singleton] at hy
        subst hy
        obtain ⟨b, hbn, hb, rfl⟩ := mem_hdsL.1 hx
        unfold isHd at hb hh
        have h1 := beq_iff_eq.1 hb
        have h2 := beq_iff_eq.1 hh
        rw [h1, h2]
        omega
      · simp at hy
def blksL (g c : Nat) (l : List Int) : List (List Int) := (List.range c).map (blkL g l)
theorem blks_hd {n g c : Nat} (hg : 0 < g) (hn : n = g * c) {l : List Int} (h : ordB n l = true) {t u : Nat} (ht : t < c) (hu : u < c) (e : hdL (blkL g l t) = hdL (blkL g l u)) : t = u := by
  have h1 := (hd_blk hg hn h ht).1
  have h2 := (hd_blk hg hn h hu).1
  rw [← e] at h2
  exact blk_same hg hn h h1 h2
theorem blks_nodup {n g c : Nat} (hg : 0 < g) (hn : n = g * c) {l : List Int} (h : ordB n l = true) : (blksL g c l).Pairwise fun x y => hdL x ≠ hdL y := by
  unfold blksL
  rw [List.pairwise_map]
  refine List.Pairwise.imp_of_mem ?_ (List.nodup_range (n := c))
  intro a b ha hb hab e
  exact hab (blks_hd hg hn h (by simpa using ha) (by simpa using hb) e)
theorem tid_sorted {n g c : Nat} (hg : 0 < g) (hn : n = g * c) {l : List Int} (h : ordB n l = true) {G : List (List Int)} (hp : G.Perm (blksL g c l)) (hs : G.Pairwise fun x y => hdL x ≤ hdL y) : G.flatten = tidF g l n := by
  rw [tidF_hds hg hn h n (Nat.le_refl _)]
  congr 1
  have hnd : G.Pairwise fun x y => hdL x ≠ hdL y := (hp.pairwise_iff (fun h => Ne.symm h)).2 (blks_nodup hg hn h)
  have hst : G.Pairwise fun x y => hdL x < hdL y := (hs.and hnd).imp fun h => by omega
  refine key_unique hdL (hp.trans ?_) hst (hds_sorted g l n)
  rw [List.perm_ext_iff_of_nodup]
  · intro r
    rw [mem_hdsL]
    unfold blksL
    rw [List.mem_map]
    constructor
    · rintro ⟨t, ht, rfl⟩
      have ht := List.mem_range.1 ht
      have hb := hd_blk hg hn h ht
      obtain ⟨i, hi, _, e7⟩ := (blk_mem hg hn h).1 hb.1
      have h7 := ((ordB_iff n l).1 h).2.1 _ (getD_memI (l := l) (i := i) (by rw [((ordB_iff n l).1 h).1]; exact hi))
      rw [e7] at h7
      obtain ⟨b, hb'⟩ : ∃ b : Nat, hdL (blkL g l t) = b := ⟨(hdL (blkL g l t)).toNat, by omega⟩
      have e8 : grpL g l (b : Int) = blkL g l t := by
        refine grp_blk hg hn h ?_
        rw [← hb']; exact hb.1
      refine ⟨b, by omega, ?_, e8⟩
      unfold isHd
      rw [e8, hb']
      exact beq_self_eq_true _
    · rintro ⟨a, ha, _, rfl⟩
      obtain ⟨t, ht, e1, _⟩ := grp_own hg hn h (a := (a : Int)) (by omega)
      exact ⟨t, List.mem_range.2 ht, e1.symm⟩
  · exact (blks_nodup hg hn h).imp fun h e => h (by rw [e])
  · exact (hds_sorted g l n).imp fun h e => by rw [e] at h; omega
theorem blks_len {n g c : Nat} (hn : n = g * c) {l : List Int} (h : ordB n l = true) : ∀ d, d ≤ c → ((List.range d).map (blkL g l)).flatten.length = d * g
  | 0, _ => by simp
  | d + 1, hd => by
    rw [List.range_succ, List.map_append, List.flatten_append, List.length_append, blks_len hn h d (by omega), Nat.succ_mul]
    have := blk_len hn h (show d < c by omega)
    simpa using this
theorem tid_len {n g c : Nat} (hg : 0 < g) (hn : n = g * c) {l : List Int} (h : ordB n l = true) : (tidF g l n).length = n := by
  have hp : (hdsL g l n).Perm (blksL g c l) := by
    rw [List.perm_ext_iff_of_nodup]
    · intro r
      rw [mem_hdsL]
      unfold blksL
      rw [List.mem_map]
      constructor
      · rintro ⟨a, ha, _, rfl⟩
        obtain ⟨t, ht, e1, _⟩ := grp_own hg hn h (a := (a : Int)) (by omega)
        exact ⟨t, List.mem_range.2 ht, e1.symm⟩
      · rintro ⟨t, ht, rfl⟩
        have ht := List.mem_range.1 ht
        have hb := hd_blk hg hn h ht
        obtain ⟨i, hi, _, e7⟩ := (blk_mem hg hn h).1 hb.1
        have h7 := ((ordB_iff n l).1 h).2.1 _ (getD_memI (l := l) (i := i) (by rw [((ordB_iff n l).1 h).1]; exact hi))
        rw [e7] at h7
        obtain ⟨b, hb'⟩ : ∃ b : Nat, hdL (blkL g l t) = b := ⟨(hdL (blkL g l t)).toNat, by omega⟩
        have e8 : grpL g l (b : Int) = blkL g l t := by
          refine grp_blk hg hn h ?_
          rw [← hb']; exact hb.1
        refine ⟨b, by omega, ?_, e8⟩
        unfold isHd
        rw [e8, hb']
        exact beq_self_eq_true _
    · exact (hds_sorted g l n).imp fun h e => by rw [e] at h; omega
    · exact (blks_nodup hg hn h).imp fun h e => h (by rw [e])
  rw [tidF_hds hg hn h n (Nat.le_refl _), hp.flatten.length_eq]
  have := blks_len hn h c (Nat.le_refl _)
  unfold blksL
  rw [this, hn, Nat.mul_comm]
def tidV (q g : Int) (R : List (List Int)) (i : Int) : List Int := if golfB q g R = true ∧ (0 ≤ i ∧ i ≤ (R.length : Int) - 1) then tidF g.toNat (R.getD i.toNat []) q.toNat else []
theorem tidV_len (q g : Int) (R : List (List Int)) (i : Int) : (tidV q g R i).length ≤ 25 := by
  unfold tidV
  split
  · rename_i h
    obtain ⟨hE, hD⟩ := h
    obtain ⟨n, gN, c, rfl, rfl, q0, q1, q2, q3, q4, q5, q6, q7⟩ := golfB_at hE
    have ho := q7 i.toNat (by omega)
    rw [Int.toNat_natCast, Int.toNat_natCast, tid_len (by omega) q0 ho]
    exact q4
  · simp
end Go.Abs
end

section
set_option maxRecDepth 100000
set_option maxHeartbeats 2000000
namespace Go.Proofs.Ytollphjompimjaa.A
open Go Go.Abs Go.RowKit
theorem l02Sorted_c (v : Value) (y : List Int) (H : AH) (hv : Cp H v y) (hy : y.length ≤ 4194304) :
    ACalls Try.prog 37 [v] H (fun u H' => Ow H H' [.sl 1 2 u y.length (ints (sortedL y))]) := by
  refine ACalls.wf (by kernel_rfl) fun hs => acalls_of_awp [.tmp 2] Try.func37 (by kernel_rfl) rfl rfl (Nat.le_of_ble_eq_true rfl) (by kernel_rfl) ?_
  try simp (disch := first | omega | (simp only [L3] <;> omega)) only [Sall,evalOp,init,binA_s,binE,binI,unE,convE,okNil,builtE,gv,TD.isAgg,resV,↓reduceIte,Nat.reduceEqDiff,reduceCtorEq,Nat.reduceAdd,Nat.reduceMul,Nat.reduceLeDiff,quietOp,blindOp,Int.reduceEq,Int.reduceLT,Int.reduceLE,Nat.reduceLT,tiA,tiXA, true_and]
  refine ACalls.mono (l01Own_c v y H hv hy).sc ?_
  rintro u H1 ⟨⟨up1, f1⟩, sc1⟩
  have o1 := Ow.of_fr up1 sc1 f1
  have hu := o1.one 0 rfl
  refine Holds.mp ?_
  try simp (disch := first | omega | (simp only [L3] <;> omega)) only [Sall,evalOp,init,binA_s,binE,binI,unE,convE,okNil,builtE,gv,TD.isAgg,resV,↓reduceIte,Nat.reduceEqDiff,reduceCtorEq,Nat.reduceAdd,Nat.reduceMul,Nat.reduceLeDiff,quietOp,blindOp,Int.reduceEq,Int.reduceLT,Int.reduceLE,Nat.reduceLT,tiA,tiXA, hu]
  refine awp_loop (fun m t H' => ∃ (i : Nat) (z : List Int), m = y.length + 1 - i ∧ 1 ≤ i ∧ i ≤ y.length + 1 ∧ t 4 = .int .i64 i ∧ t 3 = u ∧ z.Perm y ∧ (z.take i).Pairwise (fun a b => a ≤ b) ∧ Ow H H' [.sl 1 2 u y.length (ints z)]) y.length ?_ ?_
  · refine ⟨1, y, by omega, by omega, by omega, ?_⟩
    try simp (disch := first | omega | (simp only [L3] <;> omega)) only [Sall,evalOp,init,binA_s,binE,binI,unE,convE,okNil,builtE,gv,TD.isAgg,resV,↓reduceIte,Nat.reduceEqDiff,reduceCtorEq,Nat.reduceAdd,Nat.reduceMul,Nat.reduceLeDiff,quietOp,blindOp,Int.reduceEq,Int.reduceLT,Int.reduceLE,Nat.reduceLT,tiA,tiXA, true_and]
    refine ⟨rfl, List.Perm.refl _, ?_, o1⟩
    cases y with
    | nil => simp
    | cons a y => simp
  · rintro m t H2 ⟨i, z, hm, h1i, hi, h4, h3, hp, hst, o2⟩
    have hzl := hp.length_eq
    have hul := (o2.rd 0 rfl).len
    have hu := o2.one 0 rfl
    try simp (disch := first | omega | (simp only [L3] <;> omega)) only [Sall,evalOp,init,binA_s,binE,binI,unE,convE,okNil,builtE,gv,TD.isAgg,resV,↓reduceIte,Nat.reduceEqDiff,reduceCtorEq,Nat.reduceAdd,Nat.reduceMul,Nat.reduceLeDiff,quietOp,blindOp,Int.reduceEq,Int.reduceLT,Int.reduceLE,Nat.reduceLT,tiA,tiXA, h4, h3, builtE, hul]
    refine condC_dec (fun hh => ?_) (fun hh => ?_)
    · have hil : i < y.length := by omega
      have I0 := Ins.start (key := fun x : Int => x) hst (show i < z.length by omega)
      try simp (disch := first | omega | (simp only [L3] <;> omega)) only [Sall,evalOp,init,binA_s,binE,binI,unE,convE,okNil,builtE,gv,TD.isAgg,resV,↓reduceIte,Nat.reduceEqDiff,reduceCtorEq,Nat.reduceAdd,Nat.reduceMul,Nat.reduceLeDiff,quietOp,blindOp,Int.reduceEq,Int.reduceLT,Int.reduceLE,Nat.reduceLT,tiA,tiXA, h4, h3]
      refine awp_loop (fun m' t H' => ∃ (A : List Int) (x : Int) (B C : List Int) (z : List Int), m' = A.length ∧ A.length ≤ i ∧ t 5 = .int .i64 A.length ∧ t 4 = .int .i64 i ∧ t 3 = u ∧ z.Perm y ∧ Ins (fun x : Int => x) z i A x B C ∧ Ow H H' [.sl 1 2 u y.length (ints z)]) i ?_ ?_
      · have hl0 : (z.take i).length = i := by rw [List.length_take]; omega
        refine ⟨z.take i, z[i], [], z.drop (i + 1), z, by omega, by omega, ?_⟩
        try simp (disch := first | omega | (simp only [L3] <;> omega)) only [Sall,evalOp,init,binA_s,binE,binI,unE,convE,okNil,builtE,gv,TD.isAgg,resV,↓reduceIte,Nat.reduceEqDiff,reduceCtorEq,Nat.reduceAdd,Nat.reduceMul,Nat.reduceLeDiff,quietOp,blindOp,Int.reduceEq,Int.reduceLT,Int.reduceLE,Nat.reduceLT,tiA,tiXA, h4, h3, hl0]
        exact ⟨hp, I0, o2⟩
      · rintro m' t H3 ⟨A, x, B, C, z, hm', hA, h5, h4, h3, hp, I, o3⟩
        have hzl := hp.length_eq
        have hall := I.len_all
        refine draw_id (by kernel_rfl) (by kernel_rfl) ?_
        by_cases c0 : A.length = 0
        · have e0 : A = [] := List.eq_nil_of_length_eq_zero c0
          subst e0
          have h00 : ¬ (0 : Int) < ((0 : Nat) : Int) := by omega
          have h5 : t 5 = .int .i64 ((0 : Nat) : Int) := h5
          try simp (disch := first | omega | (simp only [L3] <;> omega)) only [Sall,evalOp,init,binA_s,binE,binI,unE,convE,okNil,builtE,gv,TD.isAgg,resV,↓reduceIte,Nat.reduceEqDiff,reduceCtorEq,Nat.reduceAdd,Nat.reduceMul,Nat.reduceLeDiff,quietOp,blindOp,Int.reduceEq,Int.reduceLT,Int.reduceLE,Nat.reduceLT,tiA,tiXA, h5, h4, h3, h00, decide_false, w64]
          refine ⟨y.length + 1 - (i + 1), by omega, i + 1, z, rfl, by omega, by omega, rfl, hp, I.exit0, o3⟩
        · obtain ⟨A', zz, rfl⟩ := cons_end (show 0 < A.length by omega)
          have hl1 : (A' ++ [zz]).length = A'.length + 1 := by simp
          rw [hl1] at h5
          obtain ⟨ui, _, _, eu, rw3⟩ := o3.get 0 rfl (by omega)
          have k1 := I.at
          have k2 := I.at1
          rw [hl1] at k1
          have k1' : (ints z)[A'.length + 1]? = some (.int .i64 x) := by unfold ints; rw [List.getElem?_map, k1]; rfl
          have k2' : (ints z)[A'.length]? = some (.int .i64 zz) := by unfold ints; rw [List.getElem?_map, k2]; rfl
          have pg : (0 : Int) < ((A'.length + 1 : Nat) : Int) := by omega
          have pm : ((A'.length + 1 : Nat) : Int) - 1 = (A'.length : Int) := by omega
          by_cases cmp : x < zz
          · try simp (disch := first | omega | (simp only [L3] <;> omega)) only [Sall,evalOp,init,binA_s,binE,binI,unE,convE,okNil,builtE,gv,TD.isAgg,resV,↓reduceIte,Nat.reduceEqDiff,reduceCtorEq,Nat.reduceAdd,Nat.reduceMul,Nat.reduceLeDiff,quietOp,blindOp,Int.reduceEq,Int.reduceLT,Int.reduceLE,Nat.reduceLT,tiA,tiXA, h5, h4, h3, pg, pm, decide_true, eu, rw3, k1', k2', cmp, w64]
            have es : ((ints z).set (A'.length + 1) (Value.int IntKind.i64 zz)).set A'.length (Value.int IntKind.i64 x) = ints (A' ++ x :: (zz :: B ++ C)) := by rw [ints_set, ints_set, I.swap]
            obtain ⟨I2, hp2⟩ := I.step (show x ≤ zz by omega)
            have o4 := o3.setTwice ui eu (vs' := ints (A' ++ x :: (zz :: B ++ C))) ((ints z).set (A'.length + 1) (Value.int IntKind.i64 zz)) (by rw [ints_length, ints_length, hp2.length_eq]) (by rw [List.length_set])
            rw [es]
            refine ⟨⟨by omega, by omega⟩, ⟨by omega, by omega⟩, ⟨by omega, by omega⟩, ⟨by omega, by omega⟩, ⟨by omega, by omega⟩, by omega, ⟨by omega, by omega⟩, by rw [List.length_set, ints_length]; omega, A'.length, by omega, A', x, zz :: B, C, _, rfl, by omega, rfl, hp2.trans hp, I2, ?_⟩
            rw [← eu]
            exact o4
          · try simp (disch := first | omega | (simp only [L3] <;> omega)) only [Sall,evalOp,init,binA_s,binE,binI,unE,convE,okNil,builtE,gv,TD.isAgg,resV,↓reduceIte,Nat.reduceEqDiff,reduceCtorEq,Nat.reduceAdd,Nat.reduceMul,Nat.reduceLeDiff,quietOp,blindOp,Int.reduceEq,Int.reduceLT,Int.reduceLE,Nat.reduceLT,tiA,tiXA, h5, h4, h3, pg, pm, decide_true, decide_false, eu, rw3, k1', k2', cmp, w64]
            rw [eu] at o3
            exact ⟨⟨by omega, by omega⟩, ⟨by omega, by omega⟩, y.length + 1 - (i + 1), by omega, i + 1, z, rfl, by omega, by omega, rfl, hp, I.exit1 (show zz ≤ x by omega), o3⟩
    · have hin : i = y.length ∨ i = y.length + 1 := by omega
      have hall : z.take i = z := List.take_of_length_le (by omega)
      rw [hall] at hst
      have es : sortedL y = z := sortedL_eq hp.symm hst
      try simp (disch := first | omega | (simp only [L3] <;> omega)) only [Sall,evalOp,init,binA_s,binE,binI,unE,convE,okNil,builtE,gv,TD.isAgg,resV,↓reduceIte,Nat.reduceEqDiff,reduceCtorEq,Nat.reduceAdd,Nat.reduceMul,Nat.reduceLeDiff,quietOp,blindOp,Int.reduceEq,Int.reduceLT,Int.reduceLE,Nat.reduceLT,tiA,tiXA, h3, hu]
      rw [es]
      exact o2
theorem l08Group_c (n g c : Nat) (hg : 2 ≤ g) (hn : n = g * c) (hn25 : n ≤ 25) (hgn : g ≤ n) (v y : Value) (l : List Int) (a : Int) (H : AH) (hone : v.oneCell' = true) (hy : Rs 1 H y n l) (ho : ordB n l = true) (ha : 0 ≤ a ∧ a < n) :
    ACalls Try.prog 25 [.agg #[.int .i64 n, .int .i64 g, v], y, .int .i64 a] H (fun u H' => Ow H H' [.sl 1 2 u (grpL g l a).length (ints (grpL g l a))]) := by
  refine ACalls.wf (by kernel_rfl) fun hs => acalls_of_awp [.tmp 6] Try.func25 (by kernel_rfl) rfl rfl (Nat.le_of_ble_eq_true rfl) (by kernel_rfl) ?_
  have o1 := golf_push hs n g v
  have hyo := hy.rd.one
  obtain ⟨k, hkn, ek⟩ := ord_has ho ha
  have hlk : l.length = n := ((ordB_iff n l).1 ho).1
  try simp (disch := first | omega | (simp only [L3] <;> omega)) only [Sall,evalOp,init,binA_s,binE,binI,unE,convE,okNil,builtE,gv,TD.isAgg,resV,↓reduceIte,Nat.reduceEqDiff,reduceCtorEq,Nat.reduceAdd,Nat.reduceMul,Nat.reduceLeDiff,quietOp,blindOp,Int.reduceEq,Int.reduceLT,Int.reduceLE,Nat.reduceLT,tiA,tiXA, hone, hyo]
  obtain ⟨pi, epi⟩ : ∃ pi, pi = H.next := ⟨_, rfl⟩
  rw [← epi] at o1 ⊢
  generalize H.push ⟨24, true, [.int .i64 n, .int .i64 g, v]⟩ = H1 at o1 ⊢
  have e1 := (o1.rowAt 0 rfl).1
  refine awp_loop (fun m t H' => ∃ i : Nat, m = n - i ∧ i ≤ k ∧ t 7 = .int .i64 i ∧ t 1 = y ∧ t 2 = .int .i64 a ∧ t 3 = .pointer (some ⟨pi, 0, none⟩) ∧ H' = H1 ∧ ∀ j, j < i → l.getD j 0 ≠ a) n ?_ ?_
  · refine ⟨0, by omega, by omega, ?_⟩
    try simp (disch := first | omega | (simp only [L3] <;> omega)) only [Sall,evalOp,init,binA_s,binE,binI,unE,convE,okNil,builtE,gv,TD.isAgg,resV,↓reduceIte,Nat.reduceEqDiff,reduceCtorEq,Nat.reduceAdd,Nat.reduceMul,Nat.reduceLeDiff,quietOp,blindOp,Int.reduceEq,Int.reduceLT,Int.reduceLE,Nat.reduceLT,tiA,tiXA, Int.natCast_zero, Nat.not_lt_zero, false_implies]
  · rintro m t H2 ⟨i, hm, hi, h7, h1, h2, h3, rfl, hno⟩
    obtain ⟨yi, yo, yu, yc, yr, ey, w1, w2, w3, _⟩ := (hy.rd.same (o1.old hs)).get (by omega)
    have w4 := w3 i (by omega)
    by_cases e : l.getD i 0 = a
    · have f : (l.getD i 0 != a) = false := by rw [e]; exact bne_self_eq_false _
      have eix : grpL g l a = blkL g l (i / g) := by rw [← e]; exact grpL_at ho (by omega)
      have di : Int.tdiv (i : Int) (g : Int) = ((i / g : Nat) : Int) := rfl
      have hg0 : ¬ (g : Int) = 0 := by omega
      have em : ((i / g : Nat) : Int) * (g : Int) = ((i / g * g : Nat) : Int) := (Int.natCast_mul _ _).symm
      have lA := Nat.div_mul_le_self i g
      have ld := Nat.div_le_self i g
      have hA : i / g * g + g ≤ n := by
        have h1 : i / g < c := by rw [Nat.div_lt_iff_lt_mul (by omega), Nat.mul_comm, ← hn]; omega
        have h2 : (i / g + 1) * g ≤ c * g := Nat.mul_le_mul_right g h1
        rw [Nat.succ_mul, Nat.mul_comm c g, ← hn] at h2
        exact h2
      have wd : ∀ A : Nat, A ≤ 100 → IntKind.i64.wrap (A : Int) = A := fun A hA => w64 ⟨by omega, by omega⟩
      have wd1 := wd (i / g) (by omega)
      have wd2 := wd (i / g * g) (by omega)
      have wd3 := wd (i / g * g + g) (by omega)
      have ea : ((i / g * g : Nat) : Int) + (g : Int) = ((i / g * g + g : Nat) : Int) := by omega
      try simp (disch := first | omega | (simp only [L3] <;> omega)) only [Sall,evalOp,init,binA_s,binE,binI,unE,convE,okNil,builtE,gv,TD.isAgg,resV,↓reduceIte,Nat.reduceEqDiff,reduceCtorEq,Nat.reduceAdd,Nat.reduceMul,Nat.reduceLeDiff,quietOp,blindOp,Int.reduceEq,Int.reduceLT,Int.reduceLE,Nat.reduceLT,tiA,tiXA, h7, h1, h2, h3, ey, w1, w4, f]
      (repeat refine And.intro (by omega) ?_)
      try simp (disch := first | omega | (simp only [L3] <;> omega)) only [Sall,evalOp,init,binA_s,binE,binI,unE,convE,okNil,builtE,gv,TD.isAgg,resV,↓reduceIte,Nat.reduceEqDiff,reduceCtorEq,Nat.reduceAdd,Nat.reduceMul,Nat.reduceLeDiff,quietOp,blindOp,Int.reduceEq,Int.reduceLT,Int.reduceLE,Nat.reduceLT,tiA,tiXA, h7, h1, h2, h3, ey, w1, w4, f]
      refine draw_id (by kernel_rfl) (by kernel_rfl) ?_
      try simp (disch := first | omega | (simp only [L3] <;> omega)) only [Sall,evalOp,init,binA_s,binE,binI,unE,convE,okNil,builtE,gv,TD.isAgg,resV,↓reduceIte,Nat.reduceEqDiff,reduceCtorEq,Nat.reduceAdd,Nat.reduceMul,Nat.reduceLeDiff,quietOp,blindOp,Int.reduceEq,Int.reduceLT,Int.reduceLE,Nat.reduceLT,tiA,tiXA, h7, h3, e1, di, hg0, wd1, em, wd2]
      (repeat refine And.intro (by omega) ?_)
      try simp (disch := first | omega | (simp only [L3] <;> omega)) only [Sall,evalOp,init,binA_s,binE,binI,unE,convE,okNil,builtE,gv,TD.isAgg,resV,↓reduceIte,Nat.reduceEqDiff,reduceCtorEq,Nat.reduceAdd,Nat.reduceMul,Nat.reduceLeDiff,quietOp,blindOp,Int.reduceEq,Int.reduceLT,Int.reduceLE,Nat.reduceLT,tiA,tiXA, h7, h3, e1, di, hg0, wd1, em, wd2]
      obtain ⟨ys, hcut, rys⟩ := hy.cut (lo := some ((i / g * g : Nat) : Int)) (hi := some ((i / g * g + g : Nat) : Int)) (a := i / g * g) (b := i / g * g + g) rfl rfl (by omega) hA
      rw [Nat.mul_one, Nat.mul_one, Nat.add_sub_cancel_left] at rys
      try simp (disch := first | omega | (simp only [L3] <;> omega)) only [Sall,evalOp,init,binA_s,binE,binI,unE,convE,okNil,builtE,gv,TD.isAgg,resV,↓reduceIte,Nat.reduceEqDiff,reduceCtorEq,Nat.reduceAdd,Nat.reduceMul,Nat.reduceLeDiff,quietOp,blindOp,Int.reduceEq,Int.reduceLT,Int.reduceLE,Nat.reduceLT,tiA,tiXA, h1, h3, e1, ea, wd3]
      refine hcut _ _ _ _ rfl ?_
      have hyso := rys.rd.one
      have hkl : ((l.drop (i / g * g)).take g).length = g := by have := rys.rd.1; omega
      have hcp : Cp H2 ys ((l.drop (i / g * g)).take g) := by
        have h2 := rys.rd.same (o1.old hs)
        refine ⟨?_, fun h0 => by omega⟩
        rw [hkl]; exact h2
      try simp (disch := first | omega | (simp only [L3] <;> omega)) only [Sall,evalOp,init,binA_s,binE,binI,unE,convE,okNil,builtE,gv,TD.isAgg,resV,↓reduceIte,Nat.reduceEqDiff,reduceCtorEq,Nat.reduceAdd,Nat.reduceMul,Nat.reduceLeDiff,quietOp,blindOp,Int.reduceEq,Int.reduceLT,Int.reduceLE,Nat.reduceLT,tiA,tiXA, hyso]
      refine ACalls.mono (l02Sorted_c ys _ H2 hcp (by omega)) ?_
      intro u H3 o3
      have hu := o3.one 0 rfl
      refine Holds.mp ?_
      try simp (disch := first | omega | (simp only [L3] <;> omega)) only [Sall,evalOp,init,binA_s,binE,binI,unE,convE,okNil,builtE,gv,TD.isAgg,resV,↓reduceIte,Nat.reduceEqDiff,reduceCtorEq,Nat.reduceAdd,Nat.reduceMul,Nat.reduceLeDiff,quietOp,blindOp,Int.reduceEq,Int.reduceLT,Int.reduceLE,Nat.reduceLT,tiA,tiXA, hu]
      have o4 := (o1.call o3).only 1 rfl
      have e6 : blkL g l (i / g) = sortedL ((l.drop (i / g * g)).take g) := rfl
      rw [eix, e6, sortedL_length]
      exact o4
    · have f : (l.getD i 0 != a) = true := bne_iff_ne.2 e
      have hik : i ≠ k := fun e2 => e (by rw [e2]; exact ek)
      try simp (disch := first | omega | (simp only [L3] <;> omega)) only [Sall,evalOp,init,binA_s,binE,binI,unE,convE,okNil,builtE,gv,TD.isAgg,resV,↓reduceIte,Nat.reduceEqDiff,reduceCtorEq,Nat.reduceAdd,Nat.reduceMul,Nat.reduceLeDiff,quietOp,blindOp,Int.reduceEq,Int.reduceLT,Int.reduceLE,Nat.reduceLT,tiA,tiXA, h7, h1, h2, h3, ey, w1, w4, f, w64]
      (repeat refine And.intro (by omega) ?_)
      try simp (disch := first | omega | (simp only [L3] <;> omega)) only [Sall,evalOp,init,binA_s,binE,binI,unE,convE,okNil,builtE,gv,TD.isAgg,resV,↓reduceIte,Nat.reduceEqDiff,reduceCtorEq,Nat.reduceAdd,Nat.reduceMul,Nat.reduceLeDiff,quietOp,blindOp,Int.reduceEq,Int.reduceLT,Int.reduceLE,Nat.reduceLT,tiA,tiXA, h7, h1, h2, h3, ey, w1, w4, f, w64]
      refine ⟨n - (i + 1), by omega, i + 1, by omega, by omega, rfl, fun j hj => ?_⟩
      by_cases e2 : j = i
      · rw [e2]; exact e
      · exact hno j (by omega)
end Go.Proofs.Ytollphjompimjaa.A
end

section
set_option maxRecDepth 100000
namespace Go.Proofs.Ytollphjompimjaa.A
open Go Go.Abs Go.RowKit
end Go.Proofs.Ytollphjompimjaa.A
end

section
set_option maxRecDepth 100000
namespace Go.Proofs.Ytollphjompimjaa.A
open Go Go.Abs Go.RowKit
end Go.Proofs.Ytollphjompimjaa.A
end

section
set_option maxRecDepth 100000
namespace Go.Proofs.Ytollphjompimjaa.A
open Go Go.Abs Go.RowKit
end Go.Proofs.Ytollphjompimjaa.A
end

section
set_option maxRecDepth 100000
namespace Go.Proofs.Ytollphjompimjaa.A
open Go Go.Abs Go.RowKit
end Go.Proofs.Ytollphjompimjaa.A
end

section
set_option maxRecDepth 100000
set_option maxHeartbeats 2000000
namespace Go.Proofs.Ytollphjompimjaa.A
open Go Go.Abs Go.RowKit
end Go.Proofs.Ytollphjompimjaa.A
end

section
set_option maxRecDepth 100000
set_option maxHeartbeats 2000000
namespace Go.Proofs.Ytollphjompimjaa.A
open Go Go.Abs Go.RowKit
end Go.Proofs.Ytollphjompimjaa.A
end

section
set_option maxRecDepth 100000
set_option maxHeartbeats 2000000
namespace Go.Proofs.Ytollphjompimjaa.A
open Go Go.Abs Go.RowKit
end Go.Proofs.Ytollphjompimjaa.A
end

section
namespace Go.Abs
open Go Go.RowKit
structure PoolJ (P : Program) (ops : Array Oper) (Q : T → AH → Prop) (post : OT) (J : List Nat → List Nat → T → AH → Prop) : Prop where
  call : ∀ c cs fs t H, J (c :: cs) fs t H → stepI P ops (J cs fs) c (ops.toList[c]?) t H
  free : ∀ a cs fs t H, a ∈ fs → J cs fs t H → stepI P ops (J cs (fs.erase a)) a (ops.toList[a]?) t H
  done : ∀ t H, J [] [] t H → awpT P ops Q post t H
end Go.Abs
end

section
set_option maxRecDepth 100000
set_option maxHeartbeats 2000000
namespace Go.Proofs.Ytollphjompimjaa.A
open Go Go.Abs Go.RowKit
theorem isNaN_c (x : Int) (H : AH) : ACalls Try.prog 66 [.int .i64 x] H (is (.bool false) H) := by
  refine acalls_of_awp [.tmp 2] Try.func66 (by kernel_rfl) rfl rfl (Nat.le_of_ble_eq_true rfl) (by kernel_rfl) ?_
  try simp (disch := first | omega | (simp only [L3] <;> omega)) only [Sall,evalOp,init,binA_s,binE,binI,unE,convE,okNil,builtE,gv,TD.isAgg,resV,↓reduceIte,Nat.reduceEqDiff,reduceCtorEq,Nat.reduceAdd,Nat.reduceMul,Nat.reduceLeDiff,quietOp,blindOp,Int.reduceEq,Int.reduceLT,Int.reduceLE,Nat.reduceLT,tiA, bne_self_eq_false, is]
theorem compare_c (x y : Int) (H : AH) : ACalls Try.prog 47 [.int .i64 x, .int .i64 y] H (is (.int .i64 (cmpI x y)) H) := by
  refine acalls_of_awp [.tmp 4] Try.func47 (by kernel_rfl) rfl rfl (Nat.le_of_ble_eq_true rfl) (by kernel_rfl) ?_
  try simp (disch := first | omega | (simp only [L3] <;> omega)) only [Sall,evalOp,init,binA_s,binE,binI,unE,convE,okNil,builtE,gv,TD.isAgg,resV,↓reduceIte,Nat.reduceEqDiff,reduceCtorEq,Nat.reduceAdd,Nat.reduceMul,Nat.reduceLeDiff,quietOp,blindOp,Int.reduceEq,Int.reduceLT,Int.reduceLE,Nat.reduceLT,tiA, true_and]
  refine (isNaN_c x H).to ?_
  try simp (disch := first | omega | (simp only [L3] <;> omega)) only [Sall,evalOp,init,binA_s,binE,binI,unE,convE,okNil,builtE,gv,TD.isAgg,resV,↓reduceIte,Nat.reduceEqDiff,reduceCtorEq,Nat.reduceAdd,Nat.reduceMul,Nat.reduceLeDiff,quietOp,blindOp,Int.reduceEq,Int.reduceLT,Int.reduceLE,Nat.reduceLT,tiA, true_and]
  refine (isNaN_c y H).to ?_
  try simp (disch := first | omega | (simp only [L3] <;> omega)) only [Sall,evalOp,init,binA_s,binE,binI,unE,convE,okNil,builtE,gv,TD.isAgg,resV,↓reduceIte,Nat.reduceEqDiff,reduceCtorEq,Nat.reduceAdd,Nat.reduceMul,Nat.reduceLeDiff,quietOp,blindOp,Int.reduceEq,Int.reduceLT,Int.reduceLE,Nat.reduceLT,tiA, true_and]
  unfold cmpI
  by_cases h1 : x < y
  · rw [if_pos h1]
    try simp (disch := first | omega | (simp only [L3] <;> omega)) only [Sall,evalOp,init,binA_s,binE,binI,unE,convE,okNil,builtE,gv,TD.isAgg,resV,↓reduceIte,Nat.reduceEqDiff,reduceCtorEq,Nat.reduceAdd,Nat.reduceMul,Nat.reduceLeDiff,quietOp,blindOp,Int.reduceEq,Int.reduceLT,Int.reduceLE,Nat.reduceLT,tiA, h1, decide_true, is]
  · rw [if_neg h1]
    by_cases h2 : y < x
    · rw [if_pos h2]
      try simp (disch := first | omega | (simp only [L3] <;> omega)) only [Sall,evalOp,init,binA_s,binE,binI,unE,convE,okNil,builtE,gv,TD.isAgg,resV,↓reduceIte,Nat.reduceEqDiff,reduceCtorEq,Nat.reduceAdd,Nat.reduceMul,Nat.reduceLeDiff,quietOp,blindOp,Int.reduceEq,Int.reduceLT,Int.reduceLE,Nat.reduceLT,tiA, h1, h2, decide_true, decide_false, is]
    · rw [if_neg h2]
      try simp (disch := first | omega | (simp only [L3] <;> omega)) only [Sall,evalOp,init,binA_s,binE,binI,unE,convE,okNil,builtE,gv,TD.isAgg,resV,↓reduceIte,Nat.reduceEqDiff,reduceCtorEq,Nat.reduceAdd,Nat.reduceMul,Nat.reduceLeDiff,quietOp,blindOp,Int.reduceEq,Int.reduceLT,Int.reduceLE,Nat.reduceLT,tiA, h1, h2, decide_false, is]
def Srt (di : Nat) (H0 H : AH) : Prop := H0.next ≤ H.next ∧ (∀ i, i < H0.next → ¬ i = di → H.row i = H0.row i) ∧ Sc H
end Go.Proofs.Ytollphjompimjaa.A
end

section
set_option maxRecDepth 100000
set_option maxHeartbeats 2000000
namespace Go.Proofs.Ytollphjompimjaa.A
open Go Go.Abs Go.RowKit
theorem bitsLen64_c (x : Nat) (hx : x < 256) (H : AH) : ACalls Try.prog 65 [.int .u64 x] H (fun r H' => ∃ k, r = .int .i64 k ∧ H' = H ∧ True) := by
  refine acalls_of_awp [.tmp 2] Try.func65 (by kernel_rfl) rfl rfl (Nat.le_of_ble_eq_true rfl) (by kernel_rfl) ?_
  have h1 : ¬ (4294967296 : Int) ≤ (x : Int) := by omega
  have h2 : ¬ (65536 : Int) ≤ (x : Int) := by omega
  have h3 : ¬ (256 : Int) ≤ (x : Int) := by omega
  try simp (disch := first | omega | (simp only [ints_length, List.length_replicate, List.length_set, List.length_map] <;> omega)) only [Sall,evalOp,init,binA_s,binE,binI,unE,convE,okNil,builtE,gv,TD.isAgg,resV,↓reduceIte,Nat.reduceEqDiff,reduceCtorEq,Nat.reduceAdd,Nat.reduceMul,Nat.reduceLeDiff,quietOp,blindOp,Int.reduceEq,Int.reduceLT,Int.reduceLE,Nat.reduceLT,tiA,tiXA, h1, h2, h3, decide_false]
  have hw : IntKind.u8.wrap (x : Int) = (x : Int) := by
    rw [show IntKind.u8.wrap (x : Int) = (x : Int) % 256 from rfl]
    omega
  have hsz : ∀ s : ByteArray, s.size = 256 → (0 ≤ IntKind.u8.wrap (x : Int) ∧ IntKind.u8.wrap (x : Int) < (s.size : Int)) := fun s hs => by rw [hw, hs]; omega
  exact ⟨hsz _ rfl, _, rfl⟩
theorem cmpLL_c (x y : Value) (a b : List Int) (H : AH) (hx : Rd 1 H x a.length a) (hy : Rd 1 H y b.length b) (ha : 0 < a.length) (hb : 0 < b.length) (hne : hdL a ≠ hdL b) :
    ACalls Try.prog 32 [x, y] H (is (.int .i64 (if hdL a < hdL b then -1 else 1)) H) := by
  refine acalls_of_awp [.tmp 4] Try.func32 (by kernel_rfl) rfl rfl (Nat.le_of_ble_eq_true rfl) (by kernel_rfl) ?_
  have lx := hx.len
  have ly := hy.len
  try simp (disch := first | omega | (simp only [ints_length, List.length_replicate, List.length_set, List.length_map] <;> omega)) only [Sall,evalOp,init,binA_s,binE,binI,unE,convE,okNil,builtE,gv,TD.isAgg,resV,↓reduceIte,Nat.reduceEqDiff,reduceCtorEq,Nat.reduceAdd,Nat.reduceMul,Nat.reduceLeDiff,quietOp,blindOp,Int.reduceEq,Int.reduceLT,Int.reduceLE,Nat.reduceLT,tiA,tiXA, lx, builtE]
  refine awp_loop (fun m t H' => t 11 = .int .i64 0 ∧ t 10 = .int .i64 a.length ∧ t 9 = x ∧ t 1 = y ∧ H' = H) 0 ?_ ?_
  · try simp (disch := first | omega | (simp only [ints_length, List.length_replicate, List.length_set, List.length_map] <;> omega)) only [Sall,evalOp,init,binA_s,binE,binI,unE,convE,okNil,builtE,gv,TD.isAgg,resV,↓reduceIte,Nat.reduceEqDiff,reduceCtorEq,Nat.reduceAdd,Nat.reduceMul,Nat.reduceLeDiff,quietOp,blindOp,Int.reduceEq,Int.reduceLT,Int.reduceLE,Nat.reduceLT,tiA,tiXA, true_and]
  · rintro m t H' ⟨h11, h10, h9, h1, rfl⟩
    obtain ⟨xi, xo, xu, xc, xr, ex, x1, x2, x3, _⟩ := hx.get ha
    obtain ⟨yi, yo, yu, yc, yr, ey, y1, y2, y3, _⟩ := hy.get hb
    have x4 := x3 0 (by omega)
    have y4 := y3 0 (by omega)
    have c1 : (0 : Int) < (a.length : Int) := by omega
    have c2 : ¬ (b.length : Int) ≤ (0 : Int) := by omega
    have t0 : Int.toNat 0 = 0 := rfl
    rw [Nat.add_zero] at x4 y4
    have e : (0 : Int) < (b.length : Int) := by omega
    try simp (disch := first | omega | (simp only [ints_length, List.length_replicate, List.length_set, List.length_map] <;> omega)) only [Sall,evalOp,init,binA_s,binE,binI,unE,convE,okNil,builtE,gv,TD.isAgg,resV,↓reduceIte,Nat.reduceEqDiff,reduceCtorEq,Nat.reduceAdd,Nat.reduceMul,Nat.reduceLeDiff,quietOp,blindOp,Int.reduceEq,Int.reduceLT,Int.reduceLE,Nat.reduceLT,tiA,tiXA, h11, h10, h9, h1, c1, c2, decide_true, decide_false, ex, x1, x4, ey, y1, y4, t0, Nat.add_zero, ly, builtE]
    refine ⟨by omega, ?_⟩
    have hab : cmpI (a.getD 0 0) (b.getD 0 0) = if hdL a < hdL b then -1 else 1 := by
      unfold cmpI hdL at *
      split
      · rfl
      · rw [if_pos (by omega)]
    have hnz : ((if hdL a < hdL b then (-1 : Int) else 1) != 0) = true := by split <;> rfl
    refine (compare_c _ _ H').to ?_
    rw [hab]
    refine Holds.mp ?_
    try simp (disch := first | omega | (simp only [ints_length, List.length_replicate, List.length_set, List.length_map] <;> omega)) only [Sall,evalOp,init,binA_s,binE,binI,unE,convE,okNil,builtE,gv,TD.isAgg,resV,↓reduceIte,Nat.reduceEqDiff,reduceCtorEq,Nat.reduceAdd,Nat.reduceMul,Nat.reduceLeDiff,quietOp,blindOp,Int.reduceEq,Int.reduceLT,Int.reduceLE,Nat.reduceLT,tiA,tiXA, hnz]
    exact ⟨rfl, rfl⟩
theorem bitsLen_c (x : Nat) (hx : x < 256) (H : AH) : ACalls Try.prog 46 [.int .u64 x] H (fun r H' => ∃ k, r = .int .i64 k ∧ H' = H ∧ True) := by
  refine acalls_of_awp [.tmp 2] Try.func46 (by kernel_rfl) rfl rfl (Nat.le_of_ble_eq_true rfl) (by kernel_rfl) ?_
  try simp (disch := first | omega | (simp only [ints_length, List.length_replicate, List.length_set, List.length_map] <;> omega)) only [Sall,evalOp,init,binA_s,binE,binI,unE,convE,okNil,builtE,gv,TD.isAgg,resV,↓reduceIte,Nat.reduceEqDiff,reduceCtorEq,Nat.reduceAdd,Nat.reduceMul,Nat.reduceLeDiff,quietOp,blindOp,Int.reduceEq,Int.reduceLT,Int.reduceLE,Nat.reduceLT,tiA,tiXA, true_and]
  refine ACalls.exH (g := fun k => .int .i64 k) (bitsLen64_c x hx H) ?_
  intro k _
  refine Holds.mp ?_
  try simp (disch := first | omega | (simp only [ints_length, List.length_replicate, List.length_set, List.length_map] <;> omega)) only [Sall,evalOp,init,binA_s,binE,binI,unE,convE,okNil,builtE,gv,TD.isAgg,resV,↓reduceIte,Nat.reduceEqDiff,reduceCtorEq,Nat.reduceAdd,Nat.reduceMul,Nat.reduceLeDiff,quietOp,blindOp,Int.reduceEq,Int.reduceLT,Int.reduceLE,Nat.reduceLT,tiA,tiXA, true_and]
  exact ⟨_, rfl⟩
theorem insLL_c (m : Nat) (hm : m ≤ 20) (ps0 : List (Value × List Int)) (hl0 : ps0.length = m) (hk : ps0.Pairwise fun p q => hdL p.2 ≠ hdL q.2) (hne : ∀ p ∈ ps0, 0 < p.2.length) (ui uc : Nat) (H0 : AH) (hui : ui < H0.next) (hst : ∀ H1, Srt ui H0 H1 → RowsP ps0 H1) (hrow : H0.row ui = some ⟨32, true, ps0.map Prod.fst⟩) :
    ACalls Try.prog 56 [.slice (some ⟨ui, 0, some 1⟩) m uc, .int .i64 0, .int .i64 m, .func (.func 32) #[] #[]] H0
      (fun _ H' => ∃ ps : List (Value × List Int), ps.Perm ps0 ∧ (ps.Pairwise fun p q => hdL p.2 ≤ hdL q.2) ∧ Srt ui H0 H' ∧ H'.row ui = some ⟨32, true, ps.map Prod.fst⟩) := by
  refine ACalls.wf (by kernel_rfl) fun hs => acalls_of_awp [] Try.func56 (by kernel_rfl) rfl rfl (Nat.le_of_ble_eq_true rfl) (by kernel_rfl) ?_
  have key : ∀ {z : List (Value × List Int)}, z.Perm ps0 → z.Pairwise fun p q => hdL p.2 ≠ hdL q.2 := fun hp => (hp.pairwise_iff (fun h => Ne.symm h)).2 hk
  try simp (disch := first | omega | (simp only [ints_length, List.length_replicate, List.length_set, List.length_map] <;> omega)) only [Sall,evalOp,init,binA_s,binE,binI,unE,convE,okNil,builtE,gv,TD.isAgg,resV,↓reduceIte,Nat.reduceEqDiff,reduceCtorEq,Nat.reduceAdd,Nat.reduceMul,Nat.reduceLeDiff,quietOp,blindOp,Int.reduceEq,Int.reduceLT,Int.reduceLE,Nat.reduceLT,tiA,tiXA, w64]
  refine awp_loop (fun y t H' => ∃ (i : Nat) (z : List (Value × List Int)), y = m + 1 - i ∧ 1 ≤ i ∧ i ≤ m + 1 ∧ t 8 = .int .i64 i ∧ t 0 = .slice (some ⟨ui, 0, some 1⟩) m uc ∧ t 1 = .int .i64 0 ∧ t 2 = .int .i64 m ∧ t 3 = .func (.func 32) #[] #[] ∧ z.Perm ps0 ∧ ((z.take i).Pairwise fun p q => hdL p.2 ≤ hdL q.2) ∧ Srt ui H0 H' ∧ H'.row ui = some ⟨32, true, z.map Prod.fst⟩) m ?_ ?_
  · refine ⟨1, ps0, by omega, by omega, by omega, ?_⟩
    try simp (disch := first | omega | (simp only [ints_length, List.length_replicate, List.length_set, List.length_map] <;> omega)) only [Sall,evalOp,init,binA_s,binE,binI,unE,convE,okNil,builtE,gv,TD.isAgg,resV,↓reduceIte,Nat.reduceEqDiff,reduceCtorEq,Nat.reduceAdd,Nat.reduceMul,Nat.reduceLeDiff,quietOp,blindOp,Int.reduceEq,Int.reduceLT,Int.reduceLE,Nat.reduceLT,tiA,tiXA, true_and]
    refine ⟨rfl, List.Perm.refl _, ?_, ⟨Nat.le_refl _, fun _ _ _ => rfl, hs⟩, hrow⟩
    cases ps0 with
    | nil => simp
    | cons a y => simp
  · rintro y t H2 ⟨i, z, hy, h1i, hi, h8, h0, h1, h2, h3, hp, hsr, hS, hd⟩
    have hzl := hp.length_eq
    try simp (disch := first | omega | (simp only [ints_length, List.length_replicate, List.length_set, List.length_map] <;> omega)) only [Sall,evalOp,init,binA_s,binE,binI,unE,convE,okNil,builtE,gv,TD.isAgg,resV,↓reduceIte,Nat.reduceEqDiff,reduceCtorEq,Nat.reduceAdd,Nat.reduceMul,Nat.reduceLeDiff,quietOp,blindOp,Int.reduceEq,Int.reduceLT,Int.reduceLE,Nat.reduceLT,tiA,tiXA, h8, h2]
    refine condC_dec (fun hh => ?_) (fun hh => ?_)
    · have hil : i < m := by omega
      have I0 := Ins.start (key := fun p : Value × List Int => hdL p.2) hsr (show i < z.length by omega)
      try simp (disch := first | omega | (simp only [ints_length, List.length_replicate, List.length_set, List.length_map] <;> omega)) only [Sall,evalOp,init,binA_s,binE,binI,unE,convE,okNil,builtE,gv,TD.isAgg,resV,↓reduceIte,Nat.reduceEqDiff,reduceCtorEq,Nat.reduceAdd,Nat.reduceMul,Nat.reduceLeDiff,quietOp,blindOp,Int.reduceEq,Int.reduceLT,Int.reduceLE,Nat.reduceLT,tiA,tiXA, h8, h0, h1, h2, h3]
      refine awp_loop (fun y' t H' => ∃ (A : List (Value × List Int)) (x : Value × List Int) (B C : List (Value × List Int)) (z : List (Value × List Int)), y' = A.length ∧ A.length ≤ i ∧ t 9 = .int .i64 A.length ∧ t 8 = .int .i64 i ∧ t 0 = .slice (some ⟨ui, 0, some 1⟩) m uc ∧ t 1 = .int .i64 0 ∧ t 2 = .int .i64 m ∧ t 3 = .func (.func 32) #[] #[] ∧ z.Perm ps0 ∧ Ins (fun p : Value × List Int => hdL p.2) z i A x B C ∧ Srt ui H0 H' ∧ H'.row ui = some ⟨32, true, z.map Prod.fst⟩) i ?_ ?_
      · have hl1 : (z.take i).length = i := by rw [List.length_take]; omega
        refine ⟨z.take i, z[i], [], z.drop (i + 1), z, by omega, by omega, ?_⟩
        try simp (disch := first | omega | (simp only [ints_length, List.length_replicate, List.length_set, List.length_map] <;> omega)) only [Sall,evalOp,init,binA_s,binE,binI,unE,convE,okNil,builtE,gv,TD.isAgg,resV,↓reduceIte,Nat.reduceEqDiff,reduceCtorEq,Nat.reduceAdd,Nat.reduceMul,Nat.reduceLeDiff,quietOp,blindOp,Int.reduceEq,Int.reduceLT,Int.reduceLE,Nat.reduceLT,tiA,tiXA, h8, h0, h1, h2, h3, hl1]
        exact ⟨hp, I0, hS, hd⟩
      · rintro y' t H3 ⟨A, x, B, C, z, hy', hA, h9, h8, h0, h1, h2, h3, hp, I, hS, hd⟩
        have hzl := hp.length_eq
        have hall := I.len_all
        refine draw_id (by kernel_rfl) (by kernel_rfl) ?_
        by_cases c0 : A.length = 0
        · have e0 : A = [] := List.eq_nil_of_length_eq_zero c0
          subst e0
          have h00 : ¬ (0 : Int) < ((0 : Nat) : Int) := by omega
          have h9 : t 9 = .int .i64 ((0 : Nat) : Int) := h9
          try simp (disch := first | omega | (simp only [ints_length, List.length_replicate, List.length_set, List.length_map] <;> omega)) only [Sall,evalOp,init,binA_s,binE,binI,unE,convE,okNil,builtE,gv,TD.isAgg,resV,↓reduceIte,Nat.reduceEqDiff,reduceCtorEq,Nat.reduceAdd,Nat.reduceMul,Nat.reduceLeDiff,quietOp,blindOp,Int.reduceEq,Int.reduceLT,Int.reduceLE,Nat.reduceLT,tiA,tiXA, h9, h8, h0, h1, h2, h3, h00, decide_false, w64]
          exact ⟨m + 1 - (i + 1), by omega, i + 1, z, by omega, by omega, by omega, rfl, hp, I.exit0, hS, hd⟩
        · obtain ⟨A', zz, rfl⟩ := cons_end (show 0 < A.length by omega)
          have hl1 : (A' ++ [zz]).length = A'.length + 1 := by simp
          rw [hl1] at h9
          have k1 := I.at
          have k2 := I.at1
          rw [hl1] at k1
          have mx : x ∈ ps0 := hp.subset (List.mem_iff_getElem?.2 ⟨_, k1⟩)
          have mz : zz ∈ ps0 := hp.subset (List.mem_iff_getElem?.2 ⟨_, k2⟩)
          have k1' : (z.map Prod.fst)[A'.length + 1]? = some x.1 := by rw [List.getElem?_map, k1]; rfl
          have k2' : (z.map Prod.fst)[A'.length]? = some zz.1 := by rw [List.getElem?_map, k2]; rfl
          have pg : (0 : Int) < ((A'.length + 1 : Nat) : Int) := by omega
          have pm : ((A'.length + 1 : Nat) : Int) - 1 = (A'.length : Int) := by omega
          have hR := hst H3 hS
          have rx := hR x mx
          have rz := hR zz mz
          have o1 := fun r => ok_one (r := r) rx.rd.one
          have o2 := fun r => ok_one (r := r) rz.rd.one
          have q1 := rx.rd.one
          have q2 := rz.rd.one
          have hdne : hdL x.2 ≠ hdL zz.2 := by
            have hk2 := key hp
            rw [I.eq, List.append_assoc, List.pairwise_append] at hk2
            have h4 := hk2.2.1
            rw [List.singleton_append, List.pairwise_cons] at h4
            exact fun e => h4.1 x (by simp) e.symm
          try simp (disch := first | omega | (simp only [ints_length, List.length_replicate, List.length_set, List.length_map] <;> omega)) only [Sall,evalOp,init,binA_s,binE,binI,unE,convE,okNil,builtE,gv,TD.isAgg,resV,↓reduceIte,Nat.reduceEqDiff,reduceCtorEq,Nat.reduceAdd,Nat.reduceMul,Nat.reduceLeDiff,quietOp,blindOp,Int.reduceEq,Int.reduceLT,Int.reduceLE,Nat.reduceLT,tiA,tiXA, h9, h8, h0, h1, h2, h3, pg, pm, decide_true, hd, k1', k2', o1, o2, q1, q2, w64]
          refine ⟨⟨by omega, by omega⟩, ⟨by omega, by omega⟩, ?_⟩
          refine (cmpLL_c x.1 zz.1 x.2 zz.2 H3 rx.rd rz.rd (hne x mx) (hne zz mz) hdne).to ?_
          refine ⟨.inr (.inr (LE.refl _)), ?_⟩
          by_cases cmp : hdL x.2 < hdL zz.2
          · have e1 : (if hdL x.2 < hdL zz.2 then (-1 : Int) else 1) = -1 := if_pos cmp
            have e2 : decide ((-1 : Int) < 0) = true := rfl
            rw [e1]
            try simp (disch := first | omega | (simp only [ints_length, List.length_replicate, List.length_set, List.length_map] <;> omega)) only [Sall,evalOp,init,binA_s,binE,binI,unE,convE,okNil,builtE,gv,TD.isAgg,resV,↓reduceIte,Nat.reduceEqDiff,reduceCtorEq,Nat.reduceAdd,Nat.reduceMul,Nat.reduceLeDiff,quietOp,blindOp,Int.reduceEq,Int.reduceLT,Int.reduceLE,Nat.reduceLT,tiA,tiXA, h9, h8, h0, h1, h2, h3, pg, pm, e2, w64]
            refine draw_id (by kernel_rfl) (by kernel_rfl) ?_
            try simp (disch := first | omega | (simp only [ints_length, List.length_replicate, List.length_set, List.length_map] <;> omega)) only [Sall,evalOp,init,binA_s,binE,binI,unE,convE,okNil,builtE,gv,TD.isAgg,resV,↓reduceIte,Nat.reduceEqDiff,reduceCtorEq,Nat.reduceAdd,Nat.reduceMul,Nat.reduceLeDiff,quietOp,blindOp,Int.reduceEq,Int.reduceLT,Int.reduceLE,Nat.reduceLT,tiA,tiXA, h9, h8, h0, h1, h2, h3, pm, hd, k1', k2', o1, o2, q1, q2, w64]
            obtain ⟨I2, hp2⟩ := I.step (show hdL x.2 ≤ hdL zz.2 by omega)
            have es : ((z.map Prod.fst).set (A'.length + 1) zz.1).set A'.length x.1 = (A' ++ x :: (zz :: B ++ C)).map Prod.fst := by rw [← I.swap, List.map_set, List.map_set]
            rw [es]
            have hS2 : Srt ui H0 (((H3.setCells ui ((z.map Prod.fst).set (A'.length + 1) zz.1)).setCells ui ((A' ++ x :: (zz :: B ++ C)).map Prod.fst))) := ⟨hS.1, fun j hj hne => by rw [AH.setCells_row, if_neg hne, AH.setCells_row, if_neg hne, hS.2.1 j hj hne], (hS.2.2.set _ _).set _ _⟩
            refine ⟨⟨by omega, by omega⟩, ⟨by omega, by omega⟩, ⟨by omega, by omega⟩, by rw [List.length_map]; omega, .inr (.inl (by kernel_rfl)), ⟨by omega, by omega⟩, by rw [List.length_set, List.length_map]; omega, .inr (.inl (by kernel_rfl)), A'.length, by omega, A', x, zz :: B, C, _, rfl, by omega, rfl, hp2.trans hp, I2, hS2, rfl⟩
          · have e1 : (if hdL x.2 < hdL zz.2 then (-1 : Int) else 1) = 1 := if_neg cmp
            have e2 : decide ((1 : Int) < 0) = false := rfl
            rw [e1]
            try simp (disch := first | omega | (simp only [ints_length, List.length_replicate, List.length_set, List.length_map] <;> omega)) only [Sall,evalOp,init,binA_s,binE,binI,unE,convE,okNil,builtE,gv,TD.isAgg,resV,↓reduceIte,Nat.reduceEqDiff,reduceCtorEq,Nat.reduceAdd,Nat.reduceMul,Nat.reduceLeDiff,quietOp,blindOp,Int.reduceEq,Int.reduceLT,Int.reduceLE,Nat.reduceLT,tiA,tiXA, h9, h8, h0, h1, h2, h3, pg, pm, e2, decide_false, w64]
            exact ⟨m + 1 - (i + 1), by omega, i + 1, z, by omega, by omega, by omega, rfl, hp, I.exit1 (show hdL zz.2 ≤ hdL x.2 by omega), hS, hd⟩
    · have hall : z.take i = z := List.take_of_length_le (by omega)
      rw [hall] at hsr
      try simp (disch := first | omega | (simp only [ints_length, List.length_replicate, List.length_set, List.length_map] <;> omega)) only [Sall,evalOp,init,binA_s,binE,binI,unE,convE,okNil,builtE,gv,TD.isAgg,resV,↓reduceIte,Nat.reduceEqDiff,reduceCtorEq,Nat.reduceAdd,Nat.reduceMul,Nat.reduceLeDiff,quietOp,blindOp,Int.reduceEq,Int.reduceLT,Int.reduceLE,Nat.reduceLT,tiA,tiXA, true_and]
      exact ⟨z, hp, hsr, hS, hd⟩
def SortedBy (ui : Nat) (ps0 : List (Value × List Int)) (H0 H' : AH) : Prop := ∃ ps : List (Value × List Int), ps.Perm ps0 ∧ (ps.Pairwise fun p q => hdL p.2 ≤ hdL q.2) ∧ Srt ui H0 H' ∧ H'.row ui = some ⟨32, true, ps.map Prod.fst⟩
theorem pdqLL_c (m : Nat) (hm : m ≤ 12) (ps0 : List (Value × List Int)) (hl0 : ps0.length = m) (hk : ps0.Pairwise fun p q => hdL p.2 ≠ hdL q.2) (hne : ∀ p ∈ ps0, 0 < p.2.length) (ui uc : Nat) (k : Int) (H0 : AH) (hui : ui < H0.next) (hst : ∀ H1, Srt ui H0 H1 → RowsP ps0 H1) (hrow : H0.row ui = some ⟨32, true, ps0.map Prod.fst⟩) :
    ACalls Try.prog 45 [.slice (some ⟨ui, 0, some 1⟩) m uc, .int .i64 0, .int .i64 m, .int .i64 k, .func (.func 32) #[] #[]] H0 (fun _ H' => SortedBy ui ps0 H0 H') := by
  refine acalls_of_awp [] Try.func45 (by kernel_rfl) rfl rfl (Nat.le_of_ble_eq_true rfl) (by kernel_rfl) ?_
  have h12 : (m : Int) ≤ 12 := by omega
  try simp (disch := first | omega | (simp only [ints_length, List.length_replicate, List.length_set, List.length_map] <;> omega)) only [Sall,evalOp,init,binA_s,binE,binI,unE,convE,okNil,builtE,gv,TD.isAgg,resV,↓reduceIte,Nat.reduceEqDiff,reduceCtorEq,Nat.reduceAdd,Nat.reduceMul,Nat.reduceLeDiff,quietOp,blindOp,Int.reduceEq,Int.reduceLT,Int.reduceLE,Nat.reduceLT,tiA,tiXA, true_and]
  refine awp_loop (fun y t H' => t 0 = .slice (some ⟨ui, 0, some 1⟩) m uc ∧ t 1 = .int .i64 0 ∧ t 2 = .int .i64 m ∧ t 4 = .func (.func 32) #[] #[] ∧ H' = H0) 0 ?_ ?_
  · try simp (disch := first | omega | (simp only [ints_length, List.length_replicate, List.length_set, List.length_map] <;> omega)) only [Sall,evalOp,init,binA_s,binE,binI,unE,convE,okNil,builtE,gv,TD.isAgg,resV,↓reduceIte,Nat.reduceEqDiff,reduceCtorEq,Nat.reduceAdd,Nat.reduceMul,Nat.reduceLeDiff,quietOp,blindOp,Int.reduceEq,Int.reduceLT,Int.reduceLE,Nat.reduceLT,tiA,tiXA, true_and]
  · rintro y t H' ⟨h0, h1, h2, h4, rfl⟩
    try simp (disch := first | omega | (simp only [ints_length, List.length_replicate, List.length_set, List.length_map] <;> omega)) only [Sall,evalOp,init,binA_s,binE,binI,unE,convE,okNil,builtE,gv,TD.isAgg,resV,↓reduceIte,Nat.reduceEqDiff,reduceCtorEq,Nat.reduceAdd,Nat.reduceMul,Nat.reduceLeDiff,quietOp,blindOp,Int.reduceEq,Int.reduceLT,Int.reduceLE,Nat.reduceLT,tiA,tiXA, h0, h1, h2, h4, Int.sub_zero, h12, decide_true, w64]
    refine ACalls.mono (insLL_c m (by omega) ps0 hl0 hk hne ui uc H' hui hst hrow) ?_
    rintro v H2 hh
    refine Holds.mp ?_
    try simp (disch := first | omega | (simp only [ints_length, List.length_replicate, List.length_set, List.length_map] <;> omega)) only [Sall,evalOp,init,binA_s,binE,binI,unE,convE,okNil,builtE,gv,TD.isAgg,resV,↓reduceIte,Nat.reduceEqDiff,reduceCtorEq,Nat.reduceAdd,Nat.reduceMul,Nat.reduceLeDiff,quietOp,blindOp,Int.reduceEq,Int.reduceLT,Int.reduceLE,Nat.reduceLT,tiA,tiXA, true_and]
    exact hh
theorem sortLL_c (m : Nat) (hm : m ≤ 12) (ps0 : List (Value × List Int)) (hl0 : ps0.length = m) (hk : ps0.Pairwise fun p q => hdL p.2 ≠ hdL q.2) (hne : ∀ p ∈ ps0, 0 < p.2.length) (ui uc : Nat) (H0 : AH) (hui : ui < H0.next) (hst : ∀ H1, Srt ui H0 H1 → RowsP ps0 H1) (hrow : H0.row ui = some ⟨32, true, ps0.map Prod.fst⟩) :
    ACalls Try.prog 31 [.slice (some ⟨ui, 0, some 1⟩) m uc, .func (.func 32) #[] #[]] H0 (fun _ H' => SortedBy ui ps0 H0 H') := by
  refine acalls_of_awp [] Try.func31 (by kernel_rfl) rfl rfl (Nat.le_of_ble_eq_true rfl) (by kernel_rfl) ?_
  have hw : IntKind.u64.wrap (m : Int) = (m : Int) := by
    rw [show IntKind.u64.wrap (m : Int) = (m : Int) % 18446744073709551616 from rfl]
    omega
  try simp (disch := first | omega | (simp only [ints_length, List.length_replicate, List.length_set, List.length_map] <;> omega)) only [Sall,evalOp,init,binA_s,binE,binI,unE,convE,okNil,builtE,gv,TD.isAgg,resV,↓reduceIte,Nat.reduceEqDiff,reduceCtorEq,Nat.reduceAdd,Nat.reduceMul,Nat.reduceLeDiff,quietOp,blindOp,Int.reduceEq,Int.reduceLT,Int.reduceLE,Nat.reduceLT,tiA,tiXA, builtE, hw]
  refine ACalls.exH (g := fun k => .int .i64 k) (bitsLen_c m (by omega) H0) ?_
  intro k _
  refine Holds.mp ?_
  try simp (disch := first | omega | (simp only [ints_length, List.length_replicate, List.length_set, List.length_map] <;> omega)) only [Sall,evalOp,init,binA_s,binE,binI,unE,convE,okNil,builtE,gv,TD.isAgg,resV,↓reduceIte,Nat.reduceEqDiff,reduceCtorEq,Nat.reduceAdd,Nat.reduceMul,Nat.reduceLeDiff,quietOp,blindOp,Int.reduceEq,Int.reduceLT,Int.reduceLE,Nat.reduceLT,tiA,tiXA, true_and]
  refine ACalls.mono (pdqLL_c m hm ps0 hl0 hk hne ui uc k H0 hui hst hrow) ?_
  rintro v H2 hh
  refine Holds.mp ?_
  try simp (disch := first | omega | (simp only [ints_length, List.length_replicate, List.length_set, List.length_map] <;> omega)) only [Sall,evalOp,init,binA_s,binE,binI,unE,convE,okNil,builtE,gv,TD.isAgg,resV,↓reduceIte,Nat.reduceEqDiff,reduceCtorEq,Nat.reduceAdd,Nat.reduceMul,Nat.reduceLeDiff,quietOp,blindOp,Int.reduceEq,Int.reduceLT,Int.reduceLE,Nat.reduceLT,tiA,tiXA, true_and]
  exact hh
theorem growI_c (N : Nat) (hN : 0 < N ∧ N ≤ 1000) (H : AH) : ACalls Try.prog 33 [.slice none 0 0, .int .i64 N] H (fun w H' => ∃ i, w = .slice (some ⟨i, 0, some 1⟩) 0 0 ∧ Ow H H' [.sl 1 2 (.slice (some ⟨i, 0, some 1⟩) N N) N (ints (List.replicate N 0))]) := by
  refine ACalls.wf (by kernel_rfl) fun hs => acalls_of_awp [.tmp 4] Try.func33 (by kernel_rfl) rfl rfl (Nat.le_of_ble_eq_true rfl) (by kernel_rfl) ?_
  have h1 : ¬ (N : Int) < 0 := by omega
  have h2 : (0 : Int) < (N : Int) := by omega
  have zn : zeros N [.int .i64 0] = ints (List.replicate N 0) := by simp [zeros, ints]
  try simp (disch := first | omega | (simp only [ints_length, List.length_replicate, List.length_set, List.length_map] <;> omega)) only [Sall,evalOp,init,binA_s,binE,binI,unE,convE,okNil,builtE,gv,TD.isAgg,resV,↓reduceIte,Nat.reduceEqDiff,reduceCtorEq,Nat.reduceAdd,Nat.reduceMul,Nat.reduceLeDiff,quietOp,blindOp,Int.reduceEq,Int.reduceLT,Int.reduceLE,Nat.reduceLT,tiA,tiXA, builtE, h1, h2, decide_false, decide_true, Int.sub_zero, Int.sub_self, w64]
  have s0 : ∀ (E : TI) (H : AH), sliceE E (.slice none 0 0) none (some 0) none H = .need ((0 : Int) = 0 ∧ (0 : Int) = 0 ∧ (0 : Int) = 0) (.val (.slice none 0 0) H) := fun _ _ => rfl
  have s1 : ∀ (E : TI) (i N : Nat) (H : AH), sliceE E (.slice (some ⟨i, 0, some 1⟩) N N) none (some 0) none H = .need ((0 : Int) ≤ 0 ∧ (0 : Int) ≤ 0 ∧ (0 : Int) ≤ (N : Int) ∧ 1 = E.size) (.val (.slice (some ⟨i, 0 + (0 : Int).toNat * E.size, some 1⟩) ((0 : Int).toNat - (0 : Int).toNat) ((0 : Int).toNat - (0 : Int).toNat)) H) := fun _ _ _ _ => rfl
  try simp (disch := first | omega | (simp only [ints_length, List.length_replicate, List.length_set, List.length_map] <;> omega)) only [Sall,evalOp,init,binA_s,binE,binI,unE,convE,okNil,builtE,gv,TD.isAgg,resV,↓reduceIte,Nat.reduceEqDiff,reduceCtorEq,Nat.reduceAdd,Nat.reduceMul,Nat.reduceLeDiff,quietOp,blindOp,Int.reduceEq,Int.reduceLT,Int.reduceLE,Nat.reduceLT,tiA,tiXA, s0, s1, growE, zn, builtE, w64]
  refine ⟨⟨by omega, by omega⟩, by omega, ?_⟩
  exact ⟨H.next, rfl, (Ow.refl hs).pushSl (k := 1) (n := N) (ty := 2) (vs := ints (List.replicate N 0)) (by simp [ints])⟩
def sumL (ps : List (Value × List Int)) : Nat := (ps.map Prod.snd).flatten.length
theorem concatI_c (m uc ui : Nat) (ps : List (Value × List Int)) (hm : ps.length = m) (hm2 : m ≤ 1000) (hN : 0 < sumL ps ∧ sumL ps ≤ 1000) (hpos : ∀ p ∈ ps, 0 < p.2.length) (H : AH) (hrow : H.row ui = some ⟨32, true, ps.map Prod.fst⟩) (hR : RowsP ps H) :
    ACalls Try.prog 19 [.slice (some ⟨ui, 0, some 1⟩) m uc] H (fun w H' => Ow H H' [.sl 1 2 w (sumL ps) (ints (ps.map Prod.snd).flatten)]) := by
  refine ACalls.wf (by kernel_rfl) fun hs => acalls_of_awp [.tmp 2] Try.func19 (by kernel_rfl) rfl rfl (Nat.le_of_ble_eq_true rfl) (by kernel_rfl) ?_
  have hsnoc : ∀ j, (hj : j < ps.length) → ((ps.take (j + 1)).map Prod.snd).flatten = ((ps.take j).map Prod.snd).flatten ++ ps[j].2 := fun j hj => by
    rw [List.take_succ_eq_append_getElem hj, List.map_append, List.flatten_append]; simp
  have hle : ∀ j, j ≤ ps.length → ((ps.take j).map Prod.snd).flatten.length ≤ sumL ps := fun j hj => by
    unfold sumL
    conv => rhs; rw [← List.take_append_drop j ps]
    rw [List.map_append, List.flatten_append, List.length_append]
    omega
  try simp (disch := first | omega | (simp only [ints_length, List.length_replicate, List.length_set, List.length_map] <;> omega)) only [Sall,evalOp,init,binA_s,binE,binI,unE,convE,okNil,builtE,gv,TD.isAgg,resV,↓reduceIte,Nat.reduceEqDiff,reduceCtorEq,Nat.reduceAdd,Nat.reduceMul,Nat.reduceLeDiff,quietOp,blindOp,Int.reduceEq,Int.reduceLT,Int.reduceLE,Nat.reduceLT,tiA,tiXA, builtE]
  refine awp_loop (fun y t H' => ∃ j : Nat, y = m - j ∧ j ≤ m ∧ t 11 = .int .i64 j ∧ t 10 = .int .i64 m ∧ t 9 = .slice (some ⟨ui, 0, some 1⟩) m uc ∧ t 3 = .int .i64 ((ps.take j).map Prod.snd).flatten.length ∧ t 0 = .slice (some ⟨ui, 0, some 1⟩) m uc ∧ H' = H) m ?_ ?_
  · refine ⟨0, by omega, by omega, ?_⟩
    try simp (disch := first | omega | (simp only [ints_length, List.length_replicate, List.length_set, List.length_map] <;> omega)) only [Sall,evalOp,init,binA_s,binE,binI,unE,convE,okNil,builtE,gv,TD.isAgg,resV,↓reduceIte,Nat.reduceEqDiff,reduceCtorEq,Nat.reduceAdd,Nat.reduceMul,Nat.reduceLeDiff,quietOp,blindOp,Int.reduceEq,Int.reduceLT,Int.reduceLE,Nat.reduceLT,tiA,tiXA, Int.natCast_zero, List.take_zero, List.map_nil, List.flatten_nil, List.length_nil]
  · rintro y t H1 ⟨j, hy, hj, h11, h10, h9, h3, h0, rfl⟩
    try simp (disch := first | omega | (simp only [ints_length, List.length_replicate, List.length_set, List.length_map] <;> omega)) only [Sall,evalOp,init,binA_s,binE,binI,unE,convE,okNil,builtE,gv,TD.isAgg,resV,↓reduceIte,Nat.reduceEqDiff,reduceCtorEq,Nat.reduceAdd,Nat.reduceMul,Nat.reduceLeDiff,quietOp,blindOp,Int.reduceEq,Int.reduceLT,Int.reduceLE,Nat.reduceLT,tiA,tiXA, h11, h10]
    refine condC_dec (fun hh => ?_) (fun hh => ?_)
    · have hjm : j < ps.length := by omega
      have k1 : (ps.map Prod.fst)[j]? = some ps[j].1 := by rw [List.getElem?_map, List.getElem?_eq_getElem hjm]; rfl
      have hrj := hR ps[j] (List.getElem_mem hjm)
      have hrl := hrj.rd.len
      have ho := fun r => ok_one (r := r) hrj.rd.one
      have ho1 := hrj.rd.one
      have hsn := hsnoc j hjm
      have hl1 := hle (j + 1) (by omega)
      rw [hsn, List.length_append] at hl1
      have ng : ¬ (((((ps.take j).map Prod.snd).flatten.length : Nat) : Int) + ((ps[j].2.length : Nat) : Int) < 0) := by omega
      try simp (disch := first | omega | (simp only [ints_length, List.length_replicate, List.length_set, List.length_map] <;> omega)) only [Sall,evalOp,init,binA_s,binE,binI,unE,convE,okNil,builtE,gv,TD.isAgg,resV,↓reduceIte,Nat.reduceEqDiff,reduceCtorEq,Nat.reduceAdd,Nat.reduceMul,Nat.reduceLeDiff,quietOp,blindOp,Int.reduceEq,Int.reduceLT,Int.reduceLE,Nat.reduceLT,tiA,tiXA, h11, h10, h9, h3, h0, hrow, k1, ho, ho1, builtE, hrl, ng, decide_false, w64]
      refine ⟨⟨by omega, by omega⟩, m - (j + 1), by omega, j + 1, by omega, by omega, by omega, ?_⟩
      rw [hsn, List.length_append]
      omega
    · have hjm : j = m := by omega
      have htk : ps.take j = ps := List.take_of_length_le (by omega)
      rw [htk] at h3
      have h3 : t 3 = .int .i64 (sumL ps) := h3
      try simp (disch := first | omega | (simp only [ints_length, List.length_replicate, List.length_set, List.length_map] <;> omega)) only [Sall,evalOp,init,binA_s,binE,binI,unE,convE,okNil,builtE,gv,TD.isAgg,resV,↓reduceIte,Nat.reduceEqDiff,reduceCtorEq,Nat.reduceAdd,Nat.reduceMul,Nat.reduceLeDiff,quietOp,blindOp,Int.reduceEq,Int.reduceLT,Int.reduceLE,Nat.reduceLT,tiA,tiXA, h3, h0]
      refine ACalls.ex (g := fun i : Nat => .slice (some ⟨i, 0, some 1⟩) 0 0) (growI_c (sumL ps) hN H1) ?_
      intro wi H2 o1
      refine Holds.mp ?_
      try simp (disch := first | omega | (simp only [ints_length, List.length_replicate, List.length_set, List.length_map] <;> omega)) only [Sall,evalOp,init,binA_s,binE,binI,unE,convE,okNil,builtE,gv,TD.isAgg,resV,↓reduceIte,Nat.reduceEqDiff,reduceCtorEq,Nat.reduceAdd,Nat.reduceMul,Nat.reduceLeDiff,quietOp,blindOp,Int.reduceEq,Int.reduceLT,Int.reduceLE,Nat.reduceLT,tiA,tiXA, h0, builtE]
      obtain ⟨N, eN⟩ : ∃ N, N = sumL ps := ⟨_, rfl⟩
      rw [← eN] at o1 hle ⊢
      refine awp_loop (fun y t H' => ∃ (j : Nat) (F : List Int), y = m - j ∧ j ≤ m ∧ F = ((ps.take j).map Prod.snd).flatten ∧ t 27 = .int .i64 j ∧ t 26 = .int .i64 m ∧ t 25 = .slice (some ⟨ui, 0, some 1⟩) m uc ∧ t 6 = .slice (some ⟨wi, 0, some 1⟩) F.length F.length ∧ Ow H1 H' [.sl 1 2 (.slice (some ⟨wi, 0, some 1⟩) N N) N (ints (F ++ List.replicate (N - F.length) 0))]) m ?_ ?_
      · refine ⟨0, [], by omega, by omega, rfl, ?_⟩
        try simp (disch := first | omega | (simp only [ints_length, List.length_replicate, List.length_set, List.length_map] <;> omega)) only [Sall,evalOp,init,binA_s,binE,binI,unE,convE,okNil,builtE,gv,TD.isAgg,resV,↓reduceIte,Nat.reduceEqDiff,reduceCtorEq,Nat.reduceAdd,Nat.reduceMul,Nat.reduceLeDiff,quietOp,blindOp,Int.reduceEq,Int.reduceLT,Int.reduceLE,Nat.reduceLT,tiA,tiXA, Int.natCast_zero]
        exact o1
      · rintro y t H3 ⟨j, F, hy, hj, hF, h27, h26, h25, h6, o2⟩
        try simp (disch := first | omega | (simp only [ints_length, List.length_replicate, List.length_set, List.length_map] <;> omega)) only [Sall,evalOp,init,binA_s,binE,binI,unE,convE,okNil,builtE,gv,TD.isAgg,resV,↓reduceIte,Nat.reduceEqDiff,reduceCtorEq,Nat.reduceAdd,Nat.reduceMul,Nat.reduceLeDiff,quietOp,blindOp,Int.reduceEq,Int.reduceLT,Int.reduceLE,Nat.reduceLT,tiA,tiXA, h27, h26]
        refine condC_dec (fun hh2 => ?_) (fun hh2 => ?_)
        · have hjm : j < ps.length := by omega
          have k1 : (ps.map Prod.fst)[j]? = some ps[j].1 := by rw [List.getElem?_map, List.getElem?_eq_getElem hjm]; rfl
          have hrj := (hR ps[j] (List.getElem_mem hjm)).same (o2.old hs)
          have ho := fun r => ok_one (r := r) hrj.rd.one
          have ho1 := hrj.rd.one
          have hsn := hsnoc j hjm
          have hl1 := hle (j + 1) (by omega)
          rw [hsn, ← hF, List.length_append] at hl1
          have hrow' := o2.old hs _ _ hrow
          have hpj := hpos ps[j] (List.getElem_mem hjm)
          have hwr := (o2.getV 0 rfl).2.2
          generalize ps[j].2 = x at *
          generalize ps[j].1 = xv at *
          try simp (disch := first | omega | (simp only [ints_length, List.length_replicate, List.length_set, List.length_map] <;> omega)) only [Sall,evalOp,init,binA_s,binE,binI,unE,convE,okNil,builtE,gv,TD.isAgg,resV,↓reduceIte,Nat.reduceEqDiff,reduceCtorEq,Nat.reduceAdd,Nat.reduceMul,Nat.reduceLeDiff,quietOp,blindOp,Int.reduceEq,Int.reduceLT,Int.reduceLE,Nat.reduceLT,tiA,tiXA, h27, h26, h25, h6, hrow', k1, ho, ho1]
          (repeat refine And.intro (by omega) ?_)
          try simp (disch := first | omega | (simp only [ints_length, List.length_replicate, List.length_set, List.length_map] <;> omega)) only [Sall,evalOp,init,binA_s,binE,binI,unE,convE,okNil,builtE,gv,TD.isAgg,resV,↓reduceIte,Nat.reduceEqDiff,reduceCtorEq,Nat.reduceAdd,Nat.reduceMul,Nat.reduceLeDiff,quietOp,blindOp,Int.reduceEq,Int.reduceLT,Int.reduceLE,Nat.reduceLT,tiA,tiXA, h27, h26, h25, h6, hrow', k1, ho, ho1]
          refine hrj.rd.slC hpj ?_
          have hfl : F.length + x.length ≤ N := hl1
          have hx0 : ¬ x.length = 0 := by omega
          have esp : splice (ints (F ++ List.replicate (N - F.length) 0)) F.length (ints x) = ints (F ++ x ++ List.replicate (N - (F ++ x).length) 0) := by
            unfold splice
            rw [← ints_append F, List.take_left' (ints_length F), ints_length, ← List.drop_drop, List.drop_left' (ints_length F)]
            have e2 : (ints (List.replicate (N - F.length) 0)).drop x.length = ints (List.replicate (N - (F ++ x).length) 0) := by
              unfold ints
              rw [← List.map_drop, List.drop_replicate, List.length_append]
              congr 2
              omega
            rw [e2, ints_append, ints_append]
          unfold appE
          rw [if_neg hx0]
          have hlN : (ints (F ++ List.replicate (N - F.length) 0)).length = N := by rw [ints_length, List.length_append, List.length_replicate]; omega
          try simp (disch := first | omega | (simp only [ints_length, List.length_replicate, List.length_set, List.length_map] <;> omega)) only [Sall,evalOp,init,binA_s,binE,binI,unE,convE,okNil,builtE,gv,TD.isAgg,resV,↓reduceIte,Nat.reduceEqDiff,reduceCtorEq,Nat.reduceAdd,Nat.reduceMul,Nat.reduceLeDiff,quietOp,blindOp,Int.reduceEq,Int.reduceLT,Int.reduceLE,Nat.reduceLT,tiA,tiXA, hwr, hlN, hfl, esp]
          have hput := o2.put 0 rfl (vs' := ints (F ++ x ++ List.replicate (N - (F ++ x).length) 0)) (by rw [ints_length, hlN, List.length_append, List.length_append, List.length_replicate]; omega)
          refine ⟨⟨by omega, by omega⟩, .inr trivial, ?_⟩
          try simp (disch := first | omega | (simp only [ints_length, List.length_replicate, List.length_set, List.length_map] <;> omega)) only [Sall,evalOp,init,binA_s,binE,binI,unE,convE,okNil,builtE,gv,TD.isAgg,resV,↓reduceIte,Nat.reduceEqDiff,reduceCtorEq,Nat.reduceAdd,Nat.reduceMul,Nat.reduceLeDiff,quietOp,blindOp,Int.reduceEq,Int.reduceLT,Int.reduceLE,Nat.reduceLT,tiA,tiXA, h27, h26, h25, w64]
          refine ⟨m - (j + 1), by omega, j + 1, F ++ x, by omega, by omega, by rw [hF, hsn], rfl, ?_, ?_⟩
          · rw [List.length_append]
          · exact hput
        · have hjm : j = m := by omega
          have htk : ps.take j = ps := List.take_of_length_le (by omega)
          rw [htk] at hF
          have hFN : F.length = N := by rw [hF, eN]; rfl
          rw [hFN, Nat.sub_self, List.replicate_zero, List.append_nil] at o2
          rw [hFN] at h6
          try simp (disch := first | omega | (simp only [ints_length, List.length_replicate, List.length_set, List.length_map] <;> omega)) only [Sall,evalOp,init,binA_s,binE,binI,unE,convE,okNil,builtE,gv,TD.isAgg,resV,↓reduceIte,Nat.reduceEqDiff,reduceCtorEq,Nat.reduceAdd,Nat.reduceMul,Nat.reduceLeDiff,quietOp,blindOp,Int.reduceEq,Int.reduceLT,Int.reduceLE,Nat.reduceLT,tiA,tiXA, h6]
          rw [← hF]
          exact o2
end Go.Proofs.Ytollphjompimjaa.A
end

section
namespace Go.Abs
open Go Go.RowKit
def Pt (lo hi i : Nat) (H : AH) (x : Value) (y : List Int) : Prop := ∀ H', (∀ z r, lo ≤ z → z < hi → ¬ z = i → H.row z = some r → H'.row z = some r) → Rd 1 H' x y.length y
def FrV (ty lo hi : Nat) (H : AH) (v : Value) (ll : List (List Int)) : Prop :=
  (ll = [] ∧ v = .slice none 0 0) ∨ ∃ i vs, lo ≤ i ∧ i < hi ∧ v = .slice (some ⟨i, 0, some 1⟩) ll.length ll.length ∧ H.row i = some ⟨ty, true, vs⟩ ∧ vs.length = ll.length ∧ ∀ j, j < ll.length → ∃ x, vs[j]? = some x ∧ Pt lo hi i H x (ll.getD j [])
theorem FrV.same {ty lo hi : Nat} {H H' : AH} {v : Value} {ll : List (List Int)} (h : FrV ty lo hi H v ll) (hs : ∀ i, lo ≤ i → i < hi → H'.row i = H.row i) : FrV ty lo hi H' v ll := by
  rcases h with h | ⟨i, vs, h1, h2, hv, hr, hl, hj⟩
  · exact .inl h
  · refine .inr ⟨i, vs, h1, h2, hv, by rw [hs i h1 h2]; exact hr, hl, fun j hjl => ?_⟩
    obtain ⟨x, hx, hp⟩ := hj j hjl
    exact ⟨x, hx, fun H2 h2 => hp H2 fun z r z1 z2 z3 hz => h2 z r z1 z2 z3 (by rw [hs z z1 z2]; exact hz)⟩
theorem FrV.wide {ty lo hi lo' hi' : Nat} {H : AH} {v : Value} {ll : List (List Int)} (h : FrV ty lo hi H v ll) (a : lo' ≤ lo) (c : hi ≤ hi') : FrV ty lo' hi' H v ll := by
  rcases h with h | ⟨i, vs, h1, h2, hv, hr, hl, hj⟩
  · exact .inl h
  · refine .inr ⟨i, vs, by omega, by omega, hv, hr, hl, fun j hjl => ?_⟩
    obtain ⟨x, hx, hp⟩ := hj j hjl
    exact ⟨x, hx, fun H2 h2 => hp H2 fun z r z1 z2 z3 hz => h2 z r (by omega) (by omega) z3 hz⟩
theorem FrV.rd {ty lo hi : Nat} {H : AH} {v : Value} {ll : List (List Int)} (h : FrV ty lo hi H v ll) : Rd2 1 H v ll := by
  rcases h with ⟨h1, h2⟩ | ⟨i, vs, h1, h2, rfl, hr, hl, hj⟩
  · exact .inl ⟨h1, none, 0, h2, fun _ => rfl⟩
  · refine .inr ⟨i, 0, some 1, _, _, rfl, hr, fun j hjl => ?_⟩
    obtain ⟨x, hx, hp⟩ := hj j hjl
    exact ⟨x, _, by simpa using hx, hp H fun _ _ _ _ _ h => h⟩
theorem cells_of_one {v : Value} (h : v.oneCell' = true) : v.cells = #[v] := by
  cases v <;> first | rfl | (simp [Value.oneCell'] at h)
theorem noTuple_of_one {v : Value} (h : v.oneCell' = true) : noTuple v = true := by
  cases v <;> first | rfl | (simp [Value.oneCell'] at h)
end Go.Abs
end

section
set_option maxRecDepth 100000
set_option maxHeartbeats 2000000
namespace Go.Proofs.Ytollphjompimjaa.A
open Go Go.Abs Go.RowKit
theorem tidy_c (n g c : Nat) (hg : 2 ≤ g) (hn : n = g * c) (hc : 1 ≤ c) (hn25 : n ≤ 25) (hgn : g ≤ n) (v y : Value) (l : List Int) (H : AH) (hone : v.oneCell' = true) (hy : Rs 1 H y n l) (ho : ordB n l = true) :
    ACalls Try.prog 18 [.agg #[.int .i64 n, .int .i64 g, v], y] H (fun w H' => Ow H H' [.sl 1 2 w n (ints (tidF g l n))]) := by
  refine ACalls.wf (by kernel_rfl) fun hs => acalls_of_awp [.tmp 4] Try.func18 (by kernel_rfl) rfl rfl (Nat.le_of_ble_eq_true rfl) (by kernel_rfl) ?_
  have hyo := hy.rd.one
  have o1 := ((golf_push hs n g v).pushSl (k := 1) (n := 0) (ty := 32) (vs := []) rfl).addSee (Q := RowsP []) (fun _ p hp => by simp at hp)
  have hc12 : c ≤ 12 := by
    have h1 : 2 * c ≤ g * c := Nat.mul_le_mul_right c hg
    omega
  have hlk : l.length = n := ((ordB_iff n l).1 ho).1
  try simp (disch := first | omega | (simp only [ints_length, List.length_replicate, List.length_set, List.length_map] <;> omega)) only [Sall,evalOp,init,binA_s,binE,binI,unE,convE,okNil,builtE,gv,TD.isAgg,resV,↓reduceIte,Nat.reduceEqDiff,reduceCtorEq,Nat.reduceAdd,Nat.reduceMul,Nat.reduceLeDiff,quietOp,blindOp,Int.reduceEq,Int.reduceLT,Int.reduceLE,Nat.reduceLT,tiA,tiXA, hone, hyo]
  (repeat refine And.intro (by omega) ?_)
  try simp (disch := first | omega | (simp only [ints_length, List.length_replicate, List.length_set, List.length_map] <;> omega)) only [Sall,evalOp,init,binA_s,binE,binI,unE,convE,okNil,builtE,gv,TD.isAgg,resV,↓reduceIte,Nat.reduceEqDiff,reduceCtorEq,Nat.reduceAdd,Nat.reduceMul,Nat.reduceLeDiff,quietOp,blindOp,Int.reduceEq,Int.reduceLT,Int.reduceLE,Nat.reduceLT,tiA,tiXA, hone, hyo]
  have o1 : Ow H ((H.push ⟨24, true, [.int .i64 n, .int .i64 g, v]⟩).push ⟨32, true, []⟩) [.row H.next ⟨24, true, [.int .i64 n, .int .i64 g, v]⟩, .sl 1 32 (.slice (some ⟨H.next + 1, 0, some 1⟩) 0 0) 0 [], .see (RowsP [])] := o1
  obtain ⟨pi, epi⟩ : ∃ pi, pi = H.next := ⟨_, rfl⟩
  rw [← epi] at o1 ⊢
  refine awp_loop (fun m t H' => ∃ (a : Nat) (u : Value) (ps : List (Value × List Int)), m = c - a ∧ a ≤ c ∧ ps.map Prod.snd = (List.range a).map (blkL g l) ∧ t 6 = .int .i64 ((a * g : Nat) : Int) ∧ t 5 = u ∧ t 1 = y ∧ t 2 = .pointer (some ⟨pi, 0, none⟩) ∧ Ow H H' [.row pi ⟨24, true, [.int .i64 n, .int .i64 g, v]⟩, .sl 1 32 u a (ps.map Prod.fst), .see (RowsP ps)]) c ?_ ?_
  · refine ⟨0, .slice (some ⟨pi + 1, 0, some 1⟩) 0 0, [], by omega, by omega, rfl, ?_⟩
    try simp (disch := first | omega | (simp only [ints_length, List.length_replicate, List.length_set, List.length_map] <;> omega)) only [Sall,evalOp,init,binA_s,binE,binI,unE,convE,okNil,builtE,gv,TD.isAgg,resV,↓reduceIte,Nat.reduceEqDiff,reduceCtorEq,Nat.reduceAdd,Nat.reduceMul,Nat.reduceLeDiff,quietOp,blindOp,Int.reduceEq,Int.reduceLT,Int.reduceLE,Nat.reduceLT,tiA,tiXA, Nat.zero_mul, Int.natCast_zero]
    exact o1
  · rintro m t H1 ⟨a, u, ps, hm, ha, hps, h6, h5, h1, h2, o2⟩
    have e1 := (o2.rowAt 0 rfl).1
    have hu := o2.one 1 rfl
    try simp (disch := first | omega | (simp only [ints_length, List.length_replicate, List.length_set, List.length_map] <;> omega)) only [Sall,evalOp,init,binA_s,binE,binI,unE,convE,okNil,builtE,gv,TD.isAgg,resV,↓reduceIte,Nat.reduceEqDiff,reduceCtorEq,Nat.reduceAdd,Nat.reduceMul,Nat.reduceLeDiff,quietOp,blindOp,Int.reduceEq,Int.reduceLT,Int.reduceLE,Nat.reduceLT,tiA,tiXA, h6, h2, e1]
    have hcn : (((a * g : Nat) : Int) < (n : Int)) ↔ a < c := by
      rw [hn, Nat.mul_comm g c]
      constructor
      · intro h
        have h : a * g < c * g := by omega
        exact Nat.lt_of_mul_lt_mul_right h
      · intro h
        have : a * g < c * g := Nat.mul_lt_mul_of_pos_right h (by omega)
        omega
    refine condC_dec (fun hh => ?_) (fun hh => ?_)
    · have hac : a < c := hcn.1 hh
      have hA : a * g + g ≤ n := by
        have h2 : (a + 1) * g ≤ c * g := Nat.mul_le_mul_right g hac
        rw [Nat.succ_mul, Nat.mul_comm c g, ← hn] at h2
        exact h2
      have wd : ∀ A : Nat, A ≤ 100 → IntKind.i64.wrap (A : Int) = A := fun A hA => w64 ⟨by omega, by omega⟩
      have wd3 := wd (a * g + g) (by omega)
      have ea : ((a * g : Nat) : Int) + (g : Int) = ((a * g + g : Nat) : Int) := by omega
      have hy1 := hy.same (o2.old hs)
      obtain ⟨ys, hcut, rys⟩ := hy1.cut (lo := some ((a * g : Nat) : Int)) (hi := some ((a * g + g : Nat) : Int)) (a := a * g) (b := a * g + g) rfl rfl (by omega) hA
      rw [Nat.mul_one, Nat.mul_one, Nat.add_sub_cancel_left] at rys
      have hyso := rys.rd.one
      have hkl : ((l.drop (a * g)).take g).length = g := by have := rys.rd.1; omega
      try simp (disch := first | omega | (simp only [ints_length, List.length_replicate, List.length_set, List.length_map] <;> omega)) only [Sall,evalOp,init,binA_s,binE,binI,unE,convE,okNil,builtE,gv,TD.isAgg,resV,↓reduceIte,Nat.reduceEqDiff,reduceCtorEq,Nat.reduceAdd,Nat.reduceMul,Nat.reduceLeDiff,quietOp,blindOp,Int.reduceEq,Int.reduceLT,Int.reduceLE,Nat.reduceLT,tiA,tiXA, h6, h5, h1, h2, e1, ea, wd3]
      refine hcut _ _ _ _ rfl ?_
      try simp (disch := first | omega | (simp only [ints_length, List.length_replicate, List.length_set, List.length_map] <;> omega)) only [Sall,evalOp,init,binA_s,binE,binI,unE,convE,okNil,builtE,gv,TD.isAgg,resV,↓reduceIte,Nat.reduceEqDiff,reduceCtorEq,Nat.reduceAdd,Nat.reduceMul,Nat.reduceLeDiff,quietOp,blindOp,Int.reduceEq,Int.reduceLT,Int.reduceLE,Nat.reduceLT,tiA,tiXA, hyso]
      refine (values_c ys H1 hyso).to ?_
      have o3 := o2.tmp ⟨32, true, [ys]⟩
      have e5 : (H1.push ⟨32, true, [ys]⟩).row H1.next = some ⟨32, true, [ys]⟩ := by rw [AH.push_row, if_pos rfl]
      have ry2 : Rd 1 (H1.push ⟨32, true, [ys]⟩) ys ((l.drop (a * g)).take g).length ((l.drop (a * g)).take g) := by
        rw [hkl]
        exact rys.rd.same fun i r hr => by have := o2.sc _ _ hr; rw [AH.push_row, if_neg (by omega)]; exact hr
      refine Holds.mp ?_
      try simp (disch := first | omega | (simp only [ints_length, List.length_replicate, List.length_set, List.length_map] <;> omega)) only [Sall,evalOp,init,binA_s,binE,binI,unE,convE,okNil,builtE,gv,TD.isAgg,resV,↓reduceIte,Nat.reduceEqDiff,reduceCtorEq,Nat.reduceAdd,Nat.reduceMul,Nat.reduceLeDiff,quietOp,blindOp,Int.reduceEq,Int.reduceLT,Int.reduceLE,Nat.reduceLT,tiA,tiXA, true_and]
      obtain ⟨b, eb⟩ : ∃ b, b = H1.next := ⟨_, rfl⟩
      rw [← eb] at e5 ⊢
      generalize H1.push ⟨32, true, [ys]⟩ = H2 at o3 ry2 e5 ⊢
      refine ACalls.mono (sorted_c b ys _ H2 e5 ry2 (by omega)).sc ?_
      rintro x H3 ⟨⟨up3, f3⟩, sc3⟩
      have o4 := o3.call (Ow.of_fr up3 sc3 f3)
      have hx := o4.one 3 rfl
      have zz : zeros 1 [.slice none 0 0] = [.slice none 0 0] := rfl
      have hq1 := cells_of_one hx
      have hq2 := noTuple_of_one hx
      have hq3 := fun r => ok_one (r := r) hx
      refine Holds.mp ?_
      try simp (disch := first | omega | (simp only [ints_length, List.length_replicate, List.length_set, List.length_map] <;> omega)) only [Sall,evalOp,init,binA_s,binE,binI,unE,convE,okNil,builtE,gv,TD.isAgg,resV,↓reduceIte,Nat.reduceEqDiff,reduceCtorEq,Nat.reduceAdd,Nat.reduceMul,Nat.reduceLeDiff,quietOp,blindOp,Int.reduceEq,Int.reduceLT,Int.reduceLE,Nat.reduceLT,tiA,tiXA, hx, h5, hu, zz, hq1, hq2, hq3, slCells]
      (repeat refine And.intro (by omega) ?_)
      try simp (disch := first | omega | (simp only [ints_length, List.length_replicate, List.length_set, List.length_map] <;> omega)) only [Sall,evalOp,init,binA_s,binE,binI,unE,convE,okNil,builtE,gv,TD.isAgg,resV,↓reduceIte,Nat.reduceEqDiff,reduceCtorEq,Nat.reduceAdd,Nat.reduceMul,Nat.reduceLeDiff,quietOp,blindOp,Int.reduceEq,Int.reduceLT,Int.reduceLE,Nat.reduceLT,tiA,tiXA, hx, h5, hu, zz, hq1, hq2, hq3, slCells]
      refine (o4.tmp ⟨32, true, [x]⟩).app 1 (c := 1) (ms := [x]) rfl rfl (by omega) rfl (by omega) (by decide) (by omega) ?_
      intro u' H4 n4 o5
      have o5 : Ow H H4 [.row pi ⟨24, true, [.int .i64 n, .int .i64 g, v]⟩, .sl 1 32 u' (a + 1) (ps.map Prod.fst ++ [x]), .see (RowsP ps), .sl 1 2 x ((l.drop (a * g)).take g).length (ints (sortedL ((l.drop (a * g)).take g)))] := o5
      have o6 := o5.addP 2 3 (x := x) (l := blkL g l a) rfl rfl (by omega) (fun H S hp => by
        have hq := sl_rs hp
        have e : (blkL g l a).length = ((l.drop (a * g)).take g).length := by unfold blkL; exact sortedL_length _
        rw [e]; exact hq)
      have o6 : Ow H H4 ([.row pi ⟨24, true, [.int .i64 n, .int .i64 g, v]⟩, .sl 1 32 u' (a + 1) (ps.map Prod.fst ++ [x]), .see (RowsP (ps ++ [(x, blkL g l a)]))] ++ [.no]) := o6
      have e1' := (o6.rowAt 0 rfl).1
      try simp (disch := first | omega | (simp only [ints_length, List.length_replicate, List.length_set, List.length_map] <;> omega)) only [Sall,evalOp,init,binA_s,binE,binI,unE,convE,okNil,builtE,gv,TD.isAgg,resV,↓reduceIte,Nat.reduceEqDiff,reduceCtorEq,Nat.reduceAdd,Nat.reduceMul,Nat.reduceLeDiff,quietOp,blindOp,Int.reduceEq,Int.reduceLT,Int.reduceLE,Nat.reduceLT,tiA,tiXA, h6, h1, h2, e1', ea, wd3]
      refine ⟨c - (a + 1), by omega, a + 1, u', ps ++ [(x, blkL g l a)], by omega, by omega, ?_, by rw [Nat.succ_mul], rfl, ?_⟩
      · rw [List.map_append, hps, List.range_succ, List.map_append]; rfl
      · rw [List.map_append]
        exact o6.left
    · have hac : a = c := by
        by_cases h : a < c
        · exact absurd (hcn.2 h) hh
        · omega
      rw [hac] at o2 hps
      try simp (disch := first | omega | (simp only [ints_length, List.length_replicate, List.length_set, List.length_map] <;> omega)) only [Sall,evalOp,init,binA_s,binE,binI,unE,convE,okNil,builtE,gv,TD.isAgg,resV,↓reduceIte,Nat.reduceEqDiff,reduceCtorEq,Nat.reduceAdd,Nat.reduceMul,Nat.reduceLeDiff,quietOp,blindOp,Int.reduceEq,Int.reduceLT,Int.reduceLE,Nat.reduceLT,tiA,tiXA, h5]
      have hpl : ps.length = c := by have := congrArg List.length hps; simpa using this
      have hpb : ps.map Prod.snd = blksL g c l := hps
      have hkd : ps.Pairwise fun p q => hdL p.2 ≠ hdL q.2 := by
        have h := blks_nodup (by omega) hn ho
        rw [← hpb, List.pairwise_map] at h
        exact h
      have hbl : ∀ p ∈ ps, p.2.length = g := fun p hp => by
        have h : p.2 ∈ blksL g c l := by rw [← hpb]; exact List.mem_map.2 ⟨p, hp, rfl⟩
        unfold blksL at h
        obtain ⟨t, ht, e⟩ := List.mem_map.1 h
        rw [← e]
        exact blk_len hn ho (List.mem_range.1 ht)
      have hne : ∀ p ∈ ps, 0 < p.2.length := fun p hp => by rw [hbl p hp]; omega
      obtain ⟨ui, _, hui, eu, hrow⟩ := o2.get 1 rfl (by omega)
      subst eu
      refine ACalls.mono (sortLL_c c hc12 ps hpl hkd hne ui c H1 hui (fun Hx hx => o2.seeStab 2 1 rfl rfl (by omega) hx.2.1) hrow) ?_
      rintro r H2 ⟨ps', hp', hst', hS, hrow'⟩
      have o3 := o2.rowNew 1 rfl (vs' := ps'.map Prod.fst) (by rw [List.length_map, List.length_map, hp'.length_eq]) hS.1 hS.2.2 hS.2.1 hrow'
      have hR0 : RowsP ps H2 := o3.sees 2 rfl
      have hR' : RowsP ps' H2 := fun p hp => hR0 p (hp'.subset hp)
      have hG := tid_sorted (by omega) hn ho (G := ps'.map Prod.snd) (by rw [← hpb]; exact hp'.map _) (by rw [List.pairwise_map]; exact hst')
      have hsum : sumL ps' = n := by
        unfold sumL
        rw [hG, tid_len (by omega) hn ho]
      refine Holds.mp ?_
      try simp (disch := first | omega | (simp only [ints_length, List.length_replicate, List.length_set, List.length_map] <;> omega)) only [Sall,evalOp,init,binA_s,binE,binI,unE,convE,okNil,builtE,gv,TD.isAgg,resV,↓reduceIte,Nat.reduceEqDiff,reduceCtorEq,Nat.reduceAdd,Nat.reduceMul,Nat.reduceLeDiff,quietOp,blindOp,Int.reduceEq,Int.reduceLT,Int.reduceLE,Nat.reduceLT,tiA,tiXA, h5]
      refine ACalls.mono (concatI_c c c ui ps' (by rw [hp'.length_eq, hpl]) (by omega) (by rw [hsum]; omega) (fun p hp => hne p (hp'.subset hp)) H2 hrow' hR') ?_
      intro w H3 o4
      have hw := o4.one 0 rfl
      refine Holds.mp ?_
      try simp (disch := first | omega | (simp only [ints_length, List.length_replicate, List.length_set, List.length_map] <;> omega)) only [Sall,evalOp,init,binA_s,binE,binI,unE,convE,okNil,builtE,gv,TD.isAgg,resV,↓reduceIte,Nat.reduceEqDiff,reduceCtorEq,Nat.reduceAdd,Nat.reduceMul,Nat.reduceLeDiff,quietOp,blindOp,Int.reduceEq,Int.reduceLT,Int.reduceLE,Nat.reduceLT,tiA,tiXA, hw]
      rw [hsum, hG] at o4
      exact (o3.call o4).only 3 rfl
theorem TidyRound_c (q g : Int) (v : Value) (R : List (List Int)) (i : Int) (H : AH) (hv : Rg H v R) (hl : R.length ≤ 4194304) (hl2 : ∀ r ∈ R, r.length ≤ 4194304) :
    ACalls Try.prog 13 [.agg #[.int .i64 q, .int .i64 g, v], .int .i64 i] H (fun r H' => ∃ w, r = .tuple #[w, .int .i64 (glC q g R (decide (0 ≤ i ∧ i ≤ (R.length : Int) - 1)))] ∧ Ow H H' [.sl 1 2 w (tidV q g R i).length (ints (tidV q g R i))]) := by
  refine ACalls.wf (by kernel_rfl) fun hs => acalls_of_awp [.tmp 4, .tmp 5] Try.func13 (by kernel_rfl) rfl rfl (Nat.le_of_ble_eq_true rfl) (by kernel_rfl) ?_
  have hone := hv.one
  have o1 := golf_push hs q g v
  try simp (disch := first | omega | (simp only [ints_length, List.length_replicate, List.length_set, List.length_map] <;> omega)) only [Sall,evalOp,init,binA_s,binE,binI,unE,convE,okNil,builtE,gv,TD.isAgg,resV,↓reduceIte,Nat.reduceEqDiff,reduceCtorEq,Nat.reduceAdd,Nat.reduceMul,Nat.reduceLeDiff,quietOp,blindOp,Int.reduceEq,Int.reduceLT,Int.reduceLE,Nat.reduceLT,tiA,tiXA, hone]
  obtain ⟨pi, epi⟩ : ∃ pi, pi = H.next := ⟨_, rfl⟩
  rw [← epi] at o1 ⊢
  generalize H.push ⟨24, true, [.int .i64 q, .int .i64 g, v]⟩ = H1 at o1 ⊢
  have e1 := (o1.rowAt 0 rfl).1
  have hv1 := hv.same (o1.old hs)
  refine draw_id (by kernel_rfl) (by kernel_rfl) ?_
  try simp (disch := first | omega | (simp only [ints_length, List.length_replicate, List.length_set, List.length_map] <;> omega)) only [Sall,evalOp,init,binA_s,binE,binI,unE,convE,okNil,builtE,gv,TD.isAgg,resV,↓reduceIte,Nat.reduceEqDiff,reduceCtorEq,Nat.reduceAdd,Nat.reduceMul,Nat.reduceLeDiff,quietOp,blindOp,Int.reduceEq,Int.reduceLT,Int.reduceLE,Nat.reduceLT,tiA,tiXA, e1, hone]
  refine (hasRound_c q g v R i H1 hv1.rd2 hl).to ?_
  refine ⟨.inr (.inr (LE.refl _)), ?_⟩
  try simp (disch := first | omega | (simp only [ints_length, List.length_replicate, List.length_set, List.length_map] <;> omega)) only [Sall,evalOp,init,binA_s,binE,binI,unE,convE,okNil,builtE,gv,TD.isAgg,resV,↓reduceIte,Nat.reduceEqDiff,reduceCtorEq,Nat.reduceAdd,Nat.reduceMul,Nat.reduceLeDiff,quietOp,blindOp,Int.reduceEq,Int.reduceLT,Int.reduceLE,Nat.reduceLT,tiA,tiXA, e1, hone]
  refine (golfCode_c q g v R _ H1 hv1.rd2 hl hl2).to ?_
  refine ⟨.inr (.inr (LE.refl _)), ?_⟩
  try simp (disch := first | omega | (simp only [ints_length, List.length_replicate, List.length_set, List.length_map] <;> omega)) only [Sall,evalOp,init,binA_s,binE,binI,unE,convE,okNil,builtE,gv,TD.isAgg,resV,↓reduceIte,Nat.reduceEqDiff,reduceCtorEq,Nat.reduceAdd,Nat.reduceMul,Nat.reduceLeDiff,quietOp,blindOp,Int.reduceEq,Int.reduceLT,Int.reduceLE,Nat.reduceLT,tiA,tiXA, true_and]
  by_cases hz : glC q g R (decide (0 ≤ i ∧ i ≤ (R.length : Int) - 1)) = 0
  · obtain ⟨hE, hD⟩ := glC_yes hz
    rw [decide_eq_true_iff] at hD
    have e3 : ((0 : Int) != 0) = false := rfl
    have eV : tidV q g R i = tidF g.toNat (R.getD i.toNat []) q.toNat := by unfold tidV; rw [if_pos ⟨hE, hD⟩]
    rw [hz, eV]
    obtain ⟨n, gN, c, rfl, rfl, q0, q1, q2, q3, q4, q5, q6, q7⟩ := golfB_at hE
    obtain ⟨iN, rfl⟩ : ∃ iN : Nat, i = iN := ⟨i.toNat, by omega⟩
    simp only [Int.toNat_natCast]
    obtain ⟨vi, vo, vu, vc, vr, y, ev, v1, v2, v3, v4⟩ := hv1.get (j := iN) (by omega)
    have ho := q7 iN (by omega)
    have hol := ((ordB_iff n _).1 ho).1
    rw [hol] at v3
    have htl := tid_len (by omega) q0 ho
    try simp (disch := first | omega | (simp only [ints_length, List.length_replicate, List.length_set, List.length_map] <;> omega)) only [Sall,evalOp,init,binA_s,binE,binI,unE,convE,okNil,builtE,gv,TD.isAgg,resV,↓reduceIte,Nat.reduceEqDiff,reduceCtorEq,Nat.reduceAdd,Nat.reduceMul,Nat.reduceLeDiff,quietOp,blindOp,Int.reduceEq,Int.reduceLT,Int.reduceLE,Nat.reduceLT,tiA,tiXA, e3]
    refine draw_id (by kernel_rfl) (by kernel_rfl) ?_
    try simp (disch := first | omega | (simp only [ints_length, List.length_replicate, List.length_set, List.length_map] <;> omega)) only [Sall,evalOp,init,binA_s,binE,binI,unE,convE,okNil,builtE,gv,TD.isAgg,resV,↓reduceIte,Nat.reduceEqDiff,reduceCtorEq,Nat.reduceAdd,Nat.reduceMul,Nat.reduceLeDiff,quietOp,blindOp,Int.reduceEq,Int.reduceLT,Int.reduceLE,Nat.reduceLT,tiA,tiXA, e1, hone, ev, v1, v2, v4]
    (repeat refine And.intro (by omega) ?_)
    try simp (disch := first | omega | (simp only [ints_length, List.length_replicate, List.length_set, List.length_map] <;> omega)) only [Sall,evalOp,init,binA_s,binE,binI,unE,convE,okNil,builtE,gv,TD.isAgg,resV,↓reduceIte,Nat.reduceEqDiff,reduceCtorEq,Nat.reduceAdd,Nat.reduceMul,Nat.reduceLeDiff,quietOp,blindOp,Int.reduceEq,Int.reduceLT,Int.reduceLE,Nat.reduceLT,tiA,tiXA, e1, hone, ev, v1, v2, v4]
    rw [← ev]
    refine ACalls.mono (tidy_c n gN c q1 q0 q2 q4 q5 v y _ H1 hone v3 ho) ?_
    intro w H3 o3
    have hw := o3.one 0 rfl
    refine ⟨.inr (.inr (o3.up.le o1.sc)), ?_⟩
    try simp (disch := first | omega | (simp only [ints_length, List.length_replicate, List.length_set, List.length_map] <;> omega)) only [Sall,evalOp,init,binA_s,binE,binI,unE,convE,okNil,builtE,gv,TD.isAgg,resV,↓reduceIte,Nat.reduceEqDiff,reduceCtorEq,Nat.reduceAdd,Nat.reduceMul,Nat.reduceLeDiff,quietOp,blindOp,Int.reduceEq,Int.reduceLT,Int.reduceLE,Nat.reduceLT,tiA,tiXA, hw]
    refine ⟨w, rfl, ?_⟩
    rw [htl]
    exact (o1.call o3).only 1 rfl
  · have e3 : (glC q g R (decide (0 ≤ i ∧ i ≤ (R.length : Int) - 1)) != 0) = true := bne_iff_ne.2 hz
    have eV : tidV q g R i = [] := by
      unfold tidV
      rw [if_neg]
      rintro ⟨h1, h2⟩
      apply hz
      unfold glC
      rw [if_pos h1, decide_eq_true h2]; rfl
    rw [eV]
    try simp (disch := first | omega | (simp only [ints_length, List.length_replicate, List.length_set, List.length_map] <;> omega)) only [Sall,evalOp,init,binA_s,binE,binI,unE,convE,okNil,builtE,gv,TD.isAgg,resV,↓reduceIte,Nat.reduceEqDiff,reduceCtorEq,Nat.reduceAdd,Nat.reduceMul,Nat.reduceLeDiff,quietOp,blindOp,Int.reduceEq,Int.reduceLT,Int.reduceLE,Nat.reduceLT,tiA,tiXA, e3]
    exact ⟨_, rfl, (Ow.left (L := []) o1 |>.addNil 1 2)⟩
end Go.Proofs.Ytollphjompimjaa.A
end

section
set_option maxRecDepth 100000
set_option maxHeartbeats 2000000
namespace Go.Proofs.Ytollphjompimjaa.A
open Go Go.Abs Go.RowKit
end Go.Proofs.Ytollphjompimjaa.A
end

section
set_option maxRecDepth 100000
set_option maxHeartbeats 2000000
namespace Go.Proofs.Ytollphjompimjaa.A
open Go Go.Abs Go.RowKit
theorem specTidyRound_c (q g : Int) (v : Value) (R : List (List Int)) (i : Int) (H : AH) (hv : Rg H v R) (hl : R.length ≤ 4194304) (hl2 : ∀ r ∈ R, r.length ≤ 4194304) :
    ACalls Try.prog 11 [.agg #[.int .i64 q, .int .i64 g, v], .int .i64 i] H (fun r H' => ∃ w, r = .tuple #[w, .int .i64 (glC q g R (decide (0 ≤ i ∧ i ≤ (R.length : Int) - 1)))] ∧ Ow H H' [.sl 1 2 w (tidV q g R i).length (ints (tidV q g R i))]) := by
  refine ACalls.wf (by kernel_rfl) fun hs => acalls_of_awp [.tmp 4, .tmp 5] Try.func11 (by kernel_rfl) rfl rfl (Nat.le_of_ble_eq_true rfl) (by kernel_rfl) ?_
  have hone := hv.one
  have o1 := golf_push hs q g v
  try simp (disch := first | omega | (simp only [ints_length, List.length_replicate, List.length_set, bools_length, metL_length] <;> omega)) only [Sall,evalOp,init,binA_s,binE,binI,unE,convE,okNil,builtE,gv,TD.isAgg,resV,↓reduceIte,Nat.reduceEqDiff,reduceCtorEq,Nat.reduceAdd,Nat.reduceMul,Nat.reduceLeDiff,quietOp,blindOp,Int.reduceEq,Int.reduceLT,Int.reduceLE,Nat.reduceLT,tiA,tiXA, hone]
  obtain ⟨pi, epi⟩ : ∃ pi, pi = H.next := ⟨_, rfl⟩
  rw [← epi] at o1 ⊢
  generalize H.push ⟨24, true, [.int .i64 q, .int .i64 g, v]⟩ = H1 at o1 ⊢
  have e1 := (o1.rowAt 0 rfl).1
  have hv1 := hv.same (o1.old hs)
  have rn : Rd 1 H1 (.slice none 0 0) ([] : List Int).length [] := ⟨rfl, .inl ⟨rfl, none, 0, rfl, fun _ => rfl⟩⟩
  try simp (disch := first | omega | (simp only [ints_length, List.length_replicate, List.length_set, bools_length, metL_length] <;> omega)) only [Sall,evalOp,init,binA_s,binE,binI,unE,convE,okNil,builtE,gv,TD.isAgg,resV,↓reduceIte,Nat.reduceEqDiff,reduceCtorEq,Nat.reduceAdd,Nat.reduceMul,Nat.reduceLeDiff,quietOp,blindOp,Int.reduceEq,Int.reduceLT,Int.reduceLE,Nat.reduceLT,tiA,tiXA, e1, hone]
  refine (l08Code_c q g v R i (.slice none 0 0) [] H1 hv1.rd2 hl hl2 rn (by simp)).to ?_
  have eP : ((List.range ([] : List Int).length).all fun k => decide (0 ≤ ([] : List Int).getD k 0 ∧ ([] : List Int).getD k 0 ≤ q - 1)) = true := rfl
  rw [eP, Bool.and_true]
  refine Holds.mp ?_
  by_cases hz : glC q g R (decide (0 ≤ i ∧ i ≤ (R.length : Int) - 1)) = 0
  · obtain ⟨hE, hD⟩ := glC_yes hz
    rw [decide_eq_true_iff] at hD
    have e3 : ((0 : Int) != 0) = false := rfl
    have eV : tidV q g R i = tidF g.toNat (R.getD i.toNat []) q.toNat := by unfold tidV; rw [if_pos ⟨hE, hD⟩]
    rw [hz, eV]
    obtain ⟨n, gN, c, rfl, rfl, q0, q1, q2, q3, q4, q5, q6, q7⟩ := golfB_at hE
    obtain ⟨iN, rfl⟩ : ∃ iN : Nat, i = iN := ⟨i.toNat, by omega⟩
    simp only [Int.toNat_natCast]
    obtain ⟨vi, vo, vu, vc, vr, y, ev, v1, v2, v3, v4⟩ := hv.get (j := iN) (by omega)
    have ho := q7 iN (by omega)
    have hol := ((ordB_iff n _).1 ho).1
    have hrn := ((ordB_iff n _).1 ho).2.1
    rw [hol] at v3
    generalize R.getD iN [] = l at *
    have np : ¬ pi = H1.next := by have := (o1.rowAt 0 rfl).2.2; omega
    have o2 := ((o1.pushSl (k := 1) (n := n) (ty := 4) (vs := bools (metL n [])) (by rw [bools_length, metL_length]; omega)).pushSl (k := 1) (n := 0) (ty := 2) (vs := ints []) rfl)
    have o2 : Ow H ((H1.push ⟨4, true, bools (metL n [])⟩).push ⟨2, true, []⟩) [.row pi ⟨24, true, [.int .i64 n, .int .i64 gN, v]⟩, .sl 1 4 (.slice (some ⟨H1.next, 0, some 1⟩) n n) n (bools (metL n [])), .sl 1 2 (.slice (some ⟨H1.next + 1, 0, some 1⟩) 0 0) 0 (ints [])] := o2
    try simp (disch := first | omega | (simp only [ints_length, List.length_replicate, List.length_set, bools_length, metL_length] <;> omega)) only [Sall,evalOp,init,binA_s,binE,binI,unE,convE,okNil,builtE,gv,TD.isAgg,resV,↓reduceIte,Nat.reduceEqDiff,reduceCtorEq,Nat.reduceAdd,Nat.reduceMul,Nat.reduceLeDiff,quietOp,blindOp,Int.reduceEq,Int.reduceLT,Int.reduceLE,Nat.reduceLT,tiA,tiXA, e3, e1, zeros_bools, ← metL_nil, np]
    (repeat refine And.intro (by omega) ?_)
    try simp (disch := first | omega | (simp only [ints_length, List.length_replicate, List.length_set, bools_length, metL_length] <;> omega)) only [Sall,evalOp,init,binA_s,binE,binI,unE,convE,okNil,builtE,gv,TD.isAgg,resV,↓reduceIte,Nat.reduceEqDiff,reduceCtorEq,Nat.reduceAdd,Nat.reduceMul,Nat.reduceLeDiff,quietOp,blindOp,Int.reduceEq,Int.reduceLT,Int.reduceLE,Nat.reduceLT,tiA,tiXA, e3, e1, zeros_bools, ← metL_nil, np]
    obtain ⟨mi, emi⟩ : ∃ mi, mi = H1.next := ⟨_, rfl⟩
    rw [← emi] at o2 ⊢
    refine awp_loop (fun m t H' => ∃ (a : Nat) (u : Value), m = n - a ∧ a ≤ n ∧ t 9 = .int .i64 a ∧ t 8 = u ∧ t 7 = .slice (some ⟨mi, 0, some 1⟩) n n ∧ t 1 = .int .i64 iN ∧ t 2 = .pointer (some ⟨pi, 0, none⟩) ∧ Ow H H' [.row pi ⟨24, true, [.int .i64 n, .int .i64 gN, v]⟩, .sl 1 4 (.slice (some ⟨mi, 0, some 1⟩) n n) n (bools (metL n (tidF gN l a))), .sl 1 2 u (tidF gN l a).length (ints (tidF gN l a))]) n ?_ ?_
    · refine ⟨0, .slice (some ⟨mi + 1, 0, some 1⟩) 0 0, by omega, by omega, ?_⟩
      try simp (disch := first | omega | (simp only [ints_length, List.length_replicate, List.length_set, bools_length, metL_length] <;> omega)) only [Sall,evalOp,init,binA_s,binE,binI,unE,convE,okNil,builtE,gv,TD.isAgg,resV,↓reduceIte,Nat.reduceEqDiff,reduceCtorEq,Nat.reduceAdd,Nat.reduceMul,Nat.reduceLeDiff,quietOp,blindOp,Int.reduceEq,Int.reduceLT,Int.reduceLE,Nat.reduceLT,tiA,tiXA, Int.natCast_zero]
      exact o2
    · rintro m t H2 ⟨a, u, hm, ha, h9, h8, h7, h1, h2, o3⟩
      have e1 := (o3.rowAt 0 rfl).1
      have hu := o3.one 2 rfl
      try simp (disch := first | omega | (simp only [ints_length, List.length_replicate, List.length_set, bools_length, metL_length] <;> omega)) only [Sall,evalOp,init,binA_s,binE,binI,unE,convE,okNil,builtE,gv,TD.isAgg,resV,↓reduceIte,Nat.reduceEqDiff,reduceCtorEq,Nat.reduceAdd,Nat.reduceMul,Nat.reduceLeDiff,quietOp,blindOp,Int.reduceEq,Int.reduceLT,Int.reduceLE,Nat.reduceLT,tiA,tiXA, h9, h2, e1]
      refine condC_dec (fun hh => ?_) (fun hh => ?_)
      · have hbi := (o3.getV 1 rfl).2.2
        have hml : (metL n (tidF gN l a)).length = n := metL_length _ _
        have hm0 := metL_getD n (tidF gN l a) (a : Int) (by omega)
        have hm1 : (bools (metL n (tidF gN l a)))[a]? = some (.bool ((tidF gN l a).contains (a : Int))) := by
          rw [bools_get? _ _ (by omega)]
          rw [Int.toNat_natCast] at hm0
          rw [hm0]
        cases hct : (tidF gN l a).contains (a : Int) with
        | true =>
          rw [hct] at hm1
          try simp (disch := first | omega | (simp only [ints_length, List.length_replicate, List.length_set, bools_length, metL_length] <;> omega)) only [Sall,evalOp,init,binA_s,binE,binI,unE,convE,okNil,builtE,gv,TD.isAgg,resV,↓reduceIte,Nat.reduceEqDiff,reduceCtorEq,Nat.reduceAdd,Nat.reduceMul,Nat.reduceLeDiff,quietOp,blindOp,Int.reduceEq,Int.reduceLT,Int.reduceLE,Nat.reduceLT,tiA,tiXA, h9, h8, h7, h1, h2, hbi, hm1, w64]
          (repeat refine And.intro (by omega) ?_)
          try simp (disch := first | omega | (simp only [ints_length, List.length_replicate, List.length_set, bools_length, metL_length] <;> omega)) only [Sall,evalOp,init,binA_s,binE,binI,unE,convE,okNil,builtE,gv,TD.isAgg,resV,↓reduceIte,Nat.reduceEqDiff,reduceCtorEq,Nat.reduceAdd,Nat.reduceMul,Nat.reduceLeDiff,quietOp,blindOp,Int.reduceEq,Int.reduceLT,Int.reduceLE,Nat.reduceLT,tiA,tiXA, h9, h8, h7, h1, h2, hbi, hm1, w64]
          have et : tidF gN l (a + 1) = tidF gN l a := by rw [tidF_succ, if_pos hct]
          exact ⟨n - (a + 1), by omega, a + 1, u, rfl, by omega, by omega, rfl, by rw [et]; exact o3⟩
        | false =>
          rw [hct] at hm1
          try simp (disch := first | omega | (simp only [ints_length, List.length_replicate, List.length_set, bools_length, metL_length] <;> omega)) only [Sall,evalOp,init,binA_s,binE,binI,unE,convE,okNil,builtE,gv,TD.isAgg,resV,↓reduceIte,Nat.reduceEqDiff,reduceCtorEq,Nat.reduceAdd,Nat.reduceMul,Nat.reduceLeDiff,quietOp,blindOp,Int.reduceEq,Int.reduceLT,Int.reduceLE,Nat.reduceLT,tiA,tiXA, h9, h8, h7, h1, h2, hbi, hm1, w64]
          (repeat refine And.intro (by omega) ?_)
          try simp (disch := first | omega | (simp only [ints_length, List.length_replicate, List.length_set, bools_length, metL_length] <;> omega)) only [Sall,evalOp,init,binA_s,binE,binI,unE,convE,okNil,builtE,gv,TD.isAgg,resV,↓reduceIte,Nat.reduceEqDiff,reduceCtorEq,Nat.reduceAdd,Nat.reduceMul,Nat.reduceLeDiff,quietOp,blindOp,Int.reduceEq,Int.reduceLT,Int.reduceLE,Nat.reduceLT,tiA,tiXA, h9, h8, h7, h1, h2, hbi, hm1, w64]
          have et : tidF gN l (a + 1) = tidF gN l a ++ grpL gN l (a : Int) := by rw [tidF_succ, if_neg (by rw [hct]; simp)]
          obtain ⟨tb, htb, eg1, eg2⟩ := grp_own (by omega) q0 ho (a := (a : Int)) (by omega)
          have hgl : (grpL gN l (a : Int)).length = gN := by rw [eg1]; exact blk_len q0 ho htb
          have hFl : (tidF gN l a).length ≤ 25 * 25 := Nat.le_trans (tidF_le (by omega) q0 ho a (by omega)) (Nat.mul_le_mul (by omega) (by omega))
          have hgm : ∀ k, k < gN → 0 ≤ (grpL gN l (a : Int)).getD k 0 ∧ (grpL gN l (a : Int)).getD k 0 < (n : Int) := fun k hk => by
            have hm := getD_memI (l := grpL gN l (a : Int)) (i := k) (by omega)
            generalize (grpL gN l (a : Int)).getD k 0 = x at hm
            rw [eg1] at hm
            obtain ⟨j, hj, _, e⟩ := (blk_mem (by omega) q0 ho).1 hm
            rw [← e]
            exact hrn _ (getD_memI (by omega))
          have v1' := o3.old hs _ _ v1
          refine draw_id (by kernel_rfl) (by kernel_rfl) ?_
          try simp (disch := first | omega | (simp only [ints_length, List.length_replicate, List.length_set, bools_length, metL_length] <;> omega)) only [Sall,evalOp,init,binA_s,binE,binI,unE,convE,okNil,builtE,gv,TD.isAgg,resV,↓reduceIte,Nat.reduceEqDiff,reduceCtorEq,Nat.reduceAdd,Nat.reduceMul,Nat.reduceLeDiff,quietOp,blindOp,Int.reduceEq,Int.reduceLT,Int.reduceLE,Nat.reduceLT,tiA,tiXA, h9, h1, h2, e1, hone, ev, v1', v2, v4]
          (repeat refine And.intro (by omega) ?_)
          try simp (disch := first | omega | (simp only [ints_length, List.length_replicate, List.length_set, bools_length, metL_length] <;> omega)) only [Sall,evalOp,init,binA_s,binE,binI,unE,convE,okNil,builtE,gv,TD.isAgg,resV,↓reduceIte,Nat.reduceEqDiff,reduceCtorEq,Nat.reduceAdd,Nat.reduceMul,Nat.reduceLeDiff,quietOp,blindOp,Int.reduceEq,Int.reduceLT,Int.reduceLE,Nat.reduceLT,tiA,tiXA, h9, h1, h2, e1, hone, ev, v1', v2, v4]
          rw [← ev]
          refine ACalls.mono (l08Group_c n gN c q1 q0 q4 q5 v y l (a : Int) H2 hone (v3.same (o3.old hs)) ho (by omega)) ?_
          intro w H3 o4
          have hw := o4.one 0 rfl
          refine ⟨.inr (.inr (o4.up.le o3.sc)), ?_⟩
          have o5 := o3.call o4
          have o5 : Ow H H3 [.row pi ⟨24, true, [.int .i64 n, .int .i64 gN, v]⟩, .sl 1 4 (.slice (some ⟨mi, 0, some 1⟩) n n) n (bools (metL n (tidF gN l a))), .sl 1 2 u (tidF gN l a).length (ints (tidF gN l a)), .sl 1 2 w (grpL gN l (a : Int)).length (ints (grpL gN l (a : Int)))] := o5
          generalize grpL gN l (a : Int) = G at *
          generalize tidF gN l a = F at *
          rw [hgl] at o5
          try simp (disch := first | omega | (simp only [ints_length, List.length_replicate, List.length_set, bools_length, metL_length] <;> omega)) only [Sall,evalOp,init,binA_s,binE,binI,unE,convE,okNil,builtE,gv,TD.isAgg,resV,↓reduceIte,Nat.reduceEqDiff,reduceCtorEq,Nat.reduceAdd,Nat.reduceMul,Nat.reduceLeDiff,quietOp,blindOp,Int.reduceEq,Int.reduceLT,Int.reduceLE,Nat.reduceLT,tiA,tiXA, h9, h8, h7, h1, h2, hw, w64]
          refine awp_loop (fun m' t H' => ∃ k : Nat, m' = gN - k ∧ k ≤ gN ∧ t 11 = .int .i64 k ∧ t 10 = w ∧ t 9 = .int .i64 a ∧ t 8 = u ∧ t 7 = .slice (some ⟨mi, 0, some 1⟩) n n ∧ t 1 = .int .i64 iN ∧ t 2 = .pointer (some ⟨pi, 0, none⟩) ∧ Ow H H' [.row pi ⟨24, true, [.int .i64 n, .int .i64 gN, v]⟩, .sl 1 4 (.slice (some ⟨mi, 0, some 1⟩) n n) n (bools (metL n (F ++ G.take k))), .sl 1 2 u F.length (ints F), .sl 1 2 w gN (ints G)]) gN ?_ ?_
          · refine ⟨0, by omega, by omega, ?_⟩
            try simp (disch := first | omega | (simp only [ints_length, List.length_replicate, List.length_set, bools_length, metL_length] <;> omega)) only [Sall,evalOp,init,binA_s,binE,binI,unE,convE,okNil,builtE,gv,TD.isAgg,resV,↓reduceIte,Nat.reduceEqDiff,reduceCtorEq,Nat.reduceAdd,Nat.reduceMul,Nat.reduceLeDiff,quietOp,blindOp,Int.reduceEq,Int.reduceLT,Int.reduceLE,Nat.reduceLT,tiA,tiXA, Int.natCast_zero, h9, h8, h7, h1, h2, List.take_zero, List.append_nil]
            exact o5
          · rintro m' t H4 ⟨k, hm', hk, h11, h10, h9, h8, h7, h1, h2, o6⟩
            have hwl := (o6.rd 3 rfl).len
            have hu := o6.one 2 rfl
            have hw := o6.one 3 rfl
            try simp (disch := first | omega | (simp only [ints_length, List.length_replicate, List.length_set, bools_length, metL_length] <;> omega)) only [Sall,evalOp,init,binA_s,binE,binI,unE,convE,okNil,builtE,gv,TD.isAgg,resV,↓reduceIte,Nat.reduceEqDiff,reduceCtorEq,Nat.reduceAdd,Nat.reduceMul,Nat.reduceLeDiff,quietOp,blindOp,Int.reduceEq,Int.reduceLT,Int.reduceLE,Nat.reduceLT,tiA,tiXA, h11, h10, builtE, hwl]
            refine condC_dec (fun hh2 => ?_) (fun hh2 => ?_)
            · obtain ⟨wi, _, _, ew, rw6⟩ := o6.get 3 rfl (by omega)
              have hbi := (o6.getV 1 rfl).2.2
              have k1 := ints_get? G k (by omega)
              have hgk := hgm k (by omega)
              have g3 := metL_put n (F ++ G.take k) (G.getD k 0) hgk
              have hml : (metL n (F ++ G.take k)).length = n := metL_length _ _
              have htk : G.take (k + 1) = G.take k ++ [G.getD k 0] := take_snoc G 0 k (by omega)
              have hput := o6.put 1 rfl (vs' := bools (metL n (F ++ G.take k ++ [G.getD k 0]))) (by rw [bools_length, bools_length, metL_length, metL_length])
              try simp (disch := first | omega | (simp only [ints_length, List.length_replicate, List.length_set, bools_length, metL_length] <;> omega)) only [Sall,evalOp,init,binA_s,binE,binI,unE,convE,okNil,builtE,gv,TD.isAgg,resV,↓reduceIte,Nat.reduceEqDiff,reduceCtorEq,Nat.reduceAdd,Nat.reduceMul,Nat.reduceLeDiff,quietOp,blindOp,Int.reduceEq,Int.reduceLT,Int.reduceLE,Nat.reduceLT,tiA,tiXA, h11, h10, h9, h8, h7, h1, h2, ew, rw6, k1, hbi, g3, w64]
              (repeat refine And.intro (by omega) ?_)
              try simp (disch := first | omega | (simp only [ints_length, List.length_replicate, List.length_set, bools_length, metL_length] <;> omega)) only [Sall,evalOp,init,binA_s,binE,binI,unE,convE,okNil,builtE,gv,TD.isAgg,resV,↓reduceIte,Nat.reduceEqDiff,reduceCtorEq,Nat.reduceAdd,Nat.reduceMul,Nat.reduceLeDiff,quietOp,blindOp,Int.reduceEq,Int.reduceLT,Int.reduceLE,Nat.reduceLT,tiA,tiXA, h11, h10, h9, h8, h7, h1, h2, ew, rw6, k1, hbi, g3, w64]
              rw [ew] at hput
              refine ⟨by rw [bools_length, metL_length]; omega, gN - (k + 1), by omega, k + 1, by omega, by omega, rfl, ?_⟩
              rw [htk, ← List.append_assoc]
              exact hput
            · have hke : k = gN := by omega
              rw [hke, List.take_of_length_le (by omega)] at o6
              try simp (disch := first | omega | (simp only [ints_length, List.length_replicate, List.length_set, bools_length, metL_length] <;> omega)) only [Sall,evalOp,init,binA_s,binE,binI,unE,convE,okNil,builtE,gv,TD.isAgg,resV,↓reduceIte,Nat.reduceEqDiff,reduceCtorEq,Nat.reduceAdd,Nat.reduceMul,Nat.reduceLeDiff,quietOp,blindOp,Int.reduceEq,Int.reduceLT,Int.reduceLE,Nat.reduceLT,tiA,tiXA, h8, h10, hu, hw]
              refine o6.slC 3 rfl (by omega) ?_
              refine o6.app 2 (c := gN) (ms := ints G) rfl rfl (by omega) (by rw [ints_length, hgl, Nat.mul_one]) (by omega) (by decide) (by omega) ?_
              · intro v' H5 n5 o7
                try simp (disch := first | omega | (simp only [ints_length, List.length_replicate, List.length_set, bools_length, metL_length] <;> omega)) only [Sall,evalOp,init,binA_s,binE,binI,unE,convE,okNil,builtE,gv,TD.isAgg,resV,↓reduceIte,Nat.reduceEqDiff,reduceCtorEq,Nat.reduceAdd,Nat.reduceMul,Nat.reduceLeDiff,quietOp,blindOp,Int.reduceEq,Int.reduceLT,Int.reduceLE,Nat.reduceLT,tiA,tiXA, h9, h7, h1, h2, w64]
                refine ⟨n - (a + 1), by omega, a + 1, v', by omega, by omega, rfl, rfl, ?_⟩
                rw [et, List.length_append, hgl, ← ints_append]
                exact Ow.left (L := [.row pi ⟨24, true, [.int .i64 n, .int .i64 gN, v]⟩, .sl 1 4 (.slice (some ⟨mi, 0, some 1⟩) n n) n (bools (metL n (F ++ G))), .sl 1 2 v' (F.length + gN) (ints F ++ ints G)]) o7
      · have hae : a = n := by omega
        rw [hae] at o3
        try simp (disch := first | omega | (simp only [ints_length, List.length_replicate, List.length_set, bools_length, metL_length] <;> omega)) only [Sall,evalOp,init,binA_s,binE,binI,unE,convE,okNil,builtE,gv,TD.isAgg,resV,↓reduceIte,Nat.reduceEqDiff,reduceCtorEq,Nat.reduceAdd,Nat.reduceMul,Nat.reduceLeDiff,quietOp,blindOp,Int.reduceEq,Int.reduceLT,Int.reduceLE,Nat.reduceLT,tiA,tiXA, h8, hu]
        exact ⟨u, rfl, o3.only 2 rfl⟩
  · have e3 : (glC q g R (decide (0 ≤ i ∧ i ≤ (R.length : Int) - 1)) != 0) = true := bne_iff_ne.2 hz
    have eV : tidV q g R i = [] := by
      unfold tidV
      rw [if_neg]
      rintro ⟨h1, h2⟩
      apply hz
      unfold glC
      rw [if_pos h1, decide_eq_true h2]; rfl
    rw [eV]
    try simp (disch := first | omega | (simp only [ints_length, List.length_replicate, List.length_set, bools_length, metL_length] <;> omega)) only [Sall,evalOp,init,binA_s,binE,binI,unE,convE,okNil,builtE,gv,TD.isAgg,resV,↓reduceIte,Nat.reduceEqDiff,reduceCtorEq,Nat.reduceAdd,Nat.reduceMul,Nat.reduceLeDiff,quietOp,blindOp,Int.reduceEq,Int.reduceLT,Int.reduceLE,Nat.reduceLT,tiA,tiXA, e3]
    exact ⟨_, rfl, (Ow.left (L := []) o1 |>.addNil 1 2)⟩
end Go.Proofs.Ytollphjompimjaa.A
end

section
set_option maxRecDepth 100000
namespace Go.Proofs.Ytollphjompimjaa.A
open Go Go.Abs Go.RowKit
/-! ### Marks -/
/-! ### Marks that are held -/
end Go.Proofs.Ytollphjompimjaa.A
end

section
set_option maxRecDepth 100000
namespace Go.Proofs.Ytollphjompimjaa.A
open Go Go.Abs Go.RowKit
theorem szGolf_c (q p : Int) (v : Value) (ll : List (List Int)) (left : Int) (H : AH) (hv : Rd2 1 H v ll) (hl : 0 ≤ left ∧ left ≤ 1048576) (hn : ll.length ≤ 9223372036854775807) (hn2 : ∀ l ∈ ll, l.length ≤ 9223372036854775807) :
    ACalls Try.prog 10 [.agg #[.int .i64 q, .int .i64 p, v], .int .i64 left] H (fun r H' => ∃ x : Int, r = .int .i64 x ∧ (Up H.next H H' ∧ (0 ≤ x → (ll.length : Int) + tot ll + x = left))) := by
  refine ACalls.wf (by kernel_rfl) fun hs => acalls_of_awp [.tmp 4] Try.func10 (by kernel_rfl) rfl rfl (Nat.le_of_ble_eq_true rfl) (by kernel_rfl) ?_
  have hone := hv.one
  have up : Up H.next H (H.push ⟨30, true, [.int .i64 q, .int .i64 p, v]⟩) := (Up.refl _ H).push (Nat.le_refl _) _
  try simp (disch := first | omega | (simp only [ints_length, List.length_replicate] <;> omega)) only [Sall,evalOp,init,binA_s,binE,binI,unE,convE,okNil,builtE,gv,TD.isAgg,resV,↓reduceIte,Nat.reduceEqDiff,reduceCtorEq,Nat.reduceAdd,Nat.reduceMul,Nat.reduceLeDiff,quietOp,blindOp,Int.reduceEq,Int.reduceLT,Int.reduceLE,Nat.reduceLT,tiA,tiXA, hone]
  refine (szInt64SS_c v ll left _ (hv.same (up.le hs).row) hl hn hn2).exH ?_
  rintro x hx
  refine Holds.mp ?_
  by_cases h : x < 0
  · try simp (disch := first | omega | (simp only [ints_length, List.length_replicate] <;> omega)) only [Sall,evalOp,init,binA_s,binE,binI,unE,convE,okNil,builtE,gv,TD.isAgg,resV,↓reduceIte,Nat.reduceEqDiff,reduceCtorEq,Nat.reduceAdd,Nat.reduceMul,Nat.reduceLeDiff,quietOp,blindOp,Int.reduceEq,Int.reduceLT,Int.reduceLE,Nat.reduceLT,tiA,tiXA, h, decide_true]
    exact ⟨up, fun h => h.elim⟩
  · try simp (disch := first | omega | (simp only [ints_length, List.length_replicate] <;> omega)) only [Sall,evalOp,init,binA_s,binE,binI,unE,convE,okNil,builtE,gv,TD.isAgg,resV,↓reduceIte,Nat.reduceEqDiff,reduceCtorEq,Nat.reduceAdd,Nat.reduceMul,Nat.reduceLeDiff,quietOp,blindOp,Int.reduceEq,Int.reduceLT,Int.reduceLE,Nat.reduceLT,tiA,tiXA, h, decide_false]
    exact ⟨up, hx⟩
def FrG (q p : Int) (ll : List (List Int)) (H : AH) (r : Value) (H' : AH) : Prop := ∃ u, r = .agg #[.int .i64 q, .int .i64 p, u] ∧ Up H.next H H' ∧ Fr2 1 32 2 H.next H'.next H' u ll
theorem Fr2.rg {ty ty' lo hi : Nat} {H : AH} {v : Value} {ll : List (List Int)} (h : Fr2 1 ty ty' lo hi H v ll) : Rg H v ll := by
  rcases h with h | ⟨i, vs, b, h1, h2, hv, hr, hl, h3, h4, h5, h6, hj⟩
  · exact .inl ⟨h.1, none, 0, h.2, fun _ => rfl⟩
  · refine .inr ⟨i, 0, some 1, _, _, hv, hr, fun j hjl => ?_⟩
    obtain ⟨x, m, hx, hf⟩ := hj j hjl
    exact ⟨x, m, by simpa using hx, hf.rs⟩
theorem toGolf_c (q p : Int) (v : Value) (ll : List (List Int)) (H : AH) (hv : Rd2 1 H v ll) (hn : ll.length ≤ 4194304) (hn2 : ∀ l ∈ ll, l.length ≤ 4194304) :
    ACalls Try.prog 12 [.agg #[.int .i64 q, .int .i64 p, v]] H (FrG q p ll H) := by
  refine ACalls.wf (by kernel_rfl) fun hs => acalls_of_awp [.cell 2 24] Try.func12 (by kernel_rfl) rfl rfl (Nat.le_of_ble_eq_true rfl) (by kernel_rfl) ?_
  have k0 := hv.one
  try simp (disch := first | omega | (simp only [ints_length, List.length_replicate] <;> omega)) only [Sall,evalOp,init,binA_s,binE,binI,unE,convE,okNil,builtE,gv,TD.isAgg,resV,↓reduceIte,Nat.reduceEqDiff,reduceCtorEq,Nat.reduceAdd,Nat.reduceMul,Nat.reduceLeDiff,quietOp,blindOp,Int.reduceEq,Int.reduceLT,Int.reduceLE,Nat.reduceLT,tiA,tiXA, k0]
  obtain ⟨H1, e1⟩ : ∃ H1, H1 = ((((H.push ⟨30, true, [.int .i64 q, .int .i64 p, v]⟩).push ⟨24, true, [.int .i64 0, .int .i64 0, .slice none 0 0]⟩).push ⟨24, true, [.int .i64 0, .int .i64 0, .slice none 0 0]⟩).setCells (H.next + 2) [.int .i64 q, .int .i64 0, .slice none 0 0]).setCells (H.next + 2) [.int .i64 q, .int .i64 p, .slice none 0 0] := ⟨_, rfl⟩
  have up : Up H.next H H1 := by rw [e1]; exact (((((Up.refl _ H).push (by omega) _).push (Nat.le_succ _) _).push (Nat.le_succ_of_le (Nat.le_succ _)) _).set (by omega) _).set (by omega) _
  have n1 : H1.next = H.next + 3 := by rw [e1]; rfl
  have a0 : H1.row (H.next + 1) = some ⟨24, true, [.int .i64 0, .int .i64 0, .slice none 0 0]⟩ := by rw [e1]; simp [AH.setCells_row, AH.push_row, AH.push_next]
  have a1 : H1.row (H.next + 2) = some ⟨24, true, [.int .i64 q, .int .i64 p, .slice none 0 0]⟩ := by rw [e1]; simp [AH.setCells_row, AH.push_row, AH.push_next]
  rw [← e1]
  clear e1
  refine (toInt64SS_c v ll H1 (hv.same (up.le hs).row) hn hn2).mono ?_
  rintro u H2 ⟨up2, hfr⟩
  have b0 : H2.row (H.next + 1) = some ⟨24, true, [.int .i64 0, .int .i64 0, .slice none 0 0]⟩ := by rw [up2.row _ (by omega), a0]
  have b1 : H2.row (H.next + 2) = some ⟨24, true, [.int .i64 q, .int .i64 p, .slice none 0 0]⟩ := by rw [up2.row _ (by omega), a1]
  have k1 := hfr.rd.one
  have n2 := up2.next
  have ne1 : ¬ (H.next + 1 = H.next + 2) := by omega
  refine Holds.mp ?_
  try simp (disch := first | omega | (simp only [ints_length, List.length_replicate] <;> omega)) only [Sall,evalOp,init,binA_s,binE,binI,unE,convE,okNil,builtE,gv,TD.isAgg,resV,↓reduceIte,Nat.reduceEqDiff,reduceCtorEq,Nat.reduceAdd,Nat.reduceMul,Nat.reduceLeDiff,quietOp,blindOp,Int.reduceEq,Int.reduceLT,Int.reduceLE,Nat.reduceLT,tiA,tiXA, b0, b1, k1, ne1]
  refine ⟨u, rfl, ⟨by simp only [AH.setCells_next]; omega, fun i hi => ?_⟩, ?_⟩
  · rw [AH.setCells_row, if_neg (by omega), AH.setCells_row, if_neg (by omega), up2.row i (by omega), up.row i hi]
  · refine (Fr2.same (Fr2.wide hfr (lo' := H1.next) (hi' := H2.next) (by omega) (by omega)) ?_).wide (by omega) (by simp only [AH.setCells_next]; omega)
    intro i hi _
    rw [AH.setCells_row, if_neg (by omega), AH.setCells_row, if_neg (by omega)]
theorem eqGolf_c (va vb : Value) (q p : Int) (ll : List (List Int)) (hn : ll.length ≤ 4294967296) (hn2 : ∀ l ∈ ll, l.length ≤ 4294967296) (H : AH) (ha : Rd2 1 H va ll) (hb : Rd2 1 H vb ll) (h1 : va.oneCell' = true) (h2 : vb.oneCell' = true) :
    ACalls Try.prog 7 [.agg #[.int .i64 q, .int .i64 p, va], .agg #[.int .i64 q, .int .i64 p, vb]] H (is (.bool true) H) := by
  refine ACalls.wf (by kernel_rfl) fun hs => acalls_up rfl (acalls_of_awp [.tmp 4] Try.func7 (by kernel_rfl) rfl rfl (Nat.le_of_ble_eq_true rfl) (by kernel_rfl) ?_)
  try simp (disch := first | omega | (simp only [ints_length, List.length_replicate] <;> omega)) only [Sall,evalOp,init,binA_s,binE,binI,unE,convE,okNil,builtE,gv,TD.isAgg,resV,↓reduceIte,Nat.reduceEqDiff,reduceCtorEq,Nat.reduceAdd,Nat.reduceMul,Nat.reduceLeDiff,quietOp,blindOp,Int.reduceEq,Int.reduceLT,Int.reduceLE,Nat.reduceLT,tiA,tiXA, bne_self_eq_false]
  have up : Up H.next H ((H.push ⟨24, true, [.int .i64 q, .int .i64 p, va]⟩).push ⟨24, true, [.int .i64 q, .int .i64 p, vb]⟩) := ((Up.refl _ H).push (Nat.le_refl _) _).push (Nat.le_succ _) _
  refine (eqInt64SS_c va vb ll hn hn2 _ (ha.same (up.le hs).row) (hb.same (up.le hs).row)).to ?_
  try simp (disch := first | omega | (simp only [ints_length, List.length_replicate] <;> omega)) only [Sall,evalOp,init,binA_s,binE,binI,unE,convE,okNil,builtE,gv,TD.isAgg,resV,↓reduceIte,Nat.reduceEqDiff,reduceCtorEq,Nat.reduceAdd,Nat.reduceMul,Nat.reduceLeDiff,quietOp,blindOp,Int.reduceEq,Int.reduceLT,Int.reduceLE,Nat.reduceLT,tiA,tiXA, Bool.not_true]
  exact up
theorem markGolf_c (ty ty' lo hi : Nat) (v : Value) (q p : Int) (ll : List (List Int)) (k0 : Int) (hk0 : 0 ≤ k0 ∧ k0 ≤ 268435456) (hn : ll.length ≤ 4194304) (ht0 : tot ll ≤ 4194304) (H : AH) (hv : Fr2 1 ty ty' lo hi H v ll) (hh : hi ≤ H.next) :
    ACalls Try.prog 8 [.agg #[.int .i64 q, .int .i64 p, v], .int .i64 k0] H (fun r H' => r = .int .i64 (k0 + tot ll) ∧ H.next ≤ H'.next ∧ (∀ i, ¬(lo ≤ i ∧ i < hi) → i < H.next → H'.row i = H.row i) ∧ Fr2 1 ty ty' lo hi H' v (seqLL k0 ll)) := by
  refine acalls_of_awp [.tmp 4] Try.func8 (by kernel_rfl) rfl rfl (Nat.le_of_ble_eq_true rfl) (by kernel_rfl) ?_
  try simp (disch := first | omega | (simp only [ints_length, List.length_replicate] <;> omega)) only [Sall,evalOp,init,binA_s,binE,binI,unE,convE,okNil,builtE,gv,TD.isAgg,resV,↓reduceIte,Nat.reduceEqDiff,reduceCtorEq,Nat.reduceAdd,Nat.reduceMul,Nat.reduceLeDiff,quietOp,blindOp,Int.reduceEq,Int.reduceLT,Int.reduceLE,Nat.reduceLT,tiA,tiXA, true_and]
  have hv' : Fr2 1 ty ty' lo hi (H.push ⟨24, true, [.int .i64 q, .int .i64 p, v]⟩) v ll := hv.same fun i _ h2 => by rw [AH.push_row, if_neg (by omega)]
  refine (markInt64SS_c ty ty' lo hi v ll k0 hk0 hn ht0 _ hv').fin ?_
  rintro H' ⟨h1, h2, h3⟩
  try simp (disch := first | omega | (simp only [ints_length, List.length_replicate] <;> omega)) only [Sall,evalOp,init,binA_s,binE,binI,unE,convE,okNil,builtE,gv,TD.isAgg,resV,↓reduceIte,Nat.reduceEqDiff,reduceCtorEq,Nat.reduceAdd,Nat.reduceMul,Nat.reduceLeDiff,quietOp,blindOp,Int.reduceEq,Int.reduceLT,Int.reduceLE,Nat.reduceLT,tiA,tiXA, true_and]
  rw [AH.push_next] at h1
  refine ⟨by omega, fun i hi' hi2 => ?_, h3⟩
  rw [h2 i hi', AH.push_row, if_neg (by omega)]
end Go.Proofs.Ytollphjompimjaa.A
end

section
set_option maxRecDepth 100000
namespace Go.Proofs.Ytollphjompimjaa.A
open Go Go.Abs Go.RowKit
theorem specTidyRoundG_c (q p : Int) (v : Value) (R : List (List Int)) (i : Int) (H : AH) (hv : Rg H v R) (hl : R.length ≤ 4194304) (hl2 : ∀ r ∈ R, r.length ≤ 4194304) (hi : -9223372036854775808 ≤ i ∧ i ≤ 9223372036854775807) :
    ACalls Try.prog 11 [.agg #[.int .i64 q, .int .i64 p, v], .int .i64 i] H (fun r H' => ∃ w, r = .tuple #[w, .int .i64 (glC q p R (decide (0 ≤ i ∧ i ≤ (R.length : Int) - 1)))] ∧ Up H.next H H' ∧ Fr 1 2 H.next H'.next H' w (tidV q p R i).length (tidV q p R i)) :=
  (specTidyRound_c q p v R i H hv hl hl2).mono fun r H' ⟨w, e, o⟩ => ⟨w, e, o.up, o.fr 0 rfl⟩
theorem TidyRoundG_c (q p : Int) (v : Value) (R : List (List Int)) (i : Int) (H : AH) (hv : Rg H v R) (hl : R.length ≤ 4194304) (hl2 : ∀ r ∈ R, r.length ≤ 4194304) (hi : -9223372036854775808 ≤ i ∧ i ≤ 9223372036854775807) :
    ACalls Try.prog 13 [.agg #[.int .i64 q, .int .i64 p, v], .int .i64 i] H (fun r H' => ∃ w, r = .tuple #[w, .int .i64 (glC q p R (decide (0 ≤ i ∧ i ≤ (R.length : Int) - 1)))] ∧ Up H.next H H' ∧ Fr 1 2 H.next H'.next H' w (tidV q p R i).length (tidV q p R i)) :=
  (TidyRound_c q p v R i H hv hl hl2).mono fun r H' ⟨w, e, o⟩ => ⟨w, e, o.up, o.fr 0 rfl⟩
theorem law_TidyRound_c (q0 p0 : Int) (v0 : Value) (ll0 : List (List Int)) (a1 : Int) (H : AH) (h0 : Rd2 1 H v0 ll0) (b0 : ll0.length ≤ 9223372036854775807) (c0 : ∀ y ∈ ll0, y.length ≤ 9223372036854775807) (b1 : -9223372036854775808 ≤ a1 ∧ a1 ≤ 9223372036854775807) :
    ACalls Try.prog 4 [.agg #[.int .i64 q0, .int .i64 p0, v0], .int .i64 a1] H (fun v _ => v = .bool true ∧ True) := by
  refine ACalls.wf (by kernel_rfl) fun hs => acalls_of_awp [.tmp 4] Try.func4 (by kernel_rfl) rfl rfl (Nat.le_of_ble_eq_true rfl) (by kernel_rfl) ?_
  have o0 := h0.one
  try simp (disch := first | omega | (simp only [ints_length, List.length_replicate] <;> omega)) only [Sall,evalOp,init,binA_s,binE,binI,unE,convE,okNil,builtE,gv,TD.isAgg,resV,↓reduceIte,Nat.reduceEqDiff,reduceCtorEq,Nat.reduceAdd,Nat.reduceMul,Nat.reduceLeDiff,quietOp,blindOp,Int.reduceEq,Int.reduceLT,Int.reduceLE,Nat.reduceLT,tiA,tiXA, o0]
  obtain ⟨H1, eH1⟩ : ∃ H1, H1 = (H.push ⟨30, true, [.int .i64 q0, .int .i64 p0, v0]⟩) := ⟨_, rfl⟩
  have nx1 : H1.next = H.next + 1 := by rw [eH1]; rfl
  have U1 : Up H.next H H1 := by rw [eH1]; exact ((Up.refl _ H).push (by first | omega | (simp only [AH.push_next]; omega)) _)
  have e0 : H1.row H.next = some ⟨30, true, [.int .i64 q0, .int .i64 p0, v0]⟩ := by rw [eH1]; simp [AH.push_row, AH.push_next]
  rw [← eH1]
  clear eH1
  refine (szGolf_c q0 p0 v0 ll0 _ H1 (h0.same (U1.le hs).row) (by omega) b0 c0).ex ?_
  rintro x0 H2 ⟨up2, z0⟩
  have nx2 := up2.next
  have U2 : Up H.next H H2 := U1.trans up2 (by omega)
  replace e0 : H2.row H.next = some ⟨30, true, [.int .i64 q0, .int .i64 p0, v0]⟩ := by rw [up2.row _ (by omega), e0]
  refine Holds.mp ?_
  by_cases y0 : x0 < 0
  · try simp (disch := first | omega | (simp only [ints_length, List.length_replicate] <;> omega)) only [Sall,evalOp,init,binA_s,binE,binI,unE,convE,okNil,builtE,gv,TD.isAgg,resV,↓reduceIte,Nat.reduceEqDiff,reduceCtorEq,Nat.reduceAdd,Nat.reduceMul,Nat.reduceLeDiff,quietOp,blindOp,Int.reduceEq,Int.reduceLT,Int.reduceLE,Nat.reduceLT,tiA,tiXA, y0, decide_true]
  have y0' := z0 (by omega)
  try simp (disch := first | omega | (simp only [ints_length, List.length_replicate] <;> omega)) only [Sall,evalOp,init,binA_s,binE,binI,unE,convE,okNil,builtE,gv,TD.isAgg,resV,↓reduceIte,Nat.reduceEqDiff,reduceCtorEq,Nat.reduceAdd,Nat.reduceMul,Nat.reduceLeDiff,quietOp,blindOp,Int.reduceEq,Int.reduceLT,Int.reduceLE,Nat.reduceLT,tiA,tiXA, y0, decide_false, e0]
  have d0 : ∀ y ∈ ll0, y.length ≤ 1048576 := fun y hy => by have := tot_mem hy; omega
  have hL0 : (tidV q0 p0 ll0 a1).length ≤ 4294967296 := by have := tidV_len q0 p0 ll0 a1; omega
  refine (toGolf_c q0 p0 v0 ll0 H2 (h0.same (U2.le hs).row) (by omega) (fun y hy => by have := d0 y hy; omega)).ex ?_
  rintro u0 H3 ⟨up3, Fu0⟩
  have nx3 := up3.next
  have U3 : Up H.next H H3 := U2.trans up3 (by omega)
  replace e0 : H3.row H.next = some ⟨30, true, [.int .i64 q0, .int .i64 p0, v0]⟩ := by rw [up3.row _ (by omega), e0]
  have Ou0 := Fu0.rd.one
  try simp (disch := first | omega | (simp only [ints_length, List.length_replicate] <;> omega)) only [Sall,evalOp,init,binA_s,binE,binI,unE,convE,okNil,builtE,gv,TD.isAgg,resV,↓reduceIte,Nat.reduceEqDiff,reduceCtorEq,Nat.reduceAdd,Nat.reduceMul,Nat.reduceLeDiff,quietOp,blindOp,Int.reduceEq,Int.reduceLT,Int.reduceLE,Nat.reduceLT,tiA,tiXA, e0, Ou0]
  refine (specTidyRoundG_c q0 p0 u0 ll0 a1 H3 (Fr2.rg Fu0) (by omega) (fun y hy => by have := d0 y hy; omega) b1).ex ?_
  rintro w0 H4 ⟨up4, Fw0⟩
  have nx4 := up4.next
  have U4 : Up H.next H H4 := U3.trans up4 (by omega)
  replace e0 : H4.row H.next = some ⟨30, true, [.int .i64 q0, .int .i64 p0, v0]⟩ := by rw [up4.row _ (by omega), e0]
  replace Fu0 : Fr2 1 32 2 H2.next H3.next H4 u0 ll0 := Fu0.same fun i _ hi => up4.row i (by omega)
  have Ow0 := Fw0.rd.one
  try simp (disch := first | omega | (simp only [ints_length, List.length_replicate] <;> omega)) only [Sall,evalOp,init,binA_s,binE,binI,unE,convE,okNil,builtE,gv,TD.isAgg,resV,↓reduceIte,Nat.reduceEqDiff,reduceCtorEq,Nat.reduceAdd,Nat.reduceMul,Nat.reduceLeDiff,quietOp,blindOp,Int.reduceEq,Int.reduceLT,Int.reduceLE,Nat.reduceLT,tiA,tiXA, e0, Ou0, Ow0]
  refine (toGolf_c q0 p0 v0 ll0 H4 (h0.same (U4.le hs).row) (by omega) (fun y hy => by have := d0 y hy; omega)).ex ?_
  rintro g0 H5 ⟨up5, Fg0⟩
  have nx5 := up5.next
  have U5 : Up H.next H H5 := U4.trans up5 (by omega)
  replace e0 : H5.row H.next = some ⟨30, true, [.int .i64 q0, .int .i64 p0, v0]⟩ := by rw [up5.row _ (by omega), e0]
  replace Fw0 : Fr 1 2 H3.next H4.next H5 w0 _ _ := Fw0.same fun i _ hi => up5.row i (by omega)
  have Og0 := Fg0.rd.one
  try simp (disch := first | omega | (simp only [ints_length, List.length_replicate] <;> omega)) only [Sall,evalOp,init,binA_s,binE,binI,unE,convE,okNil,builtE,gv,TD.isAgg,resV,↓reduceIte,Nat.reduceEqDiff,reduceCtorEq,Nat.reduceAdd,Nat.reduceMul,Nat.reduceLeDiff,quietOp,blindOp,Int.reduceEq,Int.reduceLT,Int.reduceLE,Nat.reduceLT,tiA,tiXA, e0, Ou0, Ow0, Og0]
  obtain ⟨H6, eh⟩ : ∃ K, K = (H5.push ⟨24, true, [.int .i64 0, .int .i64 0, .slice none 0 0]⟩).setCells H5.next [.int .i64 q0, .int .i64 p0, g0] := ⟨_, rfl⟩
  have up6 : Up H5.next H5 H6 := by rw [eh]; exact ((Up.refl _ _).push (Nat.le_refl _) _).set (Nat.le_refl _) _
  have E0 : H6.row H5.next = some ⟨24, true, [.int .i64 q0, .int .i64 p0, g0]⟩ := by rw [eh, AH.setCells_row, if_pos rfl, AH.push_row, if_pos rfl]; rfl
  have nn6 : H6.next = H5.next + 1 := by rw [eh]; rfl
  rw [← eh]
  clear eh
  have nx6 := up6.next
  have U6 : Up H.next H H6 := U5.trans up6 (by omega)
  replace e0 : H6.row H.next = some ⟨30, true, [.int .i64 q0, .int .i64 p0, v0]⟩ := by rw [up6.row _ (by omega), e0]
  replace Fw0 : Fr 1 2 H3.next H4.next H6 w0 _ _ := Fw0.same fun i _ hi => up6.row i (by omega)
  replace Fg0 : Fr2 1 32 2 H4.next H5.next H6 g0 ll0 := Fg0.same fun i _ hi => up6.row i (by omega)
  try simp (disch := first | omega | (simp only [ints_length, List.length_replicate] <;> omega)) only [Sall,evalOp,init,binA_s,binE,binI,unE,convE,okNil,builtE,gv,TD.isAgg,resV,↓reduceIte,Nat.reduceEqDiff,reduceCtorEq,Nat.reduceAdd,Nat.reduceMul,Nat.reduceLeDiff,quietOp,blindOp,Int.reduceEq,Int.reduceLT,Int.reduceLE,Nat.reduceLT,tiA,tiXA, e0, E0, Ou0, Ow0, Og0]
  refine (TidyRoundG_c q0 p0 g0 ll0 a1 H6 (Fr2.rg Fg0) (by omega) (fun y hy => by have := d0 y hy; omega) b1).ex ?_
  rintro r0 H7 ⟨up7, Fr0⟩
  have nx7 := up7.next
  have U7 : Up H.next H H7 := U6.trans up7 (by omega)
  replace e0 : H7.row H.next = some ⟨30, true, [.int .i64 q0, .int .i64 p0, v0]⟩ := by rw [up7.row _ (by omega), e0]
  replace E0 : H7.row H5.next = some ⟨24, true, [.int .i64 q0, .int .i64 p0, g0]⟩ := by rw [up7.row _ (by omega), E0]
  replace Fw0 : Fr 1 2 H3.next H4.next H7 w0 _ _ := Fw0.same fun i _ hi => up7.row i (by omega)
  replace Fg0 : Fr2 1 32 2 H4.next H5.next H7 g0 ll0 := Fg0.same fun i _ hi => up7.row i (by omega)
  have Or0 := Fr0.rd.one
  try simp (disch := first | omega | (simp only [ints_length, List.length_replicate] <;> omega)) only [Sall,evalOp,init,binA_s,binE,binI,unE,convE,okNil,builtE,gv,TD.isAgg,resV,↓reduceIte,Nat.reduceEqDiff,reduceCtorEq,Nat.reduceAdd,Nat.reduceMul,Nat.reduceLeDiff,quietOp,blindOp,Int.reduceEq,Int.reduceLT,Int.reduceLE,Nat.reduceLT,tiA,tiXA, e0, E0, Ou0, Ow0, Og0, Or0]
  refine (eqInt64S_c r0 w0 _ _ _ hL0 H7 Fr0.rd Fw0.rd).to ?_
  try simp (disch := first | omega | (simp only [ints_length, List.length_replicate] <;> omega)) only [Sall,evalOp,init,binA_s,binE,binI,unE,convE,okNil,builtE,gv,TD.isAgg,resV,↓reduceIte,Nat.reduceEqDiff,reduceCtorEq,Nat.reduceAdd,Nat.reduceMul,Nat.reduceLeDiff,quietOp,blindOp,Int.reduceEq,Int.reduceLT,Int.reduceLE,Nat.reduceLT,tiA,tiXA, Bool.not_true, bne_self_eq_false, e0, E0, Ou0, Ow0, Og0, Or0]
  refine draw_id (by kernel_rfl) (by kernel_rfl) ?_
  try simp (disch := first | omega | (simp only [ints_length, List.length_replicate] <;> omega)) only [Sall,evalOp,init,binA_s,binE,binI,unE,convE,okNil,builtE,gv,TD.isAgg,resV,↓reduceIte,Nat.reduceEqDiff,reduceCtorEq,Nat.reduceAdd,Nat.reduceMul,Nat.reduceLeDiff,quietOp,blindOp,Int.reduceEq,Int.reduceLT,Int.reduceLE,Nat.reduceLT,tiA,tiXA, e0, E0, Ou0, Ow0, Og0, Or0]
  refine ACalls.wf (by kernel_rfl) fun hs8 => (toGolf_c q0 p0 v0 ll0 H7 (h0.same (U7.le hs).row) (by omega) (fun y hy => by have := d0 y hy; omega)).ex ?_
  rintro t0 H8 ⟨up8, Ft0⟩
  refine ⟨.inr (.inr (up8.le hs8)), ?_⟩
  have nx8 := up8.next
  have U8 : Up H.next H H8 := U7.trans up8 (by omega)
  replace e0 : H8.row H.next = some ⟨30, true, [.int .i64 q0, .int .i64 p0, v0]⟩ := by rw [up8.row _ (by omega), e0]
  replace E0 : H8.row H5.next = some ⟨24, true, [.int .i64 q0, .int .i64 p0, g0]⟩ := by rw [up8.row _ (by omega), E0]
  replace Fw0 : Fr 1 2 H3.next H4.next H8 w0 _ _ := Fw0.same fun i _ hi => up8.row i (by omega)
  replace Fg0 : Fr2 1 32 2 H4.next H5.next H8 g0 ll0 := Fg0.same fun i _ hi => up8.row i (by omega)
  replace Fr0 : Fr 1 2 H6.next H7.next H8 r0 _ _ := Fr0.same fun i _ hi => up8.row i (by omega)
  try simp (disch := first | omega | (simp only [ints_length, List.length_replicate] <;> omega)) only [Sall,evalOp,init,binA_s,binE,binI,unE,convE,okNil,builtE,gv,TD.isAgg,resV,↓reduceIte,Nat.reduceEqDiff,reduceCtorEq,Nat.reduceAdd,Nat.reduceMul,Nat.reduceLeDiff,quietOp,blindOp,Int.reduceEq,Int.reduceLT,Int.reduceLE,Nat.reduceLT,tiA,tiXA, e0, E0, Ou0, Ow0, Og0, Or0]
  refine (eqGolf_c g0 t0 q0 p0 ll0 (by omega) (fun y hy => by have := d0 y hy; omega) H8 Fg0.rd Ft0.rd Fg0.rd.one Ft0.rd.one).to ?_
  refine ⟨.inr (.inr (LE.refl _)), ?_⟩
  try simp (disch := first | omega | (simp only [ints_length, List.length_replicate] <;> omega)) only [Sall,evalOp,init,binA_s,binE,binI,unE,convE,okNil,builtE,gv,TD.isAgg,resV,↓reduceIte,Nat.reduceEqDiff,reduceCtorEq,Nat.reduceAdd,Nat.reduceMul,Nat.reduceLeDiff,quietOp,blindOp,Int.reduceEq,Int.reduceLT,Int.reduceLE,Nat.reduceLT,tiA,tiXA, Bool.not_true, e0, E0, Ou0, Ow0, Og0, Or0]
  try simp (disch := first | omega | (simp only [ints_length, List.length_replicate] <;> omega)) only [Sall,evalOp,init,binA_s,binE,binI,unE,convE,okNil,builtE,gv,TD.isAgg,resV,↓reduceIte,Nat.reduceEqDiff,reduceCtorEq,Nat.reduceAdd,Nat.reduceMul,Nat.reduceLeDiff,quietOp,blindOp,Int.reduceEq,Int.reduceLT,Int.reduceLE,Nat.reduceLT,tiA,tiXA, e0, E0, Ou0, Ow0, Og0, Or0]
  refine (markGolf_c _ _ H4.next H5.next g0 q0 p0 ll0 _ (by omega) (by omega) (by omega) H8 Fg0 (by omega)).fin ?_
  rintro H9 ⟨nx9, sm9, KFg0⟩
  have U9 : Up H.next H H9 := ⟨by have := U8.next; omega, fun i hi => by rw [sm9 i (by omega) (by omega), U8.row i hi]⟩
  replace e0 : H9.row H.next = some ⟨30, true, [.int .i64 q0, .int .i64 p0, v0]⟩ := by rw [sm9 _ (by omega) (by omega), e0]
  replace E0 : H9.row H5.next = some ⟨24, true, [.int .i64 q0, .int .i64 p0, g0]⟩ := by rw [sm9 _ (by omega) (by omega), E0]
  replace Fw0 : Fr 1 2 H3.next H4.next H9 w0 _ _ := Fw0.same fun i _ hi => sm9 i (by omega) (by omega)
  replace Fr0 : Fr 1 2 H6.next H7.next H9 r0 _ _ := Fr0.same fun i _ hi => sm9 i (by omega) (by omega)
  try simp (disch := first | omega | (simp only [ints_length, List.length_replicate] <;> omega)) only [Sall,evalOp,init,binA_s,binE,binI,unE,convE,okNil,builtE,gv,TD.isAgg,resV,↓reduceIte,Nat.reduceEqDiff,reduceCtorEq,Nat.reduceAdd,Nat.reduceMul,Nat.reduceLeDiff,quietOp,blindOp,Int.reduceEq,Int.reduceLT,Int.reduceLE,Nat.reduceLT,tiA,tiXA, e0, E0, Ou0, Ow0, Og0, Or0]
  rw [decide_eq_false (by omega)]
  try simp (disch := first | omega | (simp only [ints_length, List.length_replicate] <;> omega)) only [Sall,evalOp,init,binA_s,binE,binI,unE,convE,okNil,builtE,gv,TD.isAgg,resV,↓reduceIte,Nat.reduceEqDiff,reduceCtorEq,Nat.reduceAdd,Nat.reduceMul,Nat.reduceLeDiff,quietOp,blindOp,Int.reduceEq,Int.reduceLT,Int.reduceLE,Nat.reduceLT,tiA,tiXA, e0, E0, Ou0, Ow0, Og0, Or0]
  refine (eqInt64S_c r0 w0 _ _ _ hL0 H9 Fr0.rd Fw0.rd).to ?_
  try simp (disch := first | omega | (simp only [ints_length, List.length_replicate] <;> omega)) only [Sall,evalOp,init,binA_s,binE,binI,unE,convE,okNil,builtE,gv,TD.isAgg,resV,↓reduceIte,Nat.reduceEqDiff,reduceCtorEq,Nat.reduceAdd,Nat.reduceMul,Nat.reduceLeDiff,quietOp,blindOp,Int.reduceEq,Int.reduceLT,Int.reduceLE,Nat.reduceLT,tiA,tiXA, Bool.not_true, bne_self_eq_false, e0, E0, Ou0, Ow0, Og0, Or0]
  refine (markInt64S_c _ H6.next H7.next r0 _ _ _ (by omega) (by omega) H9 Fr0).fin ?_
  rintro H10 ⟨nx10, sm10, KFr0⟩
  have U10 : Up H.next H H10 := ⟨by have := U9.next; omega, fun i hi => by rw [sm10 i (by omega), U9.row i hi]⟩
  replace e0 : H10.row H.next = some ⟨30, true, [.int .i64 q0, .int .i64 p0, v0]⟩ := by rw [sm10 _ (by omega), e0]
  replace E0 : H10.row H5.next = some ⟨24, true, [.int .i64 q0, .int .i64 p0, g0]⟩ := by rw [sm10 _ (by omega), E0]
  replace Fw0 : Fr 1 2 H3.next H4.next H10 w0 _ _ := Fw0.same fun i _ hi => sm10 i (by omega)
  try simp (disch := first | omega | (simp only [ints_length, List.length_replicate] <;> omega)) only [Sall,evalOp,init,binA_s,binE,binI,unE,convE,okNil,builtE,gv,TD.isAgg,resV,↓reduceIte,Nat.reduceEqDiff,reduceCtorEq,Nat.reduceAdd,Nat.reduceMul,Nat.reduceLeDiff,quietOp,blindOp,Int.reduceEq,Int.reduceLT,Int.reduceLE,Nat.reduceLT,tiA,tiXA, e0, E0, Ou0, Ow0, Og0, Or0]
  refine (heldInt64S_c r0 _ _ (by omega) (by omega) H10 KFr0.rd).to ?_
  try simp (disch := first | omega | (simp only [ints_length, List.length_replicate] <;> omega)) only [Sall,evalOp,init,binA_s,binE,binI,unE,convE,okNil,builtE,gv,TD.isAgg,resV,↓reduceIte,Nat.reduceEqDiff,reduceCtorEq,Nat.reduceAdd,Nat.reduceMul,Nat.reduceLeDiff,quietOp,blindOp,Int.reduceEq,Int.reduceLT,Int.reduceLE,Nat.reduceLT,tiA,tiXA, bne_self_eq_false, beq_self_eq_true, Bool.not_true, e0, E0, Ou0, Ow0, Og0, Or0]
  rw [decide_eq_false (by omega)]
  try simp (disch := first | omega | (simp only [ints_length, List.length_replicate] <;> omega)) only [Sall,evalOp,init,binA_s,binE,binI,unE,convE,okNil,builtE,gv,TD.isAgg,resV,↓reduceIte,Nat.reduceEqDiff,reduceCtorEq,Nat.reduceAdd,Nat.reduceMul,Nat.reduceLeDiff,quietOp,blindOp,Int.reduceEq,Int.reduceLT,Int.reduceLE,Nat.reduceLT,tiA,tiXA, bne_self_eq_false, beq_self_eq_true, Bool.not_true, e0, E0, Ou0, Ow0, Og0, Or0]
  refine (toGolf_c q0 p0 v0 ll0 H10 (h0.same (U10.le hs).row) (by omega) (fun y hy => by have := d0 y hy; omega)).ex ?_
  rintro x0 H11 ⟨up11, Fx0⟩
  have nx11 := up11.next
  have U11 : Up H.next H H11 := U10.trans up11 (by omega)
  replace e0 : H11.row H.next = some ⟨30, true, [.int .i64 q0, .int .i64 p0, v0]⟩ := by rw [up11.row _ (by omega), e0]
  replace E0 : H11.row H5.next = some ⟨24, true, [.int .i64 q0, .int .i64 p0, g0]⟩ := by rw [up11.row _ (by omega), E0]
  replace Fw0 : Fr 1 2 H3.next H4.next H11 w0 _ _ := Fw0.same fun i _ hi => up11.row i (by omega)
  replace KFr0 : Fr 1 2 H6.next H7.next H11 r0 _ _ := KFr0.same fun i _ hi => up11.row i (by omega)
  have Ox0 := Fx0.rd.one
  try simp (disch := first | omega | (simp only [ints_length, List.length_replicate] <;> omega)) only [Sall,evalOp,init,binA_s,binE,binI,unE,convE,okNil,builtE,gv,TD.isAgg,resV,↓reduceIte,Nat.reduceEqDiff,reduceCtorEq,Nat.reduceAdd,Nat.reduceMul,Nat.reduceLeDiff,quietOp,blindOp,Int.reduceEq,Int.reduceLT,Int.reduceLE,Nat.reduceLT,tiA,tiXA, e0, E0, Ou0, Ow0, Og0, Or0, Ox0]
  refine (TidyRoundG_c q0 p0 x0 ll0 a1 H11 (Fr2.rg Fx0) (by omega) (fun y hy => by have := d0 y hy; omega) b1).ex ?_
  rintro s0 H12 ⟨up12, Fs0⟩
  have nx12 := up12.next
  have U12 : Up H.next H H12 := U11.trans up12 (by omega)
  replace e0 : H12.row H.next = some ⟨30, true, [.int .i64 q0, .int .i64 p0, v0]⟩ := by rw [up12.row _ (by omega), e0]
  replace E0 : H12.row H5.next = some ⟨24, true, [.int .i64 q0, .int .i64 p0, g0]⟩ := by rw [up12.row _ (by omega), E0]
  replace Fw0 : Fr 1 2 H3.next H4.next H12 w0 _ _ := Fw0.same fun i _ hi => up12.row i (by omega)
  replace KFr0 : Fr 1 2 H6.next H7.next H12 r0 _ _ := KFr0.same fun i _ hi => up12.row i (by omega)
  replace Fx0 : Fr2 1 32 2 H10.next H11.next H12 x0 ll0 := Fx0.same fun i _ hi => up12.row i (by omega)
  have Os0 := Fs0.rd.one
  try simp (disch := first | omega | (simp only [ints_length, List.length_replicate] <;> omega)) only [Sall,evalOp,init,binA_s,binE,binI,unE,convE,okNil,builtE,gv,TD.isAgg,resV,↓reduceIte,Nat.reduceEqDiff,reduceCtorEq,Nat.reduceAdd,Nat.reduceMul,Nat.reduceLeDiff,quietOp,blindOp,Int.reduceEq,Int.reduceLT,Int.reduceLE,Nat.reduceLT,tiA,tiXA, e0, E0, Ou0, Ow0, Og0, Or0, Ox0, Os0]
  refine (eqInt64S_c s0 w0 _ _ _ hL0 H12 Fs0.rd Fw0.rd).to ?_
  try simp (disch := first | omega | (simp only [ints_length, List.length_replicate] <;> omega)) only [Sall,evalOp,init,binA_s,binE,binI,unE,convE,okNil,builtE,gv,TD.isAgg,resV,↓reduceIte,Nat.reduceEqDiff,reduceCtorEq,Nat.reduceAdd,Nat.reduceMul,Nat.reduceLeDiff,quietOp,blindOp,Int.reduceEq,Int.reduceLT,Int.reduceLE,Nat.reduceLT,tiA,tiXA, Bool.not_true, bne_self_eq_false, e0, E0, Ou0, Ow0, Og0, Or0, Ox0, Os0]
  refine (heldInt64S_c r0 _ _ (by omega) (by omega) H12 KFr0.rd).to ?_
  try simp (disch := first | omega | (simp only [ints_length, List.length_replicate] <;> omega)) only [Sall,evalOp,init,binA_s,binE,binI,unE,convE,okNil,builtE,gv,TD.isAgg,resV,↓reduceIte,Nat.reduceEqDiff,reduceCtorEq,Nat.reduceAdd,Nat.reduceMul,Nat.reduceLeDiff,quietOp,blindOp,Int.reduceEq,Int.reduceLT,Int.reduceLE,Nat.reduceLT,tiA,tiXA, bne_self_eq_false, beq_self_eq_true, Bool.not_true, e0, E0, Ou0, Ow0, Og0, Or0, Ox0, Os0]
  rw [decide_eq_false (by omega)]
  try simp (disch := first | omega | (simp only [ints_length, List.length_replicate] <;> omega)) only [Sall,evalOp,init,binA_s,binE,binI,unE,convE,okNil,builtE,gv,TD.isAgg,resV,↓reduceIte,Nat.reduceEqDiff,reduceCtorEq,Nat.reduceAdd,Nat.reduceMul,Nat.reduceLeDiff,quietOp,blindOp,Int.reduceEq,Int.reduceLT,Int.reduceLE,Nat.reduceLT,tiA,tiXA, bne_self_eq_false, beq_self_eq_true, Bool.not_true, e0, E0, Ou0, Ow0, Og0, Or0, Ox0, Os0]
end Go.Proofs.Ytollphjompimjaa.A
end

section
set_option maxRecDepth 100000
namespace Go.Proofs.Ytollphjompimjaa.A
open Go Go.Abs Go.RowKit
section
variable {K : Type} {enc : TypeId × Value → K} {W : World} {base b0 : Nat} {spare : Nat → Bool} {held : Bool}
theorem uInt : Try.prog.underlying 2 = some (.int .i64) := by kernel_rfl
theorem cInt : Try.prog.cellsOf 2 = 1 := by kernel_rfl
end
end Go.Proofs.Ytollphjompimjaa.A
end

section
set_option maxRecDepth 100000
namespace Go.Proofs.Ytollphjompimjaa.A
open Go Go.Abs Go.RowKit
theorem uList : Try.prog.underlying 32 = some (.slice 2) := by kernel_rfl
theorem uLists : Try.prog.underlying 22 = some (.slice 32) := by kernel_rfl
theorem cList : Try.prog.cellsOf 32 = 1 := by kernel_rfl
section
variable {K : Type} {enc : TypeId × Value → K} {W : World} {b0 : Nat} {spare : Nat → Bool} {held : Bool} {v : Value} {d : DataW K} {p : List MemPlace}
theorem open_I (h : DataW.Trod enc Try.prog W 0 spare held 2 v d p) (hok : Value.okWide Try.prog W .any b0 2 v) : ∃ a, v = .int .i64 a ∧ -9223372036854775808 ≤ a ∧ a ≤ 9223372036854775807 := by
  obtain ⟨fuel, h⟩ := h
  obtain ⟨a, ha, hx⟩ := DataW.trod_int uInt h
  unfold Value.okWide at hok
  rw [uInt] at hok
  have h2 : Cell.okWide Try.prog W .any b0 2 v := hok
  unfold Cell.okWide at h2
  rw [uInt] at h2
  have h3 : Cell.ok Try.prog W .any b0 2 v := h2
  unfold Cell.ok at h3
  rw [uInt] at h3
  cases v with
  | int k n =>
    obtain ⟨rfl, h4, h5⟩ := h3
    exact ⟨n, rfl, h4, h5⟩
  | _ => exact False.elim h3
end
end Go.Proofs.Ytollphjompimjaa.A
end

section
set_option maxRecDepth 100000
namespace Go.Proofs.Ytollphjompimjaa.A
open Go Go.Abs Go.RowKit
theorem tGolf : Try.prog.cellTypes Try.prog.depth 30 = some [2, 2, 22] := by kernel_rfl
theorem fGolf : fieldsOf Try.prog 30 = some [(2, 0), (2, 1), (22, 2)] := by kernel_rfl
theorem cGolf : Try.prog.cellsOf 30 = 3 := by kernel_rfl
theorem cListsG : Try.prog.cellsOf 22 = 1 := by kernel_rfl
theorem open_G {K : Type} {enc : TypeId × Value → K} {W : World} {b0 : Nat} {spare : Nat → Bool} {held : Bool} {v : Value} {d : DataW K} {p : List MemPlace} (h : DataW.Trod enc Try.prog W 0 spare held 30 v d p) (hok : Value.okWide Try.prog W .any b0 30 v) :
    ∃ q p u ll, v = .agg #[.int .i64 q, .int .i64 p, u] ∧ Rd2 1 (given W) u ll ∧ V1 id W.heap.size W u u ∧ ll.length ≤ 9223372036854775807 ∧ ∀ y ∈ ll, y.length ≤ 9223372036854775807 := by
  obtain ⟨cs, rfl, hs, hc⟩ := ok_struct fGolf tGolf hok
  rw [cGolf] at hs
  obtain ⟨l⟩ := cs
  match l, hs with
  | [c0, c1, c2], _ =>
    obtain ⟨fuel, h⟩ := h
    have h9 : DataW.trod enc Try.prog W 0 spare held fuel 30 [c0, c1, c2] = some (d, p) := h
    obtain ⟨m, hf⟩ := trod_fields fGolf h9
    obtain ⟨y0, h0⟩ := hf (2, 0) (by simp)
    obtain ⟨y2, h2⟩ := hf (2, 1) (by simp)
    obtain ⟨y1, h1⟩ := hf (22, 2) (by simp)
    simp only [cInt, cListsG] at h0 h1 h2
    obtain ⟨q, hq, _⟩ := DataW.trod_int uInt h0
    obtain ⟨p', hp, _⟩ := DataW.trod_int uInt h2
    obtain ⟨e, he, k1⟩ := hc 2 c2 rfl
    cases he
    obtain ⟨ll, g1, g2, g3, g4⟩ := trod_lists uLists uList uInt cList cInt h1 (ok_slice_cell uLists k1)
    have hc0 : c0 = .int .i64 q := by simpa using hq
    subst hc0
    have hc1 : c1 = .int .i64 p' := by simpa using hp
    subst hc1
    exact ⟨q, p', c2, ll, rfl, g1, g2, g3, fun y hy => by have := g4 y hy; unfold Go.maxLen at this; omega⟩
end Go.Proofs.Ytollphjompimjaa.A
end
