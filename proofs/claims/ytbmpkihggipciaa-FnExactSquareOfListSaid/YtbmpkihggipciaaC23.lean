/- Contracts: SquareOfList on both sides. -/
import Derived.Test.YtbmpkihggipciaaC14
import Derived.Test.YtbmpkihggipciaaC22
import Derived.Test.YtbmpkihggipciaaAbs17
set_option linter.unusedSimpArgs false
set_option linter.unusedVariables false
set_option maxRecDepth 100000
set_option maxHeartbeats 2000000
--LEN ints_length, List.length_replicate, List.length_set, sqR_length, sqM_length, sqP_length, sqA_length
namespace Go.Proofs.Ytbmpkihggipciaa.A
open Go Go.Abs Go.RowKit

theorem tot_le {b : Nat} : ∀ {ll : List (List Int)}, (∀ r ∈ ll, r.length ≤ b) → tot ll ≤ ll.length * b
  | [], _ => by simp [tot]
  | r :: ll, h => by
    have h1 := h r (List.mem_cons_self)
    have h2 := tot_le (ll := ll) fun q hq => h q (List.mem_cons_of_mem _ hq)
    have e : tot (r :: ll) = r.length + tot ll := by simp [tot]
    rw [e, List.length_cons, Nat.succ_mul]
    omega
theorem sqL_bound (y : List Int) : (sqL y).length ≤ 14 ∧ tot (sqL y) ≤ 196 ∧ ∀ r ∈ sqL y, r.length ≤ 14 := by
  obtain ⟨h1, _, h2⟩ := sqL_size y
  refine ⟨h1, ?_, h2⟩
  have := tot_le h2
  omega

theorem SquareOfList0_c (v : Value) (y : List Int) (H : AH) (hv : Rd 1 H v y.length y) (hy : y.length ≤ 4294967296) :
    ACalls Try.prog 42 [v] H (fun r H' => ∃ u, r = .tuple #[u, .int .i64 (sqC y)] ∧ Up H.next H H' ∧ Fr2 1 28 2 H.next H'.next H' u (sqL y)) := by
  refine ACalls.wf (by kernel_rfl) fun hs => acalls_of_awp [.tmp 2, .tmp 3] Try.func42 (by kernel_rfl) rfl rfl (Nat.le_of_ble_eq_true rfl) (by kernel_rfl) ?_
  try simp (disch := first | omega | (simp only [ints_length, List.length_replicate, List.length_set, sqR_length, sqM_length, sqP_length, sqA_length]; done) | (simp only [ints_length, List.length_replicate, List.length_set, sqR_length, sqM_length, sqP_length, sqA_length]; omega)) only [Sall,evalOp,init,binE,binI,unE,convE,okNil,builtE,gv,TD.isAgg,resV,↓reduceIte,Nat.reduceEqDiff,reduceCtorEq,Nat.reduceAdd,Nat.reduceMul,Nat.reduceLeDiff,quietOp,blindOp,Int.reduceEq,Int.reduceLT,Int.reduceLE,Nat.reduceLT,ti2,ti3,ti4,ti79,ti80,ti28,ti25,ti31,ti22,ti33,ti24,ti67,ti111,ti100, true_and]
  refine (isList_c v y H hv hy).to ?_
  unfold sqC sqL
  cases hb : listB y with
  | false =>
    try simp (disch := first | omega | (simp only [ints_length, List.length_replicate, List.length_set, sqR_length, sqM_length, sqP_length, sqA_length]; done) | (simp only [ints_length, List.length_replicate, List.length_set, sqR_length, sqM_length, sqP_length, sqA_length]; omega)) only [Sall,evalOp,init,binE,binI,unE,convE,okNil,builtE,gv,TD.isAgg,resV,↓reduceIte,Nat.reduceEqDiff,reduceCtorEq,Nat.reduceAdd,Nat.reduceMul,Nat.reduceLeDiff,quietOp,blindOp,Int.reduceEq,Int.reduceLT,Int.reduceLE,Nat.reduceLT,ti2,ti3,ti4,ti79,ti80,ti28,ti25,ti31,ti22,ti33,ti24,ti67,ti111,ti100, Bool.not_false]
    exact ⟨_, rfl, Up.refl _ _, .inl ⟨rfl, rfl⟩⟩
  | true =>
    obtain ⟨hlen, hin, hnd⟩ := listB_at hb
    try simp (disch := first | omega | (simp only [ints_length, List.length_replicate, List.length_set, sqR_length, sqM_length, sqP_length, sqA_length]; done) | (simp only [ints_length, List.length_replicate, List.length_set, sqR_length, sqM_length, sqP_length, sqA_length]; omega)) only [Sall,evalOp,init,binE,binI,unE,convE,okNil,builtE,gv,TD.isAgg,resV,↓reduceIte,Nat.reduceEqDiff,reduceCtorEq,Nat.reduceAdd,Nat.reduceMul,Nat.reduceLeDiff,quietOp,blindOp,Int.reduceEq,Int.reduceLT,Int.reduceLE,Nat.reduceLT,ti2,ti3,ti4,ti79,ti80,ti28,ti25,ti31,ti22,ti33,ti24,ti67,ti111,ti100, Bool.not_true]
    refine (size_c v y H hv hy).to ?_
    obtain ⟨n, hn⟩ : ∃ n, n = y.length := ⟨_, rfl⟩
    rw [← hn] at hv hy hlen hin ⊢
    try simp (disch := first | omega | (simp only [ints_length, List.length_replicate, List.length_set, sqR_length, sqM_length, sqP_length, sqA_length]; done) | (simp only [ints_length, List.length_replicate, List.length_set, sqR_length, sqM_length, sqP_length, sqA_length]; omega)) only [Sall,evalOp,init,binE,binI,unE,convE,okNil,builtE,gv,TD.isAgg,resV,↓reduceIte,Nat.reduceEqDiff,reduceCtorEq,Nat.reduceAdd,Nat.reduceMul,Nat.reduceLeDiff,quietOp,blindOp,Int.reduceEq,Int.reduceLT,Int.reduceLE,Nat.reduceLT,ti2,ti3,ti4,ti79,ti80,ti28,ti25,ti31,ti22,ti33,ti24,ti67,ti111,ti100, true_and]
    refine (square_c n (by omega) H).mono ?_
    rintro u H1 ⟨up1, hf1⟩
    have n1 := up1.next
    refine Holds.mp ?_
    try simp (disch := first | omega | (simp only [ints_length, List.length_replicate, List.length_set, sqR_length, sqM_length, sqP_length, sqA_length]; done) | (simp only [ints_length, List.length_replicate, List.length_set, sqR_length, sqM_length, sqP_length, sqA_length]; omega)) only [Sall,evalOp,init,binE,binI,unE,convE,okNil,builtE,gv,TD.isAgg,resV,↓reduceIte,Nat.reduceEqDiff,reduceCtorEq,Nat.reduceAdd,Nat.reduceMul,Nat.reduceLeDiff,quietOp,blindOp,Int.reduceEq,Int.reduceLT,Int.reduceLE,Nat.reduceLT,ti2,ti3,ti4,ti79,ti80,ti28,ti25,ti31,ti22,ti33,ti24,ti67,ti111,ti100, true_and]
    refine awp_loop (fun m t H' => ∃ a : Nat, m = n - a ∧ a ≤ n ∧ t 17 = .int .i64 a ∧ t 16 = .int .i64 n ∧ t 0 = v ∧ t 4 = .int .i64 n ∧ t 5 = u ∧ Up H.next H H' ∧ H'.next = H1.next ∧ Fr2 1 28 2 H.next H1.next H' u (sqM n y a 0)) n ?_ ?_
    · refine ⟨0, by omega, by omega, ?_⟩
      try simp (disch := first | omega | (simp only [ints_length, List.length_replicate, List.length_set, sqR_length, sqM_length, sqP_length, sqA_length]; done) | (simp only [ints_length, List.length_replicate, List.length_set, sqR_length, sqM_length, sqP_length, sqA_length]; omega)) only [Sall,evalOp,init,binE,binI,unE,convE,okNil,builtE,gv,TD.isAgg,resV,↓reduceIte,Nat.reduceEqDiff,reduceCtorEq,Nat.reduceAdd,Nat.reduceMul,Nat.reduceLeDiff,quietOp,blindOp,Int.reduceEq,Int.reduceLT,Int.reduceLE,Nat.reduceLT,ti2,ti3,ti4,ti79,ti80,ti28,ti25,ti31,ti22,ti33,ti24,ti67,ti111,ti100, Int.natCast_zero]
      refine ⟨up1, ?_⟩
      rw [sqM_zero]; exact hf1
    · rintro m t H' ⟨a, hm, han, h17, h16, h0, h4, h5, hup, hnx, hf⟩
      try simp (disch := first | omega | (simp only [ints_length, List.length_replicate, List.length_set, sqR_length, sqM_length, sqP_length, sqA_length]; done) | (simp only [ints_length, List.length_replicate, List.length_set, sqR_length, sqM_length, sqP_length, sqA_length]; omega)) only [Sall,evalOp,init,binE,binI,unE,convE,okNil,builtE,gv,TD.isAgg,resV,↓reduceIte,Nat.reduceEqDiff,reduceCtorEq,Nat.reduceAdd,Nat.reduceMul,Nat.reduceLeDiff,quietOp,blindOp,Int.reduceEq,Int.reduceLT,Int.reduceLE,Nat.reduceLT,ti2,ti3,ti4,ti79,ti80,ti28,ti25,ti31,ti22,ti33,ti24,ti67,ti111,ti100, h17, h16]
      refine condC_dec (fun h => ?_) (fun h => ?_)
      · have hv' : Rd 1 H' v n y := hv.same fun i r hr => by rw [hup.row i (hs _ _ hr)]; exact hr
        try simp (disch := first | omega | (simp only [ints_length, List.length_replicate, List.length_set, sqR_length, sqM_length, sqP_length, sqA_length]; done) | (simp only [ints_length, List.length_replicate, List.length_set, sqR_length, sqM_length, sqP_length, sqA_length]; omega)) only [Sall,evalOp,init,binE,binI,unE,convE,okNil,builtE,gv,TD.isAgg,resV,↓reduceIte,Nat.reduceEqDiff,reduceCtorEq,Nat.reduceAdd,Nat.reduceMul,Nat.reduceLeDiff,quietOp,blindOp,Int.reduceEq,Int.reduceLT,Int.reduceLE,Nat.reduceLT,ti2,ti3,ti4,ti79,ti80,ti28,ti25,ti31,ti22,ti33,ti24,ti67,ti111,ti100, h17, h16, h0, h4, h5, builtE, hv'.len]
        refine awp_loop (fun z t H3 => ∃ c : Nat, z = n - c ∧ c ≤ n ∧ t 22 = .int .i64 c ∧ t 21 = .int .i64 n ∧ t 20 = v ∧ t 6 = .int .i64 a ∧ t 17 = .int .i64 a ∧ t 16 = .int .i64 n ∧ t 0 = v ∧ t 4 = .int .i64 n ∧ t 5 = u ∧ Up H.next H H3 ∧ H3.next = H1.next ∧ Fr2 1 28 2 H.next H1.next H3 u (sqM n y a c)) n ?_ ?_
        · refine ⟨0, by omega, by omega, ?_⟩
          try simp (disch := first | omega | (simp only [ints_length, List.length_replicate, List.length_set, sqR_length, sqM_length, sqP_length, sqA_length]; done) | (simp only [ints_length, List.length_replicate, List.length_set, sqR_length, sqM_length, sqP_length, sqA_length]; omega)) only [Sall,evalOp,init,binE,binI,unE,convE,okNil,builtE,gv,TD.isAgg,resV,↓reduceIte,Nat.reduceEqDiff,reduceCtorEq,Nat.reduceAdd,Nat.reduceMul,Nat.reduceLeDiff,quietOp,blindOp,Int.reduceEq,Int.reduceLT,Int.reduceLE,Nat.reduceLT,ti2,ti3,ti4,ti79,ti80,ti28,ti25,ti31,ti22,ti33,ti24,ti67,ti111,ti100, Int.natCast_zero, h17, h16, h0, h4, h5]
          exact ⟨hup, hnx, hf⟩
        · rintro z t H3 ⟨c, hz, hcn, h22, h21, h20, h6, h17, h16, h0, h4, h5, hup3, hnx3, hf3⟩
          try simp (disch := first | omega | (simp only [ints_length, List.length_replicate, List.length_set, sqR_length, sqM_length, sqP_length, sqA_length]; done) | (simp only [ints_length, List.length_replicate, List.length_set, sqR_length, sqM_length, sqP_length, sqA_length]; omega)) only [Sall,evalOp,init,binE,binI,unE,convE,okNil,builtE,gv,TD.isAgg,resV,↓reduceIte,Nat.reduceEqDiff,reduceCtorEq,Nat.reduceAdd,Nat.reduceMul,Nat.reduceLeDiff,quietOp,blindOp,Int.reduceEq,Int.reduceLT,Int.reduceLE,Nat.reduceLT,ti2,ti3,ti4,ti79,ti80,ti28,ti25,ti31,ti22,ti33,ti24,ti67,ti111,ti100, h22, h21]
          refine condC_dec (fun hh => ?_) (fun hh => ?_)
          · have hv3 : Rd 1 H3 v n y := hv.same fun i r hr => by rw [hup3.row i (hs _ _ hr)]; exact hr
            obtain ⟨i, o, uu, cc, r, rfl, hr, hc, hg, _⟩ := hv3.get (by omega)
            have g1 := hg c (by omega)
            have hx := getD_in hin (j := c) (by omega)
            have hMl := sqM_length n y a c
            have hrow := sqM_getD n y a c (by omega)
            have hrl := sqR_length n y a c
            obtain ⟨mi, mvs, i6, rfl, q1, q2, q3, q4, q5, q6, q7, q8, q9⟩ := hf3.setF (j := a) (by omega) (by rw [hrow]; omega)
            rw [hrow] at q4 q8 q9
            rw [hMl] at q9
            rw [hrl] at q4
            have hE : Int.tmod ((a : Int) + y.getD c 0) n = sqE n a y c := rfl
            have hEr := sqE_range (n := n) (i := a) (y := y) (j := c) (by omega) hx.1
            revert g1 hE
            generalize hxx : y.getD c 0 = x at hx
            intro g1 hE
            try simp (disch := first | omega | (simp only [ints_length, List.length_replicate, List.length_set, sqR_length, sqM_length, sqP_length, sqA_length]; done) | (simp only [ints_length, List.length_replicate, List.length_set, sqR_length, sqM_length, sqP_length, sqA_length]; omega)) only [Sall,evalOp,init,binE,binI,unE,convE,okNil,builtE,gv,TD.isAgg,resV,↓reduceIte,Nat.reduceEqDiff,reduceCtorEq,Nat.reduceAdd,Nat.reduceMul,Nat.reduceLeDiff,quietOp,blindOp,Int.reduceEq,Int.reduceLT,Int.reduceLE,Nat.reduceLT,ti2,ti3,ti4,ti79,ti80,ti28,ti25,ti31,ti22,ti33,ti24,ti67,ti111,ti100, h22, h21, h20, h6, h17, h16, h0, h4, h5, hr, g1, hMl]
            (repeat refine And.intro (by omega) ?_)
            refine draw_id (by kernel_rfl) (by kernel_rfl) ?_
            try simp (disch := first | omega | (simp only [ints_length, List.length_replicate, List.length_set, sqR_length, sqM_length, sqP_length, sqA_length]; done) | (simp only [ints_length, List.length_replicate, List.length_set, sqR_length, sqM_length, sqP_length, sqA_length]; omega)) only [Sall,evalOp,init,binE,binI,unE,convE,okNil,builtE,gv,TD.isAgg,resV,↓reduceIte,Nat.reduceEqDiff,reduceCtorEq,Nat.reduceAdd,Nat.reduceMul,Nat.reduceLeDiff,quietOp,blindOp,Int.reduceEq,Int.reduceLT,Int.reduceLE,Nat.reduceLT,ti2,ti3,ti4,ti79,ti80,ti28,ti25,ti31,ti22,ti33,ti24,ti67,ti111,ti100, h22, h21, h20, h6, h17, h16, h0, h4, h5, hr, g1, hMl, q3, q4, q8, ints_set, w64, hE]
            (repeat refine And.intro (by omega) ?_)
            have q10 := q9 (sqR n y a (c + 1)) (by rw [sqR_length, hrl])
            rw [sqM_set n y a c (by omega) (by omega)] at q10
            rw [sqR_set n y a c (by omega)]
            exact ⟨.inr (.inl (by kernel_rfl)), n - (c + 1), by omega, c + 1, rfl, by omega, rfl, hup3.set q5 _, hnx3, q10⟩
          · try simp (disch := first | omega | (simp only [ints_length, List.length_replicate, List.length_set, sqR_length, sqM_length, sqP_length, sqA_length]; done) | (simp only [ints_length, List.length_replicate, List.length_set, sqR_length, sqM_length, sqP_length, sqA_length]; omega)) only [Sall,evalOp,init,binE,binI,unE,convE,okNil,builtE,gv,TD.isAgg,resV,↓reduceIte,Nat.reduceEqDiff,reduceCtorEq,Nat.reduceAdd,Nat.reduceMul,Nat.reduceLeDiff,quietOp,blindOp,Int.reduceEq,Int.reduceLT,Int.reduceLE,Nat.reduceLT,ti2,ti3,ti4,ti79,ti80,ti28,ti25,ti31,ti22,ti33,ti24,ti67,ti111,ti100, h17, h16, h0, h4, h5, w64]
            have hc : c = n := by omega
            subst hc
            refine ⟨c - (a + 1), by omega, a + 1, rfl, by omega, rfl, hup3, hnx3, ?_⟩
            rw [← sqM_next]; exact hf3
      · have ha : a = n := by omega
        subst ha
        try simp (disch := first | omega | (simp only [ints_length, List.length_replicate, List.length_set, sqR_length, sqM_length, sqP_length, sqA_length]; done) | (simp only [ints_length, List.length_replicate, List.length_set, sqR_length, sqM_length, sqP_length, sqA_length]; omega)) only [Sall,evalOp,init,binE,binI,unE,convE,okNil,builtE,gv,TD.isAgg,resV,↓reduceIte,Nat.reduceEqDiff,reduceCtorEq,Nat.reduceAdd,Nat.reduceMul,Nat.reduceLeDiff,quietOp,blindOp,Int.reduceEq,Int.reduceLT,Int.reduceLE,Nat.reduceLT,ti2,ti3,ti4,ti79,ti80,ti28,ti25,ti31,ti22,ti33,ti24,ti67,ti111,ti100, h5]
        refine ⟨u, rfl, hup, ?_⟩
        rw [sqM_all] at hf
        exact hf.wide (Nat.le_refl _) (by omega)
theorem specSquareOfList0_c (v : Value) (y : List Int) (H : AH) (hv : Rd 1 H v y.length y) (hy : y.length ≤ 4294967296) :
    ACalls Try.prog 41 [v] H (fun r H' => ∃ u, r = .tuple #[u, .int .i64 (sqC y)] ∧ Up H.next H H' ∧ Fr2 1 28 2 H.next H'.next H' u (sqL y)) := by
  refine ACalls.wf (by kernel_rfl) fun hs => acalls_of_awp [.tmp 2, .tmp 3] Try.func41 (by kernel_rfl) rfl rfl (Nat.le_of_ble_eq_true rfl) (by kernel_rfl) ?_
  try simp (disch := first | omega | (simp only [ints_length, List.length_replicate, List.length_set, sqR_length, sqM_length, sqP_length, sqA_length]; done) | (simp only [ints_length, List.length_replicate, List.length_set, sqR_length, sqM_length, sqP_length, sqA_length]; omega)) only [Sall,evalOp,init,binE,binI,unE,convE,okNil,builtE,gv,TD.isAgg,resV,↓reduceIte,Nat.reduceEqDiff,reduceCtorEq,Nat.reduceAdd,Nat.reduceMul,Nat.reduceLeDiff,quietOp,blindOp,Int.reduceEq,Int.reduceLT,Int.reduceLE,Nat.reduceLT,ti2,ti3,ti4,ti79,ti80,ti28,ti25,ti31,ti22,ti33,ti24,ti67,ti111,ti100, true_and]
  refine (l09List_c v y H hv hy).to ?_
  unfold sqC sqL
  cases hb : listB y with
  | false =>
    try simp (disch := first | omega | (simp only [ints_length, List.length_replicate, List.length_set, sqR_length, sqM_length, sqP_length, sqA_length]; done) | (simp only [ints_length, List.length_replicate, List.length_set, sqR_length, sqM_length, sqP_length, sqA_length]; omega)) only [Sall,evalOp,init,binE,binI,unE,convE,okNil,builtE,gv,TD.isAgg,resV,↓reduceIte,Nat.reduceEqDiff,reduceCtorEq,Nat.reduceAdd,Nat.reduceMul,Nat.reduceLeDiff,quietOp,blindOp,Int.reduceEq,Int.reduceLT,Int.reduceLE,Nat.reduceLT,ti2,ti3,ti4,ti79,ti80,ti28,ti25,ti31,ti22,ti33,ti24,ti67,ti111,ti100, Bool.not_false]
    exact ⟨_, rfl, Up.refl _ _, .inl ⟨rfl, rfl⟩⟩
  | true =>
    obtain ⟨hlen, hin, hnd⟩ := listB_at hb
    obtain ⟨n, hn⟩ : ∃ n, n = y.length := ⟨_, rfl⟩
    rw [← hn] at hv hy hlen hin ⊢
    try simp (disch := first | omega | (simp only [ints_length, List.length_replicate, List.length_set, sqR_length, sqM_length, sqP_length, sqA_length]; done) | (simp only [ints_length, List.length_replicate, List.length_set, sqR_length, sqM_length, sqP_length, sqA_length]; omega)) only [Sall,evalOp,init,binE,binI,unE,convE,okNil,builtE,gv,TD.isAgg,resV,↓reduceIte,Nat.reduceEqDiff,reduceCtorEq,Nat.reduceAdd,Nat.reduceMul,Nat.reduceLeDiff,quietOp,blindOp,Int.reduceEq,Int.reduceLT,Int.reduceLE,Nat.reduceLT,ti2,ti3,ti4,ti79,ti80,ti28,ti25,ti31,ti22,ti33,ti24,ti67,ti111,ti100, Bool.not_true, builtE, hv.len, zeros_zero]
    refine awp_loop (fun m t H' => ∃ (a : Nat) (u : Value) (lo hi : Nat), m = n - a ∧ a ≤ n ∧ t 6 = .int .i64 a ∧ t 0 = v ∧ t 4 = .int .i64 n ∧ t 5 = u ∧ Up H.next H H' ∧ H.next ≤ lo ∧ lo ≤ hi ∧ hi ≤ H'.next ∧ Fr2 1 28 2 lo hi H' u (sqA n y a)) n ?_ ?_
    · refine ⟨0, .slice (some ⟨H.next, 0, some 1⟩) 0 0, H.next, H.next + 1, by omega, by omega, ?_⟩
      try simp (disch := first | omega | (simp only [ints_length, List.length_replicate, List.length_set, sqR_length, sqM_length, sqP_length, sqA_length]; done) | (simp only [ints_length, List.length_replicate, List.length_set, sqR_length, sqM_length, sqP_length, sqA_length]; omega)) only [Sall,evalOp,init,binE,binI,unE,convE,okNil,builtE,gv,TD.isAgg,resV,↓reduceIte,Nat.reduceEqDiff,reduceCtorEq,Nat.reduceAdd,Nat.reduceMul,Nat.reduceLeDiff,quietOp,blindOp,Int.reduceEq,Int.reduceLT,Int.reduceLE,Nat.reduceLT,ti2,ti3,ti4,ti79,ti80,ti28,ti25,ti31,ti22,ti33,ti24,ti67,ti111,ti100, Int.natCast_zero]
      refine ⟨(Up.refl _ H).push (by omega) _, ?_⟩
      (repeat refine And.intro (by omega) ?_)
      exact .inr ⟨H.next, [], fun _ => H.next + 1, by omega, by omega, rfl, by rw [AH.push_row, if_pos rfl], rfl, by dsimp only; omega, by dsimp only; omega, .inl (by dsimp only; omega), fun _ => Nat.le_refl _, fun j hj => by simp [sqA] at hj⟩
    · rintro m t H' ⟨a, u, lo, hi, hm, han, h6, h0, h4, h5, hup, hlo, hlh, hhi, hf⟩
      have hup1 := hup.next
      try simp (disch := first | omega | (simp only [ints_length, List.length_replicate, List.length_set, sqR_length, sqM_length, sqP_length, sqA_length]; done) | (simp only [ints_length, List.length_replicate, List.length_set, sqR_length, sqM_length, sqP_length, sqA_length]; omega)) only [Sall,evalOp,init,binE,binI,unE,convE,okNil,builtE,gv,TD.isAgg,resV,↓reduceIte,Nat.reduceEqDiff,reduceCtorEq,Nat.reduceAdd,Nat.reduceMul,Nat.reduceLeDiff,quietOp,blindOp,Int.reduceEq,Int.reduceLT,Int.reduceLE,Nat.reduceLT,ti2,ti3,ti4,ti79,ti80,ti28,ti25,ti31,ti22,ti33,ti24,ti67,ti111,ti100, h6, h4]
      refine condC_dec (fun h => ?_) (fun h => ?_)
      · try simp (disch := first | omega | (simp only [ints_length, List.length_replicate, List.length_set, sqR_length, sqM_length, sqP_length, sqA_length]; done) | (simp only [ints_length, List.length_replicate, List.length_set, sqR_length, sqM_length, sqP_length, sqA_length]; omega)) only [Sall,evalOp,init,binE,binI,unE,convE,okNil,builtE,gv,TD.isAgg,resV,↓reduceIte,Nat.reduceEqDiff,reduceCtorEq,Nat.reduceAdd,Nat.reduceMul,Nat.reduceLeDiff,quietOp,blindOp,Int.reduceEq,Int.reduceLT,Int.reduceLE,Nat.reduceLT,ti2,ti3,ti4,ti79,ti80,ti28,ti25,ti31,ti22,ti33,ti24,ti67,ti111,ti100, h6, h0, h4, h5, zeros_zero]
        refine awp_loop (fun z t H3 => ∃ (c : Nat) (w : Value) (lo2 hi2 : Nat), z = n - c ∧ c ≤ n ∧ t 8 = .int .i64 c ∧ t 7 = w ∧ t 6 = .int .i64 a ∧ t 0 = v ∧ t 4 = .int .i64 n ∧ t 5 = u ∧ Up H'.next H' H3 ∧ H'.next ≤ lo2 ∧ lo2 ≤ hi2 ∧ hi2 ≤ H3.next ∧ Fr 1 2 lo2 hi2 H3 w c (sqP n y a c)) n ?_ ?_
        · refine ⟨0, .slice (some ⟨H'.next, 0, some 1⟩) 0 0, H'.next, H'.next + 1, by omega, by omega, ?_⟩
          try simp (disch := first | omega | (simp only [ints_length, List.length_replicate, List.length_set, sqR_length, sqM_length, sqP_length, sqA_length]; done) | (simp only [ints_length, List.length_replicate, List.length_set, sqR_length, sqM_length, sqP_length, sqA_length]; omega)) only [Sall,evalOp,init,binE,binI,unE,convE,okNil,builtE,gv,TD.isAgg,resV,↓reduceIte,Nat.reduceEqDiff,reduceCtorEq,Nat.reduceAdd,Nat.reduceMul,Nat.reduceLeDiff,quietOp,blindOp,Int.reduceEq,Int.reduceLT,Int.reduceLE,Nat.reduceLT,ti2,ti3,ti4,ti79,ti80,ti28,ti25,ti31,ti22,ti33,ti24,ti67,ti111,ti100, Int.natCast_zero, h6, h0, h4, h5]
          refine ⟨(Up.refl _ H').push (by omega) _, ?_⟩
          (repeat refine And.intro (by omega) ?_)
          exact ⟨by simp [sqP], .inr ⟨H'.next, Nat.le_refl _, Nat.lt_succ_self _, rfl, by rw [AH.push_row, if_pos rfl]; rfl⟩⟩
        · rintro z t H3 ⟨c, w, lo2, hi2, hz, hcn, h8, h7, h6, h0, h4, h5, hup3, hlo2, hlh2, hhi2, hw⟩
          have hup31 := hup3.next
          try simp (disch := first | omega | (simp only [ints_length, List.length_replicate, List.length_set, sqR_length, sqM_length, sqP_length, sqA_length]; done) | (simp only [ints_length, List.length_replicate, List.length_set, sqR_length, sqM_length, sqP_length, sqA_length]; omega)) only [Sall,evalOp,init,binE,binI,unE,convE,okNil,builtE,gv,TD.isAgg,resV,↓reduceIte,Nat.reduceEqDiff,reduceCtorEq,Nat.reduceAdd,Nat.reduceMul,Nat.reduceLeDiff,quietOp,blindOp,Int.reduceEq,Int.reduceLT,Int.reduceLE,Nat.reduceLT,ti2,ti3,ti4,ti79,ti80,ti28,ti25,ti31,ti22,ti33,ti24,ti67,ti111,ti100, h8, h4]
          refine condC_dec (fun hh => ?_) (fun hh => ?_)
          · have hv3 : Rd 1 H3 v n y := hv.same fun i r hr => by rw [hup3.row i (by have := hs _ _ hr; omega), hup.row i (hs _ _ hr)]; exact hr
            obtain ⟨i, o, uu, cc, r, rfl, hr, hc, hg, _⟩ := hv3.get (by omega)
            have g1 := hg c (by omega)
            have hx := getD_in hin (j := c) (by omega)
            have hE : Int.tmod ((a : Int) + y.getD c 0) n = sqE n a y c := rfl
            have hEr := sqE_range (n := n) (i := a) (y := y) (j := c) (by omega) hx.1
            have hPs := sqP_succ n y a c
            revert g1 hE hPs hEr
            generalize hxx : y.getD c 0 = x at hx
            generalize sqE n a y c = e
            intro g1 hE hEr hPs
            have zz : zeros 1 [.int .i64 0] = [.int .i64 0] := rfl
            try simp (disch := first | omega | (simp only [ints_length, List.length_replicate, List.length_set, sqR_length, sqM_length, sqP_length, sqA_length]; done) | (simp only [ints_length, List.length_replicate, List.length_set, sqR_length, sqM_length, sqP_length, sqA_length]; omega)) only [Sall,evalOp,init,binE,binI,unE,convE,okNil,builtE,gv,TD.isAgg,resV,↓reduceIte,Nat.reduceEqDiff,reduceCtorEq,Nat.reduceAdd,Nat.reduceMul,Nat.reduceLeDiff,quietOp,blindOp,Int.reduceEq,Int.reduceLT,Int.reduceLE,Nat.reduceLT,ti2,ti3,ti4,ti79,ti80,ti28,ti25,ti31,ti22,ti33,ti24,ti67,ti111,ti100, h8, h7, h6, h0, h4, h5, hr, g1, zz, slCells, w64, hE]
            (repeat refine And.intro (by omega) ?_)
            obtain ⟨H4, e4⟩ : ∃ H4, H4 = H3.push ⟨2, true, [.int .i64 e]⟩ := ⟨_, rfl⟩
            have n4 : H4.next = H3.next + 1 := by rw [e4]; rfl
            have s4 : ∀ i, i < H3.next → H4.row i = H3.row i := fun i hi => by rw [e4, AH.push_row, if_neg (by omega)]
            rw [← e4]
            clear e4
            refine appE_fr (k := 1) (lo := lo2) (hi := hi2) (l := sqP n y a c) (m := [e]) (hw.same fun i _ hi => s4 i (by omega)) rfl (by omega) rfl (by omega) (by decide) (by omega) (by omega) ?_
            intro v' H5 n5 s5 f5
            try simp (disch := first | omega | (simp only [ints_length, List.length_replicate, List.length_set, sqR_length, sqM_length, sqP_length, sqA_length]; done) | (simp only [ints_length, List.length_replicate, List.length_set, sqR_length, sqM_length, sqP_length, sqA_length]; omega)) only [Sall,evalOp,init,binE,binI,unE,convE,okNil,builtE,gv,TD.isAgg,resV,↓reduceIte,Nat.reduceEqDiff,reduceCtorEq,Nat.reduceAdd,Nat.reduceMul,Nat.reduceLeDiff,quietOp,blindOp,Int.reduceEq,Int.reduceLT,Int.reduceLE,Nat.reduceLT,ti2,ti3,ti4,ti79,ti80,ti28,ti25,ti31,ti22,ti33,ti24,ti67,ti111,ti100, h8, h6, h0, h4, h5, w64]
            refine ⟨n - (c + 1), by omega, c + 1, v', H4.next, H4.next + 1, rfl, by omega, rfl, rfl, ⟨by omega, fun i hi => by rw [s5 i (by omega) (by omega), s4 i (by omega), hup3.row i hi]⟩, by omega, by omega, by omega, ?_⟩
            rw [hPs]; exact f5
          · have hc : c = n := by omega
            subst hc
            rw [sqP_all] at hw
            have zz : zeros 1 [.slice none 0 0] = [.slice none 0 0] := rfl
            have ho := hw.rd.one
            have hc1 := cells_of_one ho
            have hc2 := noTuple_of_one ho
            try simp (disch := first | omega | (simp only [ints_length, List.length_replicate, List.length_set, sqR_length, sqM_length, sqP_length, sqA_length]; done) | (simp only [ints_length, List.length_replicate, List.length_set, sqR_length, sqM_length, sqP_length, sqA_length]; omega)) only [Sall,evalOp,init,binE,binI,unE,convE,okNil,builtE,gv,TD.isAgg,resV,↓reduceIte,Nat.reduceEqDiff,reduceCtorEq,Nat.reduceAdd,Nat.reduceMul,Nat.reduceLeDiff,quietOp,blindOp,Int.reduceEq,Int.reduceLT,Int.reduceLE,Nat.reduceLT,ti2,ti3,ti4,ti79,ti80,ti28,ti25,ti31,ti22,ti33,ti24,ti67,ti111,ti100, h7, h6, h0, h4, h5, zz, slCells, ho, hc1, hc2]
            obtain ⟨H4, e4⟩ : ∃ H4, H4 = H3.push ⟨28, true, [w]⟩ := ⟨_, rfl⟩
            have n4 : H4.next = H3.next + 1 := by rw [e4]; rfl
            have s4 : ∀ i, i < H3.next → H4.row i = H3.row i := fun i hi => by rw [e4, AH.push_row, if_neg (by omega)]
            rw [← e4]
            clear e4
            refine appE_fr2 (lo := lo) (hi := hi) (hf.same fun i _ hi => by rw [s4 i (by omega), hup3.row i (by omega)]) ((hw.same fun i _ hi => s4 i (by omega)).wide (by omega) (by omega)) rfl (by decide) (by rw [sqA_length]; omega) hlh (by omega) ?_
            intro v' H5 n5 s5 f5
            try simp (disch := first | omega | (simp only [ints_length, List.length_replicate, List.length_set, sqR_length, sqM_length, sqP_length, sqA_length]; done) | (simp only [ints_length, List.length_replicate, List.length_set, sqR_length, sqM_length, sqP_length, sqA_length]; omega)) only [Sall,evalOp,init,binE,binI,unE,convE,okNil,builtE,gv,TD.isAgg,resV,↓reduceIte,Nat.reduceEqDiff,reduceCtorEq,Nat.reduceAdd,Nat.reduceMul,Nat.reduceLeDiff,quietOp,blindOp,Int.reduceEq,Int.reduceLT,Int.reduceLE,Nat.reduceLT,ti2,ti3,ti4,ti79,ti80,ti28,ti25,ti31,ti22,ti33,ti24,ti67,ti111,ti100, h6, h0, h4, w64]
            refine ⟨c - (a + 1), by omega, a + 1, v', lo, H4.next + 1, rfl, by omega, rfl, rfl, ⟨by omega, fun i hi => by rw [s5 i (by omega) (by omega), s4 i (by omega), hup3.row i (by omega), hup.row i hi]⟩, by omega, by omega, by omega, ?_⟩
            rw [sqA_succ]; exact f5
      · have ha : a = n := by omega
        subst ha
        try simp (disch := first | omega | (simp only [ints_length, List.length_replicate, List.length_set, sqR_length, sqM_length, sqP_length, sqA_length]; done) | (simp only [ints_length, List.length_replicate, List.length_set, sqR_length, sqM_length, sqP_length, sqA_length]; omega)) only [Sall,evalOp,init,binE,binI,unE,convE,okNil,builtE,gv,TD.isAgg,resV,↓reduceIte,Nat.reduceEqDiff,reduceCtorEq,Nat.reduceAdd,Nat.reduceMul,Nat.reduceLeDiff,quietOp,blindOp,Int.reduceEq,Int.reduceLT,Int.reduceLE,Nat.reduceLT,ti2,ti3,ti4,ti79,ti80,ti28,ti25,ti31,ti22,ti33,ti24,ti67,ti111,ti100, h5]
        exact ⟨u, rfl, hup, hf.wide hlo (by omega)⟩
theorem SquareOfList_c (v : Value) (n : Nat) (y : List Int) (H : AH) (hv : Rd 1 H v n y) (hy : n ≤ 4294967296) :
    ACalls Try.prog 42 [v] H (fun r H' => ∃ u, r = .tuple #[u, .int .i64 (sqC y)] ∧ Up H.next H H' ∧ Fr2 1 28 2 H.next H'.next H' u (sqL y)) := by
  have e := hv.lenK1
  subst e
  exact SquareOfList0_c v y H hv hy
theorem specSquareOfList_c (v : Value) (n : Nat) (y : List Int) (H : AH) (hv : Rd 1 H v n y) (hy : n ≤ 4294967296) :
    ACalls Try.prog 41 [v] H (fun r H' => ∃ u, r = .tuple #[u, .int .i64 (sqC y)] ∧ Up H.next H H' ∧ Fr2 1 28 2 H.next H'.next H' u (sqL y)) := by
  have e := hv.lenK1
  subst e
  exact specSquareOfList0_c v y H hv hy
end Go.Proofs.Ytbmpkihggipciaa.A
