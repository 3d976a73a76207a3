/- Contracts: IsRowComplete on both sides. -/
import Derived.Test.YtbmpkihggipciaaC17
import Derived.Test.YtbmpkihggipciaaC24
import Derived.Test.YtbmpkihggipciaaPl14
set_option linter.unusedSimpArgs false
set_option linter.unusedVariables false
set_option maxRecDepth 100000
set_option maxHeartbeats 2000000
--LEN ints_length, List.length_replicate, List.length_set, colL_length
namespace Go.Proofs.Ytbmpkihggipciaa.A
open Go Go.Abs Go.RowKit

theorem IsRowComplete_c (n : Int) (x : Value) (ll : List (List Int)) (H : AH) (hn : -9223372036854775808 ≤ n ∧ n ≤ 9223372036854775807) (hx : Rd2 1 H x ll) (hl : ll.length ≤ 4294967296) (hl2 : ∀ r ∈ ll, r.length ≤ 4294967296) :
    ACalls Try.prog 50 [.int .i64 n, x] H (is (.tuple #[.bool (ircB n ll), .int .i64 (ircC n ll)]) H) := by
  refine acalls_up (by simp [flat, Abs.scal]) (ACalls.wf (by kernel_rfl) fun hs => acalls_of_awp [.tmp 4, .tmp 5] Try.func50 (by kernel_rfl) rfl rfl (Nat.le_of_ble_eq_true rfl) (by kernel_rfl) ?_)
  try simp (disch := first | omega | (simp only [ints_length, List.length_replicate, List.length_set, colL_length]; done) | (simp only [ints_length, List.length_replicate, List.length_set, colL_length]; omega)) only [Sall,evalOp,init,binE,binI,unE,convE,okNil,builtE,gv,TD.isAgg,resV,↓reduceIte,Nat.reduceEqDiff,reduceCtorEq,Nat.reduceAdd,Nat.reduceMul,Nat.reduceLeDiff,quietOp,blindOp,Int.reduceEq,Int.reduceLT,Int.reduceLE,Nat.reduceLT,ti2,ti3,ti4,ti79,ti80,ti28,ti25,ti31,ti22,ti33,ti24,ti67,ti111,ti100, true_and]
  refine (haveSquare_c n x ll H hx hl hl2).to ?_
  unfold ircC ircB
  cases hb : haveB n ll with
  | false =>
    try simp (disch := first | omega | (simp only [ints_length, List.length_replicate, List.length_set, colL_length]; done) | (simp only [ints_length, List.length_replicate, List.length_set, colL_length]; omega)) only [Sall,evalOp,init,binE,binI,unE,convE,okNil,builtE,gv,TD.isAgg,resV,↓reduceIte,Nat.reduceEqDiff,reduceCtorEq,Nat.reduceAdd,Nat.reduceMul,Nat.reduceLeDiff,quietOp,blindOp,Int.reduceEq,Int.reduceLT,Int.reduceLE,Nat.reduceLT,ti2,ti3,ti4,ti79,ti80,ti28,ti25,ti31,ti22,ti33,ti24,ti67,ti111,ti100, Bool.not_false, Bool.false_and]
    exact Up.refl _ _
  | true =>
    obtain ⟨m, rfl, h1, h2, h3, h4⟩ := haveB_at hb
    rw [Int.toNat_natCast]
    try simp (disch := first | omega | (simp only [ints_length, List.length_replicate, List.length_set, colL_length]; done) | (simp only [ints_length, List.length_replicate, List.length_set, colL_length]; omega)) only [Sall,evalOp,init,binE,binI,unE,convE,okNil,builtE,gv,TD.isAgg,resV,↓reduceIte,Nat.reduceEqDiff,reduceCtorEq,Nat.reduceAdd,Nat.reduceMul,Nat.reduceLeDiff,quietOp,blindOp,Int.reduceEq,Int.reduceLT,Int.reduceLE,Nat.reduceLT,ti2,ti3,ti4,ti79,ti80,ti28,ti25,ti31,ti22,ti33,ti24,ti67,ti111,ti100, Bool.not_true]
    refine (isLatin_c m x ll H hx h3 h2 h4).to ?_
    cases hlat : latB m ll with
    | false =>
      try simp (disch := first | omega | (simp only [ints_length, List.length_replicate, List.length_set, colL_length]; done) | (simp only [ints_length, List.length_replicate, List.length_set, colL_length]; omega)) only [Sall,evalOp,init,binE,binI,unE,convE,okNil,builtE,gv,TD.isAgg,resV,↓reduceIte,Nat.reduceEqDiff,reduceCtorEq,Nat.reduceAdd,Nat.reduceMul,Nat.reduceLeDiff,quietOp,blindOp,Int.reduceEq,Int.reduceLT,Int.reduceLE,Nat.reduceLT,ti2,ti3,ti4,ti79,ti80,ti28,ti25,ti31,ti22,ti33,ti24,ti67,ti111,ti100, Bool.not_false, Bool.true_and, Bool.false_and]
      exact Up.refl _ _
    | true =>
      try simp (disch := first | omega | (simp only [ints_length, List.length_replicate, List.length_set, colL_length]; done) | (simp only [ints_length, List.length_replicate, List.length_set, colL_length]; omega)) only [Sall,evalOp,init,binE,binI,unE,convE,okNil,builtE,gv,TD.isAgg,resV,↓reduceIte,Nat.reduceEqDiff,reduceCtorEq,Nat.reduceAdd,Nat.reduceMul,Nat.reduceLeDiff,quietOp,blindOp,Int.reduceEq,Int.reduceLT,Int.reduceLE,Nat.reduceLT,ti2,ti3,ti4,ti79,ti80,ti28,ti25,ti31,ti22,ti33,ti24,ti67,ti111,ti100, Bool.not_true]
      refine (square_c m (by omega) H).mono ?_
      rintro u H1 ⟨up1, hf1⟩
      have n1 := up1.next
      have hx1 := hx.same (up1.le hs).row
      refine Holds.mp ?_
      try simp (disch := first | omega | (simp only [ints_length, List.length_replicate, List.length_set, colL_length]; done) | (simp only [ints_length, List.length_replicate, List.length_set, colL_length]; omega)) only [Sall,evalOp,init,binE,binI,unE,convE,okNil,builtE,gv,TD.isAgg,resV,↓reduceIte,Nat.reduceEqDiff,reduceCtorEq,Nat.reduceAdd,Nat.reduceMul,Nat.reduceLeDiff,quietOp,blindOp,Int.reduceEq,Int.reduceLT,Int.reduceLE,Nat.reduceLT,ti2,ti3,ti4,ti79,ti80,ti28,ti25,ti31,ti22,ti33,ti24,ti67,ti111,ti100, builtE, hx1.len]
      refine awp_loop (fun z t H' => ∃ a : Nat, z = m - a ∧ a ≤ m ∧ t 24 = .int .i64 a ∧ t 23 = .int .i64 m ∧ t 22 = x ∧ t 6 = u ∧ Up H.next H H' ∧ H'.next = H1.next ∧ Fr2 1 28 2 H.next H1.next H' u (cntMx m (nbP m ll a 0))) m ?_ ?_
      · refine ⟨0, by omega, by omega, ?_⟩
        try simp (disch := first | omega | (simp only [ints_length, List.length_replicate, List.length_set, colL_length]; done) | (simp only [ints_length, List.length_replicate, List.length_set, colL_length]; omega)) only [Sall,evalOp,init,binE,binI,unE,convE,okNil,builtE,gv,TD.isAgg,resV,↓reduceIte,Nat.reduceEqDiff,reduceCtorEq,Nat.reduceAdd,Nat.reduceMul,Nat.reduceLeDiff,quietOp,blindOp,Int.reduceEq,Int.reduceLT,Int.reduceLE,Nat.reduceLT,ti2,ti3,ti4,ti79,ti80,ti28,ti25,ti31,ti22,ti33,ti24,ti67,ti111,ti100, Int.natCast_zero, h3]
        refine ⟨up1, ?_⟩
        rw [nbP_zero, cntMx_nil]; exact hf1
      · rintro z t H' ⟨a, hz, ha, h24, h23, h22, h6, hup, hnx, hf⟩
        try simp (disch := first | omega | (simp only [ints_length, List.length_replicate, List.length_set, colL_length]; done) | (simp only [ints_length, List.length_replicate, List.length_set, colL_length]; omega)) only [Sall,evalOp,init,binE,binI,unE,convE,okNil,builtE,gv,TD.isAgg,resV,↓reduceIte,Nat.reduceEqDiff,reduceCtorEq,Nat.reduceAdd,Nat.reduceMul,Nat.reduceLeDiff,quietOp,blindOp,Int.reduceEq,Int.reduceLT,Int.reduceLE,Nat.reduceLT,ti2,ti3,ti4,ti79,ti80,ti28,ti25,ti31,ti22,ti33,ti24,ti67,ti111,ti100, h24, h23]
        refine condC_dec (fun h => ?_) (fun h => ?_)
        · have hx' := hx.same (hup.le hs).row
          obtain ⟨i, o, uu, c, r, y, my, rfl, hr, hy, hsx, hok⟩ := hx'.get (j := a) (by omega)
          obtain ⟨hlr, hin⟩ := h4 a (by omega)
          have hmm := hsx.lenK1
          rw [hmm, hlr] at hsx
          have hold : ∀ {H2 : AH}, Up H.next H H2 → Rd 1 H2 y m (ll.getD a []) := by
            intro H2 hup2
            obtain ⟨i2, o2, uu2, c2, r2, y2, my2, e2, hr2, hy2, hsx2, _⟩ := hx.get (j := a) (by omega)
            cases e2
            have e3 : r2 = r := by
              have := (hup.le hs).row _ _ hr2
              rw [hr] at this; exact (Option.some.inj this).symm
            subst e3
            rw [hy] at hy2
            cases hy2
            have hmm2 := hsx2.lenK1
            rw [hmm2, hlr] at hsx2
            exact hsx2.same (hup2.le hs).row
          try simp (disch := first | omega | (simp only [ints_length, List.length_replicate, List.length_set, colL_length]; done) | (simp only [ints_length, List.length_replicate, List.length_set, colL_length]; omega)) only [Sall,evalOp,init,binE,binI,unE,convE,okNil,builtE,gv,TD.isAgg,resV,↓reduceIte,Nat.reduceEqDiff,reduceCtorEq,Nat.reduceAdd,Nat.reduceMul,Nat.reduceLeDiff,quietOp,blindOp,Int.reduceEq,Int.reduceLT,Int.reduceLE,Nat.reduceLT,ti2,ti3,ti4,ti79,ti80,ti28,ti25,ti31,ti22,ti33,ti24,ti67,ti111,ti100, h24, h23, h22, h6, hr, hy, hok]
          (repeat refine And.intro (by omega) ?_)
          refine awp_loop (fun z t H2 => ∃ b : Nat, z = m - 1 - b ∧ b ≤ m - 1 ∧ t 9 = .int .i64 ((b : Int) + 1) ∧ t 8 = y ∧ t 24 = .int .i64 a ∧ t 23 = .int .i64 m ∧ t 22 = .slice (some ⟨i, o, uu⟩) ll.length c ∧ t 6 = u ∧ Up H.next H H2 ∧ H2.next = H1.next ∧ Fr2 1 28 2 H.next H1.next H2 u (cntMx m (nbP m ll a b))) (m - 1) ?_ ?_
          · refine ⟨0, by omega, by omega, ?_⟩
            try simp (disch := first | omega | (simp only [ints_length, List.length_replicate, List.length_set, colL_length]; done) | (simp only [ints_length, List.length_replicate, List.length_set, colL_length]; omega)) only [Sall,evalOp,init,binE,binI,unE,convE,okNil,builtE,gv,TD.isAgg,resV,↓reduceIte,Nat.reduceEqDiff,reduceCtorEq,Nat.reduceAdd,Nat.reduceMul,Nat.reduceLeDiff,quietOp,blindOp,Int.reduceEq,Int.reduceLT,Int.reduceLE,Nat.reduceLT,ti2,ti3,ti4,ti79,ti80,ti28,ti25,ti31,ti22,ti33,ti24,ti67,ti111,ti100, Int.natCast_zero, Int.zero_add, h24, h23, h22, h6]
            exact ⟨hup, hnx, hf⟩
          · rintro z t H2 ⟨b, hz, hbm, h9, h8, h24, h23, h22, h6, hup2, hnx2, hf2⟩
            have hsx2 := hold hup2
            have hsl := hsx2.len
            try simp (disch := first | omega | (simp only [ints_length, List.length_replicate, List.length_set, colL_length]; done) | (simp only [ints_length, List.length_replicate, List.length_set, colL_length]; omega)) only [Sall,evalOp,init,binE,binI,unE,convE,okNil,builtE,gv,TD.isAgg,resV,↓reduceIte,Nat.reduceEqDiff,reduceCtorEq,Nat.reduceAdd,Nat.reduceMul,Nat.reduceLeDiff,quietOp,blindOp,Int.reduceEq,Int.reduceLT,Int.reduceLE,Nat.reduceLT,ti2,ti3,ti4,ti79,ti80,ti28,ti25,ti31,ti22,ti33,ti24,ti67,ti111,ti100, h9, h8, builtE, hsl]
            refine condC_dec (fun hh => ?_) (fun hh => ?_)
            · obtain ⟨i7, o7, u7, c7, r7, rfl, hr7, hc7, hs7, hg7⟩ := hsx2.get (by omega)
              have g0 := hs7 b (by omega)
              have g1 := hs7 (b + 1) (by omega)
              have y0 := hin b (by omega)
              have y1 := hin (b + 1) (by omega)
              have hnb := nbP_succ m ll a b
              have hnl := nbP_length m ll a b
              have hlen6 : (nbP m ll a b).length ≤ 1000000 := by
                rw [hnl]
                have : a * (m - 1) ≤ 14 * 14 := Nat.mul_le_mul (by omega) (by omega)
                omega
              unfold nbE at hnb
              obtain ⟨p, hp⟩ : ∃ p : Nat, (ll.getD a []).getD b 0 = (p : Int) := ⟨((ll.getD a []).getD b 0).toNat, by omega⟩
              obtain ⟨q, hq⟩ : ∃ q : Nat, (ll.getD a []).getD (b + 1) 0 = (q : Int) := ⟨((ll.getD a []).getD (b + 1) 0).toNat, by omega⟩
              rw [hp] at g0 y0 hnb
              rw [hq] at g1 y1 hnb
              rw [Int.toNat_natCast, Int.toNat_natCast] at hnb
              have hinc := cntMx_inc m (nbP m ll a b) p q (by omega) (by omega) hlen6
              have hsq := cntMx_sq m (nbP m ll a b)
              have hrow := hsq.2 p (by omega)
              obtain ⟨mi, mvs, i6, rfl, q1, q2, q3, q4, q5, q6, q7, q8, q9⟩ := hf2.setF (j := p) (by rw [hsq.1]; omega) (by omega)
              have hMl := hsq.1
              have q10 := q9 (incR ((cntMx m (nbP m ll a b)).getD p []) (q : Int)) (incR_length _ _)
              rw [hrow] at q4
              have ea : (b : Int) + 1 - 1 = b := by omega
              have ec : ((b : Int) + 1).toNat = b + 1 := by omega
              have ne7 : ¬ i7 = i6 := by
                intro e
                have hsx0 := hold (Up.refl H.next H)
                rcases hsx0.2 with ⟨h0, _⟩ | ⟨i9, o9, u9, c9, r9, e9, hr9, _⟩
                · omega
                · cases e9
                  have := hs _ _ hr9
                  omega
              refine draw_id (by kernel_rfl) (by kernel_rfl) ?_
              try simp (disch := first | omega | (simp only [ints_length, List.length_replicate, List.length_set, colL_length]; done) | (simp only [ints_length, List.length_replicate, List.length_set, colL_length]; omega)) only [Sall,evalOp,init,binE,binI,unE,convE,okNil,builtE,gv,TD.isAgg,resV,↓reduceIte,Nat.reduceEqDiff,reduceCtorEq,Nat.reduceAdd,Nat.reduceMul,Nat.reduceLeDiff,quietOp,blindOp,Int.reduceEq,Int.reduceLT,Int.reduceLE,Nat.reduceLT,ti2,ti3,ti4,ti79,ti80,ti28,ti25,ti31,ti22,ti33,ti24,ti67,ti111,ti100, h9, h8, h24, h23, h22, h6, hr7, ea, ec, g0, g1, q3, q4, q8, hMl, Int.toNat_natCast, ints_get?, ints_set, w64]
              (repeat refine And.intro (by omega) ?_)
              rw [hMl] at q10
              have q11 : Fr2 1 28 2 H.next H1.next (H2.setCells i6 (ints (incR ((cntMx m (nbP m ll a b)).getD p []) (q : Int)))) (.slice (some ⟨mi, 0, some 1⟩) m m) (cntMx m (nbP m ll a (b + 1))) := by
                rw [hnb, ← hinc]; exact q10
              exact ⟨.inr (.inl (by kernel_rfl)), m - 1 - (b + 1), by omega, b + 1, rfl, by omega, by omega, hup2.set q5 _, hnx2, q11⟩
            · try simp (disch := first | omega | (simp only [ints_length, List.length_replicate, List.length_set, colL_length]; done) | (simp only [ints_length, List.length_replicate, List.length_set, colL_length]; omega)) only [Sall,evalOp,init,binE,binI,unE,convE,okNil,builtE,gv,TD.isAgg,resV,↓reduceIte,Nat.reduceEqDiff,reduceCtorEq,Nat.reduceAdd,Nat.reduceMul,Nat.reduceLeDiff,quietOp,blindOp,Int.reduceEq,Int.reduceLT,Int.reduceLE,Nat.reduceLT,ti2,ti3,ti4,ti79,ti80,ti28,ti25,ti31,ti22,ti33,ti24,ti67,ti111,ti100, h24, h23, h22, h6, w64]
              have hb2 : b = m - 1 := by omega
              subst hb2
              refine ⟨m - (a + 1), by omega, a + 1, rfl, by omega, rfl, hup2, hnx2, ?_⟩
              rw [← nbP_next]; exact hf2
        · try simp (disch := first | omega | (simp only [ints_length, List.length_replicate, List.length_set, colL_length]; done) | (simp only [ints_length, List.length_replicate, List.length_set, colL_length]; omega)) only [Sall,evalOp,init,binE,binI,unE,convE,okNil,builtE,gv,TD.isAgg,resV,↓reduceIte,Nat.reduceEqDiff,reduceCtorEq,Nat.reduceAdd,Nat.reduceMul,Nat.reduceLeDiff,quietOp,blindOp,Int.reduceEq,Int.reduceLT,Int.reduceLE,Nat.reduceLT,ti2,ti3,ti4,ti79,ti80,ti28,ti25,ti31,ti22,ti33,ti24,ti67,ti111,ti100, h6]
          have ha2 : a = m := by omega
          subst ha2
          refine (areAllOnce_c u a _ H' hf.rd (cntMx_sq a _) (by omega)).to ?_
          try simp (disch := first | omega | (simp only [ints_length, List.length_replicate, List.length_set, colL_length]; done) | (simp only [ints_length, List.length_replicate, List.length_set, colL_length]; omega)) only [Sall,evalOp,init,binE,binI,unE,convE,okNil,builtE,gv,TD.isAgg,resV,↓reduceIte,Nat.reduceEqDiff,reduceCtorEq,Nat.reduceAdd,Nat.reduceMul,Nat.reduceLeDiff,quietOp,blindOp,Int.reduceEq,Int.reduceLT,Int.reduceLE,Nat.reduceLT,ti2,ti3,ti4,ti79,ti80,ti28,ti25,ti31,ti22,ti33,ti24,ti67,ti111,ti100, Bool.true_and]
          refine ⟨?_, hup⟩
          rw [show nbP a ll a 0 = nbA a ll from rfl, bal_nodup (by omega) (nbA_length a ll) fun x hx => nbA_mem h4 hlat hx]
theorem specIsRowComplete_c (n : Int) (x : Value) (ll : List (List Int)) (H : AH) (hn : -9223372036854775808 ≤ n ∧ n ≤ 9223372036854775807) (hx : Rd2 1 H x ll) (hl : ll.length ≤ 4294967296) (hl2 : ∀ r ∈ ll, r.length ≤ 4294967296) :
    ACalls Try.prog 49 [.int .i64 n, x] H (is (.tuple #[.bool (ircB n ll), .int .i64 (ircC n ll)]) H) := by
  refine acalls_up (by simp [flat, Abs.scal]) (ACalls.wf (by kernel_rfl) fun hs => acalls_of_awp [.tmp 4, .tmp 5] Try.func49 (by kernel_rfl) rfl rfl (Nat.le_of_ble_eq_true rfl) (by kernel_rfl) ?_)
  try simp (disch := first | omega | (simp only [ints_length, List.length_replicate, List.length_set, colL_length]; done) | (simp only [ints_length, List.length_replicate, List.length_set, colL_length]; omega)) only [Sall,evalOp,init,binE,binI,unE,convE,okNil,builtE,gv,TD.isAgg,resV,↓reduceIte,Nat.reduceEqDiff,reduceCtorEq,Nat.reduceAdd,Nat.reduceMul,Nat.reduceLeDiff,quietOp,blindOp,Int.reduceEq,Int.reduceLT,Int.reduceLE,Nat.reduceLT,ti2,ti3,ti4,ti79,ti80,ti28,ti25,ti31,ti22,ti33,ti24,ti67,ti111,ti100, true_and]
  refine (l09Rows_c n x ll H hx hl hl2).to ?_
  unfold ircC ircB sqoC
  cases hb : haveB n ll with
  | false =>
    have e1 : ((2 : Int) == 0) = false := by decide
    have e2 : ((2 : Int) != 0) = true := by decide
    try simp (disch := first | omega | (simp only [ints_length, List.length_replicate, List.length_set, colL_length]; done) | (simp only [ints_length, List.length_replicate, List.length_set, colL_length]; omega)) only [Sall,evalOp,init,binE,binI,unE,convE,okNil,builtE,gv,TD.isAgg,resV,↓reduceIte,Nat.reduceEqDiff,reduceCtorEq,Nat.reduceAdd,Nat.reduceMul,Nat.reduceLeDiff,quietOp,blindOp,Int.reduceEq,Int.reduceLT,Int.reduceLE,Nat.reduceLT,ti2,ti3,ti4,ti79,ti80,ti28,ti25,ti31,ti22,ti33,ti24,ti67,ti111,ti100, Bool.false_and, e1, e2]
    exact Up.refl _ _
  | true =>
    obtain ⟨m, rfl, h1, h2, h3, h4⟩ := haveB_at hb
    rw [Int.toNat_natCast]
    have e1 : ((0 : Int) == 0) = true := by decide
    have e2 : ((0 : Int) != 0) = false := by decide
    have e4 : ((4 : Int) != 0) = true := by decide
    try simp (disch := first | omega | (simp only [ints_length, List.length_replicate, List.length_set, colL_length]; done) | (simp only [ints_length, List.length_replicate, List.length_set, colL_length]; omega)) only [Sall,evalOp,init,binE,binI,unE,convE,okNil,builtE,gv,TD.isAgg,resV,↓reduceIte,Nat.reduceEqDiff,reduceCtorEq,Nat.reduceAdd,Nat.reduceMul,Nat.reduceLeDiff,quietOp,blindOp,Int.reduceEq,Int.reduceLT,Int.reduceLE,Nat.reduceLT,ti2,ti3,ti4,ti79,ti80,ti28,ti25,ti31,ti22,ti33,ti24,ti67,ti111,ti100, e1]
    refine (l09Square_c m x ll H hx h3 h2 h4).to ?_
    cases hlat : latB m ll with
    | false =>
      try simp (disch := first | omega | (simp only [ints_length, List.length_replicate, List.length_set, colL_length]; done) | (simp only [ints_length, List.length_replicate, List.length_set, colL_length]; omega)) only [Sall,evalOp,init,binE,binI,unE,convE,okNil,builtE,gv,TD.isAgg,resV,↓reduceIte,Nat.reduceEqDiff,reduceCtorEq,Nat.reduceAdd,Nat.reduceMul,Nat.reduceLeDiff,quietOp,blindOp,Int.reduceEq,Int.reduceLT,Int.reduceLE,Nat.reduceLT,ti2,ti3,ti4,ti79,ti80,ti28,ti25,ti31,ti22,ti33,ti24,ti67,ti111,ti100, Bool.not_false, Bool.true_and, Bool.false_and, e4]
      exact Up.refl _ _
    | true =>
      have hmm : m * m ≤ 14 * 14 := Nat.mul_le_mul h2 h2
      have hmi : (m : Int) * (m : Int) = ((m * m : Nat) : Int) := by rw [Int.natCast_mul]
      try simp (disch := first | omega | (simp only [ints_length, List.length_replicate, List.length_set, colL_length]; done) | (simp only [ints_length, List.length_replicate, List.length_set, colL_length]; omega)) only [Sall,evalOp,init,binE,binI,unE,convE,okNil,builtE,gv,TD.isAgg,resV,↓reduceIte,Nat.reduceEqDiff,reduceCtorEq,Nat.reduceAdd,Nat.reduceMul,Nat.reduceLeDiff,quietOp,blindOp,Int.reduceEq,Int.reduceLT,Int.reduceLE,Nat.reduceLT,ti2,ti3,ti4,ti79,ti80,ti28,ti25,ti31,ti22,ti33,ti24,ti67,ti111,ti100, Bool.not_true, e2, hmi, w64, zeros_bools, ← metL_nil]
      (repeat refine And.intro (by omega) ?_)
      have hbal := nbA_length m ll
      refine awp_loop (fun z t H' => ∃ a : Nat, z = m - a ∧ a ≤ m ∧ t 8 = .int .i64 a ∧ t 7 = .slice (some ⟨H.next, 0, some 1⟩) (m * m) (m * m) ∧ t 0 = .int .i64 m ∧ t 1 = x ∧ H.next < H'.next ∧ (∀ i, i < H.next → H'.row i = H.row i) ∧ H'.row H.next = some ⟨4, true, bools (metL (m * m) (nbP m ll a 0))⟩ ∧ (nbP m ll a 0).Nodup) m ?_ ?_
      · refine ⟨0, by omega, by omega, ?_⟩
        try simp (disch := first | omega | (simp only [ints_length, List.length_replicate, List.length_set, colL_length]; done) | (simp only [ints_length, List.length_replicate, List.length_set, colL_length]; omega)) only [Sall,evalOp,init,binE,binI,unE,convE,okNil,builtE,gv,TD.isAgg,resV,↓reduceIte,Nat.reduceEqDiff,reduceCtorEq,Nat.reduceAdd,Nat.reduceMul,Nat.reduceLeDiff,quietOp,blindOp,Int.reduceEq,Int.reduceLT,Int.reduceLE,Nat.reduceLT,ti2,ti3,ti4,ti79,ti80,ti28,ti25,ti31,ti22,ti33,ti24,ti67,ti111,ti100, Int.natCast_zero, nbP_zero]
        exact ⟨by omega, fun i hi => by rw [if_neg (by omega)], by simp⟩
      · rintro z t H' ⟨a, hz, ha, h8, h7, h0, h1', hnx, hrows, hrow, hnd⟩
        have hup : Up H.next H H' := ⟨by omega, hrows⟩
        try simp (disch := first | omega | (simp only [ints_length, List.length_replicate, List.length_set, colL_length]; done) | (simp only [ints_length, List.length_replicate, List.length_set, colL_length]; omega)) only [Sall,evalOp,init,binE,binI,unE,convE,okNil,builtE,gv,TD.isAgg,resV,↓reduceIte,Nat.reduceEqDiff,reduceCtorEq,Nat.reduceAdd,Nat.reduceMul,Nat.reduceLeDiff,quietOp,blindOp,Int.reduceEq,Int.reduceLT,Int.reduceLE,Nat.reduceLT,ti2,ti3,ti4,ti79,ti80,ti28,ti25,ti31,ti22,ti33,ti24,ti67,ti111,ti100, h8, h0]
        refine condC_dec (fun h => ?_) (fun h => ?_)
        · try simp (disch := first | omega | (simp only [ints_length, List.length_replicate, List.length_set, colL_length]; done) | (simp only [ints_length, List.length_replicate, List.length_set, colL_length]; omega)) only [Sall,evalOp,init,binE,binI,unE,convE,okNil,builtE,gv,TD.isAgg,resV,↓reduceIte,Nat.reduceEqDiff,reduceCtorEq,Nat.reduceAdd,Nat.reduceMul,Nat.reduceLeDiff,quietOp,blindOp,Int.reduceEq,Int.reduceLT,Int.reduceLE,Nat.reduceLT,ti2,ti3,ti4,ti79,ti80,ti28,ti25,ti31,ti22,ti33,ti24,ti67,ti111,ti100, h8, h7, h0, h1']
          refine awp_loop (fun z t H2 => ∃ b : Nat, z = m - 1 - b ∧ b ≤ m - 1 ∧ t 9 = .int .i64 ((b : Int) + 1) ∧ t 8 = .int .i64 a ∧ t 7 = .slice (some ⟨H.next, 0, some 1⟩) (m * m) (m * m) ∧ t 0 = .int .i64 m ∧ t 1 = x ∧ H.next < H2.next ∧ (∀ i, i < H.next → H2.row i = H.row i) ∧ H2.row H.next = some ⟨4, true, bools (metL (m * m) (nbP m ll a b))⟩ ∧ (nbP m ll a b).Nodup) (m - 1) ?_ ?_
          · refine ⟨0, by omega, by omega, ?_⟩
            try simp (disch := first | omega | (simp only [ints_length, List.length_replicate, List.length_set, colL_length]; done) | (simp only [ints_length, List.length_replicate, List.length_set, colL_length]; omega)) only [Sall,evalOp,init,binE,binI,unE,convE,okNil,builtE,gv,TD.isAgg,resV,↓reduceIte,Nat.reduceEqDiff,reduceCtorEq,Nat.reduceAdd,Nat.reduceMul,Nat.reduceLeDiff,quietOp,blindOp,Int.reduceEq,Int.reduceLT,Int.reduceLE,Nat.reduceLT,ti2,ti3,ti4,ti79,ti80,ti28,ti25,ti31,ti22,ti33,ti24,ti67,ti111,ti100, Int.natCast_zero, Int.zero_add, h8, h7, h0, h1']
            exact ⟨hnx, hrows, hrow, hnd⟩
          · rintro z t H2 ⟨b, hz, hbm, h9, h8, h7, h0, h1', hnx2, hrows2, hrow2, hnd2⟩
            have hup2 : Up H.next H H2 := ⟨by omega, hrows2⟩
            have hx2 := hx.same (hup2.le hs).row
            try simp (disch := first | omega | (simp only [ints_length, List.length_replicate, List.length_set, colL_length]; done) | (simp only [ints_length, List.length_replicate, List.length_set, colL_length]; omega)) only [Sall,evalOp,init,binE,binI,unE,convE,okNil,builtE,gv,TD.isAgg,resV,↓reduceIte,Nat.reduceEqDiff,reduceCtorEq,Nat.reduceAdd,Nat.reduceMul,Nat.reduceLeDiff,quietOp,blindOp,Int.reduceEq,Int.reduceLT,Int.reduceLE,Nat.reduceLT,ti2,ti3,ti4,ti79,ti80,ti28,ti25,ti31,ti22,ti33,ti24,ti67,ti111,ti100, h9, h0]
            refine condC_dec (fun hh => ?_) (fun hh => ?_)
            · obtain ⟨i, o, uu, c, r, y, my, rfl, hr, hy, hsx, hok⟩ := hx2.get (j := a) (by omega)
              obtain ⟨hlr, hin⟩ := h4 a (by omega)
              have hmm2 := hsx.lenK1
              rw [hmm2, hlr] at hsx
              obtain ⟨i7, o7, u7, c7, r7, rfl, hr7, hc7, hs7, hg7⟩ := hsx.get (by omega)
              have g0 := hs7 b (by omega)
              have g1 := hs7 (b + 1) (by omega)
              have y0 := hin b (by omega)
              have y1 := hin (b + 1) (by omega)
              have hnb := nbP_succ m ll a b
              have hbad := nb_bad (m := m) (ll := ll) (i := a) (c := b) (by omega) (by omega)
              unfold nbE at hnb hbad
              obtain ⟨p, hp⟩ : ∃ p : Nat, (ll.getD a []).getD b 0 = (p : Int) := ⟨((ll.getD a []).getD b 0).toNat, by omega⟩
              obtain ⟨q, hq⟩ : ∃ q : Nat, (ll.getD a []).getD (b + 1) 0 = (q : Int) := ⟨((ll.getD a []).getD (b + 1) 0).toNat, by omega⟩
              rw [hp] at g0 y0 hnb hbad
              rw [hq] at g1 y1 hnb hbad
              rw [Int.toNat_natCast, Int.toNat_natCast] at hnb hbad
              have hix := ix_lt (m := m) (a := p) (b := q) (by omega) (by omega)
              have hpm : (p : Int) * (m : Int) = ((p * m : Nat) : Int) := by rw [Int.natCast_mul]
              have hps : ((p * m : Nat) : Int) + (q : Int) = ixN m p q := by unfold ixN; omega
              have hpb : p * m ≤ 14 * 14 := Nat.mul_le_mul (by omega) h2
              have ea : (b : Int) + 1 - 1 = b := by omega
              have ec : ((b : Int) + 1).toNat = b + 1 := by omega
              have g2 := metL_get? (m * m) (nbP m ll a b) (ixN m p q) hix
              have g3 := metL_put (m * m) (nbP m ll a b) (ixN m p q) hix
              refine draw_id (by kernel_rfl) (by kernel_rfl) ?_
              cases hct : (nbP m ll a b).contains (ixN m p q) with
              | true =>
                rw [hct] at g2
                try simp (disch := first | omega | (simp only [ints_length, List.length_replicate, List.length_set, colL_length]; done) | (simp only [ints_length, List.length_replicate, List.length_set, colL_length]; omega)) only [Sall,evalOp,init,binE,binI,unE,convE,okNil,builtE,gv,TD.isAgg,resV,↓reduceIte,Nat.reduceEqDiff,reduceCtorEq,Nat.reduceAdd,Nat.reduceMul,Nat.reduceLeDiff,quietOp,blindOp,Int.reduceEq,Int.reduceLT,Int.reduceLE,Nat.reduceLT,ti2,ti3,ti4,ti79,ti80,ti28,ti25,ti31,ti22,ti33,ti24,ti67,ti111,ti100, h9, h8, h7, h0, h1', hr, hy, hok, hr7, ea, ec, Int.toNat_natCast, g0, g1, w64, hpm, hps, hrow2, g2]
                (repeat refine And.intro (by omega) ?_)
                rw [hbad hct]
                exact ⟨by rw [Bool.and_false], hup2⟩
              | false =>
                rw [hct] at g2
                try simp (disch := first | omega | (simp only [ints_length, List.length_replicate, List.length_set, colL_length]; done) | (simp only [ints_length, List.length_replicate, List.length_set, colL_length]; omega)) only [Sall,evalOp,init,binE,binI,unE,convE,okNil,builtE,gv,TD.isAgg,resV,↓reduceIte,Nat.reduceEqDiff,reduceCtorEq,Nat.reduceAdd,Nat.reduceMul,Nat.reduceLeDiff,quietOp,blindOp,Int.reduceEq,Int.reduceLT,Int.reduceLE,Nat.reduceLT,ti2,ti3,ti4,ti79,ti80,ti28,ti25,ti31,ti22,ti33,ti24,ti67,ti111,ti100, h9, h8, h7, h0, h1', hr, hy, hok, hr7, ea, ec, Int.toNat_natCast, g0, g1, w64, hpm, hps, hrow2, g2, g3]
                (repeat refine And.intro (by omega) ?_)
                refine ⟨by rw [bools_length, metL_length]; omega, m - 1 - (b + 1), by omega, b + 1, rfl, by omega, by omega, hnx2, fun i hi => by rw [if_neg (by omega)]; exact hrows2 i hi, by rw [hnb], ?_⟩
                rw [hnb]
                exact nodup_snoc.2 ⟨hnd2, fun hm => by rw [List.contains_iff_mem.2 hm] at hct; cases hct⟩
            · try simp (disch := first | omega | (simp only [ints_length, List.length_replicate, List.length_set, colL_length]; done) | (simp only [ints_length, List.length_replicate, List.length_set, colL_length]; omega)) only [Sall,evalOp,init,binE,binI,unE,convE,okNil,builtE,gv,TD.isAgg,resV,↓reduceIte,Nat.reduceEqDiff,reduceCtorEq,Nat.reduceAdd,Nat.reduceMul,Nat.reduceLeDiff,quietOp,blindOp,Int.reduceEq,Int.reduceLT,Int.reduceLE,Nat.reduceLT,ti2,ti3,ti4,ti79,ti80,ti28,ti25,ti31,ti22,ti33,ti24,ti67,ti111,ti100, h8, h7, h0, h1', w64]
              have hb2 : b = m - 1 := by omega
              subst hb2
              rw [nbP_next] at hrow2 hnd2
              exact ⟨m - (a + 1), by omega, a + 1, rfl, by omega, rfl, hnx2, hrows2, hrow2, hnd2⟩
        · have ha2 : a = m := by omega
          subst ha2
          have e : decide (nbA a ll).Nodup = true := decide_eq_true hnd
          try simp (disch := first | omega | (simp only [ints_length, List.length_replicate, List.length_set, colL_length]; done) | (simp only [ints_length, List.length_replicate, List.length_set, colL_length]; omega)) only [Sall,evalOp,init,binE,binI,unE,convE,okNil,builtE,gv,TD.isAgg,resV,↓reduceIte,Nat.reduceEqDiff,reduceCtorEq,Nat.reduceAdd,Nat.reduceMul,Nat.reduceLeDiff,quietOp,blindOp,Int.reduceEq,Int.reduceLT,Int.reduceLE,Nat.reduceLT,ti2,ti3,ti4,ti79,ti80,ti28,ti25,ti31,ti22,ti33,ti24,ti67,ti111,ti100, Bool.true_and, e]
          exact hup
end Go.Proofs.Ytbmpkihggipciaa.A
