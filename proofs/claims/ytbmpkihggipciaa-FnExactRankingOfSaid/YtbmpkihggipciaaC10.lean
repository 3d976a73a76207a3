/- Contracts: points and sums on the reference's side. -/
import Derived.Test.YtbmpkihggipciaaC9
set_option linter.unusedSimpArgs false
set_option linter.unusedVariables false
set_option maxRecDepth 100000
set_option maxHeartbeats 2000000
--LEN ints_length, List.length_replicate, List.length_set
namespace Go.Proofs.Ytbmpkihggipciaa.A
open Go Go.Abs Go.RowKit

theorem l10Points_c (n : Nat) (v : Value) (k : Nat) (l : List Int) (x : Value) (ll : List (List Int)) (R : Nat) (H : AH) (hb : schedB n k l = true) (hres : resB n k l ll = true) (hR : R ≤ ll.length) (hl : ll.length ≤ 4294967296) (hv : Rd 14 H v k l) (hx : Rd2 1 H x ll) :
    ACalls Try.prog 113 [.agg #[.int .i64 n, v], x, .int .i64 R] H (fun u H' => Up H.next H H' ∧ Fr 1 2 H.next H'.next H' u n (sumsF n (fun _ o => o) (meets n l ll R))) := by
  refine ACalls.wf (by kernel_rfl) fun hs => acalls_of_awp [.tmp 6] Try.func113 (by kernel_rfl) rfl rfl (Nat.le_of_ble_eq_true rfl) (by kernel_rfl) ?_
  obtain ⟨hn, hk40, hrounds⟩ := schedB_at hb
  obtain ⟨hlk, hrs⟩ := resB_at hres
  have hone := hv.one
  try simp (disch := first | omega | (simp only [ints_length, List.length_replicate, List.length_set]; done) | (simp only [ints_length, List.length_replicate, List.length_set]; omega)) only [Sall,evalOp,init,binE,binI,unE,convE,okNil,builtE,gv,TD.isAgg,resV,↓reduceIte,Nat.reduceEqDiff,reduceCtorEq,Nat.reduceAdd,Nat.reduceMul,Nat.reduceLeDiff,quietOp,blindOp,Int.reduceEq,Int.reduceLT,Int.reduceLE,Nat.reduceLT,ti2,ti3,ti4,ti79,ti80,ti28,ti25,ti31,ti22,ti33,ti24,ti67,ti111,ti145,ti136,ti137,ti117,ti100, hone, zeros_int1]
  refine ⟨by omega, ?_⟩
  refine awp_loop (fun m t H' => ∃ a : Nat, m = R - a ∧ a ≤ R ∧ t 8 = .int .i64 a ∧ t 7 = .slice (some ⟨H.next + 1, 0, some 1⟩) n n ∧ t 2 = .int .i64 R ∧ t 1 = x ∧ t 3 = .pointer (some ⟨H.next, 0, none⟩) ∧ Up H.next H H' ∧ H.next + 1 < H'.next ∧ H'.row H.next = some ⟨33, true, [.int .i64 n, v]⟩ ∧ H'.row (H.next + 1) = some ⟨2, true, ints (sumsF n (fun _ o => o) (meets n l ll a))⟩) R ?_ ?_
  · refine ⟨0, by omega, by omega, ?_⟩
    try simp (disch := first | omega | (simp only [ints_length, List.length_replicate, List.length_set]; done) | (simp only [ints_length, List.length_replicate, List.length_set]; omega)) only [Sall,evalOp,init,binE,binI,unE,convE,okNil,builtE,gv,TD.isAgg,resV,↓reduceIte,Nat.reduceEqDiff,reduceCtorEq,Nat.reduceAdd,Nat.reduceMul,Nat.reduceLeDiff,quietOp,blindOp,Int.reduceEq,Int.reduceLT,Int.reduceLE,Nat.reduceLT,ti2,ti3,ti4,ti79,ti80,ti28,ti25,ti31,ti22,ti33,ti24,ti67,ti111,ti145,ti136,ti137,ti117,ti100, Int.natCast_zero, meets_zero, sumsF_nil]
    exact ⟨((Up.refl _ H).push (by omega) _).push (by simp only [AH.push_next]; omega) _, by omega⟩
  · rintro m t H' ⟨a, hm, h14, h8, h7, h2, h1, h3, hup, hnx, hr1, hr2⟩
    try simp (disch := first | omega | (simp only [ints_length, List.length_replicate, List.length_set]; done) | (simp only [ints_length, List.length_replicate, List.length_set]; omega)) only [Sall,evalOp,init,binE,binI,unE,convE,okNil,builtE,gv,TD.isAgg,resV,↓reduceIte,Nat.reduceEqDiff,reduceCtorEq,Nat.reduceAdd,Nat.reduceMul,Nat.reduceLeDiff,quietOp,blindOp,Int.reduceEq,Int.reduceLT,Int.reduceLE,Nat.reduceLT,ti2,ti3,ti4,ti79,ti80,ti28,ti25,ti31,ti22,ti33,ti24,ti67,ti111,ti145,ti136,ti137,ti117,ti100, h8, h2]
    refine condC_dec (fun h => ?_) (fun h => ?_)
    · obtain ⟨i, o, u, c, r, y, my, ex, hrB, hy, hsx, hok⟩ := hx.get (j := a) (by omega)
      obtain ⟨i', o', u', c', r', ev, hrB', hc', hs', hg'⟩ := hv.get (by omega)
      have hr' : H'.row i' = some r' := by rw [hup.row _ (hs _ _ hrB'), hrB']
      have hiB := hs _ _ hrB
      obtain ⟨hlen, hvals⟩ := hrs a (by omega)
      have hrl : (rnd l a).length = 14 := rnd_length l a k hv.1 (by omega)
      have hlh := hup.next
      refine draw_id (by kernel_rfl) (by kernel_rfl) ?_
      try simp (disch := first | omega | (simp only [ints_length, List.length_replicate, List.length_set]; done) | (simp only [ints_length, List.length_replicate, List.length_set]; omega)) only [Sall,evalOp,init,binE,binI,unE,convE,okNil,builtE,gv,TD.isAgg,resV,↓reduceIte,Nat.reduceEqDiff,reduceCtorEq,Nat.reduceAdd,Nat.reduceMul,Nat.reduceLeDiff,quietOp,blindOp,Int.reduceEq,Int.reduceLT,Int.reduceLE,Nat.reduceLT,ti2,ti3,ti4,ti79,ti80,ti28,ti25,ti31,ti22,ti33,ti24,ti67,ti111,ti145,ti136,ti137,ti117,ti100, h8, h3, hr1, ev, hr', hg']
      refine ⟨⟨by omega, by omega⟩, by omega, ACalls.wf (by kernel_rfl) fun hs1 => (l01Pairs_c n (rnd l a) hrl (by omega) H').mono ?_⟩
      rintro p H3 ⟨up3, hp⟩
      have hpl := hp.rd.len
      refine ⟨.inr (.inr (up3.le hs1)), ?_⟩
      have n3 := up3.next
      have hr3 : H3.row H.next = some ⟨33, true, [.int .i64 n, v]⟩ := by rw [up3.row _ (by omega), hr1]
      have hr4 : H3.row (H.next + 1) = some ⟨2, true, ints (sumsF n (fun _ o => o) (meets n l ll a))⟩ := by rw [up3.row _ hnx, hr2]
      have hplen := pairsL_le (rnd l a) n
      have hround := hrounds a (by omega)
      refine Holds.mp ?_
      try simp (disch := first | omega | (simp only [ints_length, List.length_replicate, List.length_set]; done) | (simp only [ints_length, List.length_replicate, List.length_set]; omega)) only [Sall,evalOp,init,binE,binI,unE,convE,okNil,builtE,gv,TD.isAgg,resV,↓reduceIte,Nat.reduceEqDiff,reduceCtorEq,Nat.reduceAdd,Nat.reduceMul,Nat.reduceLeDiff,quietOp,blindOp,Int.reduceEq,Int.reduceLT,Int.reduceLE,Nat.reduceLT,ti2,ti3,ti4,ti79,ti80,ti28,ti25,ti31,ti22,ti33,ti24,ti67,ti111,ti145,ti136,ti137,ti117,ti100, h8, h7, h2, h1, h3]
      refine awp_loop (fun z t H4 => ∃ b : Nat, z = (pairsL (rnd l a) n).length - b ∧ b ≤ (pairsL (rnd l a) n).length ∧ t 10 = .int .i64 b ∧ t 9 = p ∧ t 8 = .int .i64 a ∧ t 7 = .slice (some ⟨H.next + 1, 0, some 1⟩) n n ∧ t 2 = .int .i64 R ∧ t 1 = x ∧ t 3 = .pointer (some ⟨H.next, 0, none⟩) ∧ Up H.next H H4 ∧ H3.next ≤ H4.next ∧ H4.row H.next = some ⟨33, true, [.int .i64 n, v]⟩ ∧
          Fr2 1 28 2 H'.next H3.next H4 p (pairsL (rnd l a) n) ∧ H4.row (H.next + 1) = some ⟨2, true, ints (sumsF n (fun _ o => o) (meets n l ll a ++ evRound n a (rnd l a) (ll.getD a []) b))⟩) (pairsL (rnd l a) n).length ?_ ?_
      · refine ⟨0, by omega, by omega, ?_⟩
        try simp (disch := first | omega | (simp only [ints_length, List.length_replicate, List.length_set]; done) | (simp only [ints_length, List.length_replicate, List.length_set]; omega)) only [Sall,evalOp,init,binE,binI,unE,convE,okNil,builtE,gv,TD.isAgg,resV,↓reduceIte,Nat.reduceEqDiff,reduceCtorEq,Nat.reduceAdd,Nat.reduceMul,Nat.reduceLeDiff,quietOp,blindOp,Int.reduceEq,Int.reduceLT,Int.reduceLE,Nat.reduceLT,ti2,ti3,ti4,ti79,ti80,ti28,ti25,ti31,ti22,ti33,ti24,ti67,ti111,ti145,ti136,ti137,ti117,ti100, Int.natCast_zero, evRound_zero, List.append_nil, h8, h7, h2, h1, h3]
        exact ⟨hup.trans up3 hlh, hr3, hp, hr4⟩
      · rintro z t H4 ⟨b, hz, hbp, h10, h9, h8, h7, h2, h1, h3, hup4, hn4, hr4, hp4, hr5⟩
        have hpl4 := hp4.rd.len
        try simp (disch := first | omega | (simp only [ints_length, List.length_replicate, List.length_set]; done) | (simp only [ints_length, List.length_replicate, List.length_set]; omega)) only [Sall,evalOp,init,binE,binI,unE,convE,okNil,builtE,gv,TD.isAgg,resV,↓reduceIte,Nat.reduceEqDiff,reduceCtorEq,Nat.reduceAdd,Nat.reduceMul,Nat.reduceLeDiff,quietOp,blindOp,Int.reduceEq,Int.reduceLT,Int.reduceLE,Nat.reduceLT,ti2,ti3,ti4,ti79,ti80,ti28,ti25,ti31,ti22,ti33,ti24,ti67,ti111,ti145,ti136,ti137,ti117,ti100, h10, h9, builtE, hpl4]
        refine condC_dec (fun hh => ?_) (fun hh => ?_)
        · obtain ⟨pi, pvs, px, pm, pb, pc, rfl, q1, q2, q3, q4, q5, q6, q7, q8⟩ := hp4.getF (j := b) (by omega)
          have hpm := q8.lenK1
          obtain ⟨aa, ha1, ha2, ha3⟩ := pairsL_get (rnd l a) n b (by omega)
          obtain ⟨_, ha4, ha5, _⟩ := roundB_at hround (a := aa) (by omega)
          have hmy := hsx.lenK1
          obtain ⟨i5, o5, u5, c5, r5, rfl, gB, g2, g3, _⟩ := hsx.get (by omega)
          have hi5 := hs _ _ gB
          have g1 : H4.row i5 = some r5 := by rw [hup4.row _ hi5, gB]
          have gr : H4.row i = some r := by rw [hup4.row _ hiB, hrB]
          have g4 := g3 b (by omega)
          rw [ha3] at q8 hpm
          simp only [List.length_cons, List.length_nil] at hpm
          obtain rfl : pm = 2 := hpm
          obtain ⟨i6, w1, w2, rfl, w3⟩ := q8.get (by omega)
          have evs0 : meets n l ll a ++ evRound n a (rnd l a) (ll.getD a []) (b + 1) = ((meets n l ll a ++ evRound n a (rnd l a) (ll.getD a []) b) ++ [(a, (aa : Int), (rnd l a).getD aa 0, wonI ((ll.getD a []).getD b 0))]) ++ [(a, (rnd l a).getD aa 0, (aa : Int), 2 - wonI ((ll.getD a []).getD b 0))] := by
            rw [evRound_succ, ha3]; simp [evPair]
          have i0 : (ints [(aa : Int), (rnd l a).getD aa 0])[Int.toNat 0]? = some (.int .i64 aa) := rfl
          have i1 : (ints [(aa : Int), (rnd l a).getD aa 0])[Int.toNat 1]? = some (.int .i64 ((rnd l a).getD aa 0)) := rfl
          have hsl := sumsF_length n (fun _ o => o) (meets n l ll a ++ evRound n a (rnd l a) (ll.getD a []) b)
          have evs1 : sumsF n (fun _ o => o) (meets n l ll a ++ evRound n a (rnd l a) (ll.getD a []) (b + 1)) = addAt (addAt (sumsF n (fun _ o => o) (meets n l ll a ++ evRound n a (rnd l a) (ll.getD a []) b)) aa (wonI ((ll.getD a []).getD b 0))) ((rnd l a).getD aa 0) (2 - wonI ((ll.getD a []).getD b 0)) := by
            rw [evs0, sumsF_append, sumsF_append]
          revert hr5 hsl evs1
          generalize sumsF n (fun _ o => o) (meets n l ll a ++ evRound n a (rnd l a) (ll.getD a []) b) = A
          intro hr5 hsl evs1
          have ne1 : ¬ pi = H.next + 1 := by omega
          have ne2 : ¬ i6 = H.next + 1 := by omega
          try simp (disch := first | omega | (simp only [ints_length, List.length_replicate, List.length_set]; done) | (simp only [ints_length, List.length_replicate, List.length_set]; omega)) only [Sall,evalOp,init,binE,binI,unE,convE,okNil,builtE,gv,TD.isAgg,resV,↓reduceIte,Nat.reduceEqDiff,reduceCtorEq,Nat.reduceAdd,Nat.reduceMul,Nat.reduceLeDiff,quietOp,blindOp,Int.reduceEq,Int.reduceLT,Int.reduceLE,Nat.reduceLT,ti2,ti3,ti4,ti79,ti80,ti28,ti25,ti31,ti22,ti33,ti24,ti67,ti111,ti145,ti136,ti137,ti117,ti100, h10, h8, h1, ex, gr, hy, hok, g1, g4]
          refine ⟨⟨by omega, by omega⟩, ⟨by omega, by omega⟩, (l10Won_c _ _).to ?_⟩
          try simp (disch := first | omega | (simp only [ints_length, List.length_replicate, List.length_set]; done) | (simp only [ints_length, List.length_replicate, List.length_set]; omega)) only [Sall,evalOp,init,binE,binI,unE,convE,okNil,builtE,gv,TD.isAgg,resV,↓reduceIte,Nat.reduceEqDiff,reduceCtorEq,Nat.reduceAdd,Nat.reduceMul,Nat.reduceLeDiff,quietOp,blindOp,Int.reduceEq,Int.reduceLT,Int.reduceLE,Nat.reduceLT,ti2,ti3,ti4,ti79,ti80,ti28,ti25,ti31,ti22,ti33,ti24,ti67,ti111,ti145,ti136,ti137,ti117,ti100, h10, h9, h7]
          refine draw_id (by kernel_rfl) (by kernel_rfl) ?_
          try simp (disch := first | omega | (simp only [ints_length, List.length_replicate, List.length_set]; done) | (simp only [ints_length, List.length_replicate, List.length_set]; omega)) only [Sall,evalOp,init,binE,binI,unE,convE,okNil,builtE,gv,TD.isAgg,resV,↓reduceIte,Nat.reduceEqDiff,reduceCtorEq,Nat.reduceAdd,Nat.reduceMul,Nat.reduceLeDiff,quietOp,blindOp,Int.reduceEq,Int.reduceLT,Int.reduceLE,Nat.reduceLT,ti2,ti3,ti4,ti79,ti80,ti28,ti25,ti31,ti22,ti33,ti24,ti67,ti111,ti145,ti136,ti137,ti117,ti100, h10, h9, h7, q3, q5, w3, i0, hr5, ints_get?, ints_set]
          (repeat refine And.intro (by omega) ?_)
          refine ⟨.inr (.inl (by kernel_rfl)), ?_⟩
          try simp (disch := first | omega | (simp only [ints_length, List.length_replicate, List.length_set]; done) | (simp only [ints_length, List.length_replicate, List.length_set]; omega)) only [Sall,evalOp,init,binE,binI,unE,convE,okNil,builtE,gv,TD.isAgg,resV,↓reduceIte,Nat.reduceEqDiff,reduceCtorEq,Nat.reduceAdd,Nat.reduceMul,Nat.reduceLeDiff,quietOp,blindOp,Int.reduceEq,Int.reduceLT,Int.reduceLE,Nat.reduceLT,ti2,ti3,ti4,ti79,ti80,ti28,ti25,ti31,ti22,ti33,ti24,ti67,ti111,ti145,ti136,ti137,ti117,ti100, h10, h9, h7]
          refine draw_id (by kernel_rfl) (by kernel_rfl) ?_
          try simp (disch := first | omega | (simp only [ints_length, List.length_replicate, List.length_set]; done) | (simp only [ints_length, List.length_replicate, List.length_set]; omega)) only [Sall,evalOp,init,binE,binI,unE,convE,okNil,builtE,gv,TD.isAgg,resV,↓reduceIte,Nat.reduceEqDiff,reduceCtorEq,Nat.reduceAdd,Nat.reduceMul,Nat.reduceLeDiff,quietOp,blindOp,Int.reduceEq,Int.reduceLT,Int.reduceLE,Nat.reduceLT,ti2,ti3,ti4,ti79,ti80,ti28,ti25,ti31,ti22,ti33,ti24,ti67,ti111,ti145,ti136,ti137,ti117,ti100, h10, h9, h7, q3, q5, w3, i1, hr5, ne1, ne2, ints_get?, ints_set]
          try simp only [List.length_set]
          (repeat refine And.intro (by omega) ?_)
          refine ⟨.inr (.inl (by kernel_rfl)), ?_⟩
          try simp (disch := first | omega | (simp only [ints_length, List.length_replicate, List.length_set]; done) | (simp only [ints_length, List.length_replicate, List.length_set]; omega)) only [Sall,evalOp,init,binE,binI,unE,convE,okNil,builtE,gv,TD.isAgg,resV,↓reduceIte,Nat.reduceEqDiff,reduceCtorEq,Nat.reduceAdd,Nat.reduceMul,Nat.reduceLeDiff,quietOp,blindOp,Int.reduceEq,Int.reduceLT,Int.reduceLE,Nat.reduceLT,ti2,ti3,ti4,ti79,ti80,ti28,ti25,ti31,ti22,ti33,ti24,ti67,ti111,ti145,ti136,ti137,ti117,ti100, h10, h9, h8, h7, h2, h1, h3, w64]
          refine ⟨(pairsL (rnd l a) n).length - (b + 1), by omega, b + 1, rfl, by omega, by omega, (hup4.set (by omega) _).set (by omega) _, hn4, hr4, hp4.same fun i _ hi => ?_, ?_⟩
          · rw [AH.setCells_row, if_neg (by omega), AH.setCells_row, if_neg (by omega)]
          · rw [evs1]; rfl
        · try simp (disch := first | omega | (simp only [ints_length, List.length_replicate, List.length_set]; done) | (simp only [ints_length, List.length_replicate, List.length_set]; omega)) only [Sall,evalOp,init,binE,binI,unE,convE,okNil,builtE,gv,TD.isAgg,resV,↓reduceIte,Nat.reduceEqDiff,reduceCtorEq,Nat.reduceAdd,Nat.reduceMul,Nat.reduceLeDiff,quietOp,blindOp,Int.reduceEq,Int.reduceLT,Int.reduceLE,Nat.reduceLT,ti2,ti3,ti4,ti79,ti80,ti28,ti25,ti31,ti22,ti33,ti24,ti67,ti111,ti145,ti136,ti137,ti117,ti100, h8, h7, h2, h1, h3, w64]
          have hbb : b = (pairsL (rnd l a) n).length := by omega
          refine ⟨R - (a + 1), by omega, a + 1, rfl, by omega, by omega, hup4, by omega, hr4, ?_⟩
          rw [meets_succ, ← hbb]; exact hr5
    · try simp (disch := first | omega | (simp only [ints_length, List.length_replicate, List.length_set]; done) | (simp only [ints_length, List.length_replicate, List.length_set]; omega)) only [Sall,evalOp,init,binE,binI,unE,convE,okNil,builtE,gv,TD.isAgg,resV,↓reduceIte,Nat.reduceEqDiff,reduceCtorEq,Nat.reduceAdd,Nat.reduceMul,Nat.reduceLeDiff,quietOp,blindOp,Int.reduceEq,Int.reduceLT,Int.reduceLE,Nat.reduceLT,ti2,ti3,ti4,ti79,ti80,ti28,ti25,ti31,ti22,ti33,ti24,ti67,ti111,ti145,ti136,ti137,ti117,ti100, h7]
      have ha : a = R := by omega
      subst ha
      exact ⟨hup, (sumsF_length n _ _).trans (Nat.mul_one n).symm, .inr ⟨H.next + 1, by omega, by omega, rfl, hr2⟩⟩

/-- What a meeting adds to the second or the third number. -/
def sumF (third : Bool) (pts : List Int) (b o : Int) : Int := IntKind.i64.wrap ((if third = true then o else 1) * pts.getD b.toNat 0)

theorem l10Sums_c (n : Nat) (v : Value) (k : Nat) (l : List Int) (x : Value) (ll : List (List Int)) (third : Bool) (H : AH) (hb : schedB n k l = true) (hres : resB n k l ll = true) (hl : ll.length ≤ 4294967296) (hv : Rd 14 H v k l) (hx : Rd2 1 H x ll) :
    ACalls Try.prog 56 [.agg #[.int .i64 n, v], x, .bool third] H (fun u H' => Up H.next H H' ∧ Fr 1 2 H.next H'.next H' u n (sumsF n (sumF third (sumsF n (fun _ o => o) (meets n l ll ll.length))) (meets n l ll ll.length))) := by
  refine ACalls.wf (by kernel_rfl) fun hs => acalls_of_awp [.tmp 6] Try.func56 (by kernel_rfl) rfl rfl (Nat.le_of_ble_eq_true rfl) (by kernel_rfl) ?_
  obtain ⟨hn, hk40, hrounds⟩ := schedB_at hb
  obtain ⟨hlk, hrs⟩ := resB_at hres
  have hone := hv.one
  obtain ⟨pts, hpts⟩ : ∃ pts, pts = sumsF n (fun _ o => o) (meets n l ll ll.length) := ⟨_, rfl⟩
  rw [← hpts]
  have up : Up H.next H (H.push ⟨33, true, [.int .i64 n, v]⟩) := (Up.refl _ H).push (Nat.le_refl _) _
  have e1 : (H.push ⟨33, true, [.int .i64 n, v]⟩).row H.next = some ⟨33, true, [.int .i64 n, v]⟩ := by rw [AH.push_row, if_pos rfl]
  have n1 : (H.push ⟨33, true, [.int .i64 n, v]⟩).next = H.next + 1 := rfl
  try simp (disch := first | omega | (simp only [ints_length, List.length_replicate, List.length_set]; done) | (simp only [ints_length, List.length_replicate, List.length_set]; omega)) only [Sall,evalOp,init,binE,binI,unE,convE,okNil,builtE,gv,TD.isAgg,resV,↓reduceIte,Nat.reduceEqDiff,reduceCtorEq,Nat.reduceAdd,Nat.reduceMul,Nat.reduceLeDiff,quietOp,blindOp,Int.reduceEq,Int.reduceLT,Int.reduceLE,Nat.reduceLT,ti2,ti3,ti4,ti79,ti80,ti28,ti25,ti31,ti22,ti33,ti24,ti67,ti111,ti145,ti136,ti137,ti117,ti100, hone]
  have sc1 : Sc (H.push ⟨33, true, [.int .i64 n, v]⟩) := Sc.push hs _
  revert up e1 n1 sc1
  generalize H.push ⟨33, true, [.int .i64 n, v]⟩ = H1
  intro up e1 n1 sc1
  have hv1 := hv.same (up.le hs).row
  have hx1 := hx.same (up.le hs).row
  refine awp_cutQ (fun t H2 => ∃ (pu : Value) (oi lo hi : Nat), t 7 = pu ∧ t 8 = .slice (some ⟨oi, 0, some 1⟩) n n ∧ t 1 = x ∧ t 2 = .bool third ∧ t 3 = .pointer (some ⟨H.next, 0, none⟩) ∧ Up H.next H H2 ∧ H2.row H.next = some ⟨33, true, [.int .i64 n, v]⟩ ∧ H2.row oi = some ⟨2, true, ints (List.replicate n 0)⟩ ∧ Fr 1 2 lo hi H2 pu n pts ∧ H.next < lo ∧ hi ≤ H2.next ∧ H.next < oi ∧ oi < H2.next ∧ (oi < lo ∨ hi ≤ oi)) ?_ ?_
  · refine draw_tree (OT.run [0, 1, 2, 3, 5, 6] (.two 4 7 (OT.run [8, 7, 9] .nil) (OT.run [4, 8, 9] .nil))) (by kernel_rfl) (by kernel_rfl) (Nat.le_of_ble_eq_true rfl) ?_
    try simp (disch := first | omega | (simp only [ints_length, List.length_replicate, List.length_set]; done) | (simp only [ints_length, List.length_replicate, List.length_set]; omega)) only [Sall,evalOp,init,binE,binI,unE,convE,okNil,builtE,gv,TD.isAgg,resV,↓reduceIte,Nat.reduceEqDiff,reduceCtorEq,Nat.reduceAdd,Nat.reduceMul,Nat.reduceLeDiff,quietOp,blindOp,Int.reduceEq,Int.reduceLT,Int.reduceLE,Nat.reduceLT,ti2,ti3,ti4,ti79,ti80,ti28,ti25,ti31,ti22,ti33,ti24,ti67,ti111,ti145,ti136,ti137,ti117,ti100, awpT_nil, awpT_one, awpT_run_nil, awpT_run_cons, e1, builtE, hx.len]
    refine awpT_two ?_ ?_
    · try simp (disch := first | omega | (simp only [ints_length, List.length_replicate, List.length_set]; done) | (simp only [ints_length, List.length_replicate, List.length_set]; omega)) only [Sall,evalOp,init,binE,binI,unE,convE,okNil,builtE,gv,TD.isAgg,resV,↓reduceIte,Nat.reduceEqDiff,reduceCtorEq,Nat.reduceAdd,Nat.reduceMul,Nat.reduceLeDiff,quietOp,blindOp,Int.reduceEq,Int.reduceLT,Int.reduceLE,Nat.reduceLT,ti2,ti3,ti4,ti79,ti80,ti28,ti25,ti31,ti22,ti33,ti24,ti67,ti111,ti145,ti136,ti137,ti117,ti100, awpT_nil, awpT_one, awpT_run_nil, awpT_run_cons]
      refine ACalls.wf (by kernel_rfl) fun hs1 => (l10Points_c n v k l x ll ll.length H1 hb hres (Nat.le_refl _) hl hv1 hx1).sc.mono ?_
      rintro pu H2 ⟨⟨up2, hf⟩, sc2⟩
      rw [← hpts] at hf
      have n2 := up2.next
      refine ⟨.inr (.inr (up2.le hs1)), ?_⟩
      refine Holds.mp ?_
      try simp (disch := first | omega | (simp only [ints_length, List.length_replicate, List.length_set]; done) | (simp only [ints_length, List.length_replicate, List.length_set]; omega)) only [Sall,evalOp,init,binE,binI,unE,convE,okNil,builtE,gv,TD.isAgg,resV,↓reduceIte,Nat.reduceEqDiff,reduceCtorEq,Nat.reduceAdd,Nat.reduceMul,Nat.reduceLeDiff,quietOp,blindOp,Int.reduceEq,Int.reduceLT,Int.reduceLE,Nat.reduceLT,ti2,ti3,ti4,ti79,ti80,ti28,ti25,ti31,ti22,ti33,ti24,ti67,ti111,ti145,ti136,ti137,ti117,ti100, awpT_nil, awpT_one, awpT_run_nil, awpT_run_cons, zeros_int1]
      (repeat refine And.intro (by omega) ?_)
      refine ⟨.inr (.inr (sc2.le _)), ?_⟩
      refine ⟨pu, H2.next, H1.next, H2.next, ?_⟩
      try simp (disch := first | omega | (simp only [ints_length, List.length_replicate, List.length_set]; done) | (simp only [ints_length, List.length_replicate, List.length_set]; omega)) only [Sall,evalOp,init,binE,binI,unE,convE,okNil,builtE,gv,TD.isAgg,resV,↓reduceIte,Nat.reduceEqDiff,reduceCtorEq,Nat.reduceAdd,Nat.reduceMul,Nat.reduceLeDiff,quietOp,blindOp,Int.reduceEq,Int.reduceLT,Int.reduceLE,Nat.reduceLT,ti2,ti3,ti4,ti79,ti80,ti28,ti25,ti31,ti22,ti33,ti24,ti67,ti111,ti145,ti136,ti137,ti117,ti100, true_and]
      refine ⟨(up.trans up2 (by omega)).push (by omega) _, ?_, hf.same fun i _ hi => by rw [AH.push_row, if_neg (by omega)], ?_⟩
      · rw [if_neg (by omega), up2.row _ (by omega), e1]
      · exact ⟨by omega, by omega, by omega, by omega, .inr trivial⟩
    · try simp (disch := first | omega | (simp only [ints_length, List.length_replicate, List.length_set]; done) | (simp only [ints_length, List.length_replicate, List.length_set]; omega)) only [Sall,evalOp,init,binE,binI,unE,convE,okNil,builtE,gv,TD.isAgg,resV,↓reduceIte,Nat.reduceEqDiff,reduceCtorEq,Nat.reduceAdd,Nat.reduceMul,Nat.reduceLeDiff,quietOp,blindOp,Int.reduceEq,Int.reduceLT,Int.reduceLE,Nat.reduceLT,ti2,ti3,ti4,ti79,ti80,ti28,ti25,ti31,ti22,ti33,ti24,ti67,ti111,ti145,ti136,ti137,ti117,ti100, awpT_nil, awpT_one, awpT_run_nil, awpT_run_cons, zeros_int1]
      (repeat refine And.intro (by omega) ?_)
      refine ⟨.inr (.inr (sc1.le _)), ?_⟩
      obtain ⟨H2, e2⟩ : ∃ H2, H2 = H1.push ⟨2, true, ints (List.replicate n 0)⟩ := ⟨_, rfl⟩
      have n2 : H2.next = H1.next + 1 := by rw [e2]; rfl
      have r2 : H2.row H1.next = some ⟨2, true, ints (List.replicate n 0)⟩ := by rw [e2, AH.push_row, if_pos rfl]
      have s2 : ∀ i, i < H1.next → H2.row i = H1.row i := fun i hi => by rw [e2, AH.push_row, if_neg (by omega)]
      have sc2 : Sc H2 := by rw [e2]; exact sc1.push _
      have up2 : Up H.next H H2 := ⟨by have := up.next; omega, fun i hi => by rw [s2 i (by omega), up.row i hi]⟩
      rw [← e2]
      clear e2
      refine (l10Points_c n v k l x ll ll.length H2 hb hres (Nat.le_refl _) hl (hv.same (up2.le hs).row) (hx.same (up2.le hs).row)).mono ?_
      rintro pu H3 ⟨up3, hf⟩
      rw [← hpts] at hf
      have n3 := up3.next
      refine ⟨.inr (.inr (up3.le sc2)), ?_⟩
      refine Holds.mp ?_
      try simp (disch := first | omega | (simp only [ints_length, List.length_replicate, List.length_set]; done) | (simp only [ints_length, List.length_replicate, List.length_set]; omega)) only [Sall,evalOp,init,binE,binI,unE,convE,okNil,builtE,gv,TD.isAgg,resV,↓reduceIte,Nat.reduceEqDiff,reduceCtorEq,Nat.reduceAdd,Nat.reduceMul,Nat.reduceLeDiff,quietOp,blindOp,Int.reduceEq,Int.reduceLT,Int.reduceLE,Nat.reduceLT,ti2,ti3,ti4,ti79,ti80,ti28,ti25,ti31,ti22,ti33,ti24,ti67,ti111,ti145,ti136,ti137,ti117,ti100, awpT_nil, awpT_one, awpT_run_nil, awpT_run_cons]
      refine ⟨pu, H1.next, H2.next, H3.next, ?_⟩
      try simp (disch := first | omega | (simp only [ints_length, List.length_replicate, List.length_set]; done) | (simp only [ints_length, List.length_replicate, List.length_set]; omega)) only [Sall,evalOp,init,binE,binI,unE,convE,okNil,builtE,gv,TD.isAgg,resV,↓reduceIte,Nat.reduceEqDiff,reduceCtorEq,Nat.reduceAdd,Nat.reduceMul,Nat.reduceLeDiff,quietOp,blindOp,Int.reduceEq,Int.reduceLT,Int.reduceLE,Nat.reduceLT,ti2,ti3,ti4,ti79,ti80,ti28,ti25,ti31,ti22,ti33,ti24,ti67,ti111,ti145,ti136,ti137,ti117,ti100, true_and]
      exact ⟨up2.trans up3 (by omega), by rw [up3.row _ (by omega), s2 _ (by omega), e1], by rw [up3.row _ (by omega), r2], hf, by omega, by omega, by omega, by omega⟩
  · rintro t H2 ⟨pu, oi, plo, phi, h7, h8, h1, h2, h3, u2, r0, ro, hf, b1, b2, b3, b4, b5⟩
    try simp (disch := first | omega | (simp only [ints_length, List.length_replicate, List.length_set]; done) | (simp only [ints_length, List.length_replicate, List.length_set]; omega)) only [Sall,evalOp,init,binE,binI,unE,convE,okNil,builtE,gv,TD.isAgg,resV,↓reduceIte,Nat.reduceEqDiff,reduceCtorEq,Nat.reduceAdd,Nat.reduceMul,Nat.reduceLeDiff,quietOp,blindOp,Int.reduceEq,Int.reduceLT,Int.reduceLE,Nat.reduceLT,ti2,ti3,ti4,ti79,ti80,ti28,ti25,ti31,ti22,ti33,ti24,ti67,ti111,ti145,ti136,ti137,ti117,ti100, h7, h8, h1, h2, h3]
    refine awp_loop (fun m t H' => ∃ a : Nat, m = ll.length - a ∧ a ≤ ll.length ∧ t 9 = .int .i64 a ∧ t 8 = .slice (some ⟨oi, 0, some 1⟩) n n ∧ t 7 = pu ∧ t 2 = .bool third ∧ t 1 = x ∧ t 3 = .pointer (some ⟨H.next, 0, none⟩) ∧ Up H.next H H' ∧ H2.next ≤ H'.next ∧ H'.row H.next = some ⟨33, true, [.int .i64 n, v]⟩ ∧ Fr 1 2 plo phi H' pu n pts ∧ H'.row oi = some ⟨2, true, ints (sumsF n (sumF third pts) (meets n l ll a))⟩) ll.length ?_ ?_
    · refine ⟨0, by omega, by omega, ?_⟩
      try simp (disch := first | omega | (simp only [ints_length, List.length_replicate, List.length_set]; done) | (simp only [ints_length, List.length_replicate, List.length_set]; omega)) only [Sall,evalOp,init,binE,binI,unE,convE,okNil,builtE,gv,TD.isAgg,resV,↓reduceIte,Nat.reduceEqDiff,reduceCtorEq,Nat.reduceAdd,Nat.reduceMul,Nat.reduceLeDiff,quietOp,blindOp,Int.reduceEq,Int.reduceLT,Int.reduceLE,Nat.reduceLT,ti2,ti3,ti4,ti79,ti80,ti28,ti25,ti31,ti22,ti33,ti24,ti67,ti111,ti145,ti136,ti137,ti117,ti100, Int.natCast_zero, meets_zero, sumsF_nil, h7, h8, h1, h2, h3]
      exact ⟨u2, r0, hf, ro⟩
    · rintro m t H' ⟨a, hm, h14, h9, h8, h7, h2, h1, h3, hup, hnx, hr1, hf', hr2⟩
      try simp (disch := first | omega | (simp only [ints_length, List.length_replicate, List.length_set]; done) | (simp only [ints_length, List.length_replicate, List.length_set]; omega)) only [Sall,evalOp,init,binE,binI,unE,convE,okNil,builtE,gv,TD.isAgg,resV,↓reduceIte,Nat.reduceEqDiff,reduceCtorEq,Nat.reduceAdd,Nat.reduceMul,Nat.reduceLeDiff,quietOp,blindOp,Int.reduceEq,Int.reduceLT,Int.reduceLE,Nat.reduceLT,ti2,ti3,ti4,ti79,ti80,ti28,ti25,ti31,ti22,ti33,ti24,ti67,ti111,ti145,ti136,ti137,ti117,ti100, h9, h1, builtE, hx.len]
      refine condC_dec (fun h => ?_) (fun h => ?_)
      · obtain ⟨i, o, u, c, r, y, my, ex, hrB, hy, hsx, hok⟩ := hx.get (j := a) (by omega)
        obtain ⟨i', o', u', c', r', ev, hrB', hc', hs', hg'⟩ := hv.get (by omega)
        have hr' : H'.row i' = some r' := by rw [hup.row _ (hs _ _ hrB'), hrB']
        have hiB := hs _ _ hrB
        obtain ⟨hlen, hvals⟩ := hrs a (by omega)
        have hrl : (rnd l a).length = 14 := rnd_length l a k hv.1 (by omega)
        have hlh := hup.next
        refine draw_id (by kernel_rfl) (by kernel_rfl) ?_
        try simp (disch := first | omega | (simp only [ints_length, List.length_replicate, List.length_set]; done) | (simp only [ints_length, List.length_replicate, List.length_set]; omega)) only [Sall,evalOp,init,binE,binI,unE,convE,okNil,builtE,gv,TD.isAgg,resV,↓reduceIte,Nat.reduceEqDiff,reduceCtorEq,Nat.reduceAdd,Nat.reduceMul,Nat.reduceLeDiff,quietOp,blindOp,Int.reduceEq,Int.reduceLT,Int.reduceLE,Nat.reduceLT,ti2,ti3,ti4,ti79,ti80,ti28,ti25,ti31,ti22,ti33,ti24,ti67,ti111,ti145,ti136,ti137,ti117,ti100, h9, h3, hr1, ev, hr', hg']
        (repeat refine And.intro (by omega) ?_)
        refine ACalls.wf (by kernel_rfl) fun hs1 => (l01Pairs_c n (rnd l a) hrl (by omega) H').mono ?_
        rintro p H3 ⟨up3, hp⟩
        have hpl := hp.rd.len
        refine ⟨.inr (.inr (up3.le hs1)), ?_⟩
        have n3 := up3.next
        have hr3 : H3.row H.next = some ⟨33, true, [.int .i64 n, v]⟩ := by rw [up3.row _ (by omega), hr1]
        have hr4 : H3.row oi = some ⟨2, true, ints (sumsF n (sumF third pts) (meets n l ll a))⟩ := by rw [up3.row _ (by omega), hr2]
        have hf3 : Fr 1 2 plo phi H3 pu n pts := hf'.same fun i _ hi => up3.row i (by omega)
        have hplen := pairsL_le (rnd l a) n
        have hround := hrounds a (by omega)
        refine Holds.mp ?_
        try simp (disch := first | omega | (simp only [ints_length, List.length_replicate, List.length_set]; done) | (simp only [ints_length, List.length_replicate, List.length_set]; omega)) only [Sall,evalOp,init,binE,binI,unE,convE,okNil,builtE,gv,TD.isAgg,resV,↓reduceIte,Nat.reduceEqDiff,reduceCtorEq,Nat.reduceAdd,Nat.reduceMul,Nat.reduceLeDiff,quietOp,blindOp,Int.reduceEq,Int.reduceLT,Int.reduceLE,Nat.reduceLT,ti2,ti3,ti4,ti79,ti80,ti28,ti25,ti31,ti22,ti33,ti24,ti67,ti111,ti145,ti136,ti137,ti117,ti100, h9, h8, h7, h2, h1, h3]
        refine awp_loop (fun z t H4 => ∃ b : Nat, z = (pairsL (rnd l a) n).length - b ∧ b ≤ (pairsL (rnd l a) n).length ∧ t 11 = .int .i64 b ∧ t 10 = p ∧ t 9 = .int .i64 a ∧ t 8 = .slice (some ⟨oi, 0, some 1⟩) n n ∧ t 7 = pu ∧ t 2 = .bool third ∧ t 1 = x ∧ t 3 = .pointer (some ⟨H.next, 0, none⟩) ∧ Up H.next H H4 ∧ H3.next ≤ H4.next ∧ H4.row H.next = some ⟨33, true, [.int .i64 n, v]⟩ ∧
            Fr2 1 28 2 H'.next H3.next H4 p (pairsL (rnd l a) n) ∧ Fr 1 2 plo phi H4 pu n pts ∧ H4.row oi = some ⟨2, true, ints (sumsF n (sumF third pts) (meets n l ll a ++ evRound n a (rnd l a) (ll.getD a []) b))⟩) (pairsL (rnd l a) n).length ?_ ?_
        · refine ⟨0, by omega, by omega, ?_⟩
          try simp (disch := first | omega | (simp only [ints_length, List.length_replicate, List.length_set]; done) | (simp only [ints_length, List.length_replicate, List.length_set]; omega)) only [Sall,evalOp,init,binE,binI,unE,convE,okNil,builtE,gv,TD.isAgg,resV,↓reduceIte,Nat.reduceEqDiff,reduceCtorEq,Nat.reduceAdd,Nat.reduceMul,Nat.reduceLeDiff,quietOp,blindOp,Int.reduceEq,Int.reduceLT,Int.reduceLE,Nat.reduceLT,ti2,ti3,ti4,ti79,ti80,ti28,ti25,ti31,ti22,ti33,ti24,ti67,ti111,ti145,ti136,ti137,ti117,ti100, Int.natCast_zero, evRound_zero, List.append_nil, h9, h8, h7, h2, h1, h3]
          exact ⟨hup.trans up3 hlh, hr3, hp, hf3, hr4⟩
        · rintro z t H4 ⟨b, hz, hbp, h11, h10, h9, h8, h7, h2, h1, h3, hup4, hn4, hr44, hp4, hf4, hr5⟩
          have hpl4 := hp4.rd.len
          try simp (disch := first | omega | (simp only [ints_length, List.length_replicate, List.length_set]; done) | (simp only [ints_length, List.length_replicate, List.length_set]; omega)) only [Sall,evalOp,init,binE,binI,unE,convE,okNil,builtE,gv,TD.isAgg,resV,↓reduceIte,Nat.reduceEqDiff,reduceCtorEq,Nat.reduceAdd,Nat.reduceMul,Nat.reduceLeDiff,quietOp,blindOp,Int.reduceEq,Int.reduceLT,Int.reduceLE,Nat.reduceLT,ti2,ti3,ti4,ti79,ti80,ti28,ti25,ti31,ti22,ti33,ti24,ti67,ti111,ti145,ti136,ti137,ti117,ti100, h11, h10, builtE, hpl4]
          refine condC_dec (fun hh => ?_) (fun hh => ?_)
          · obtain ⟨pi, pvs, px, pm, pb, pc, rfl, q1, q2, q3, q4, q5, q6, q7, q8⟩ := hp4.getF (j := b) (by omega)
            have hpm := q8.lenK1
            obtain ⟨aa, ha1, ha2, ha3⟩ := pairsL_get (rnd l a) n b (by omega)
            obtain ⟨_, ha4, ha5, _⟩ := roundB_at hround (a := aa) (by omega)
            have hmy := hsx.lenK1
            obtain ⟨i5, o5, u5, c5, r5, rfl, gB, g2, g3, _⟩ := hsx.get (by omega)
            have hi5 := hs _ _ gB
            have g1 : H4.row i5 = some r5 := by rw [hup4.row _ hi5, gB]
            have gr : H4.row i = some r := by rw [hup4.row _ hiB, hrB]
            have g4 := g3 b (by omega)
            rw [ha3] at q8 hpm
            simp only [List.length_cons, List.length_nil] at hpm
            obtain rfl : pm = 2 := hpm
            obtain ⟨i6, w1, w2, rfl, w3⟩ := q8.get (by omega)
            obtain ⟨i7, k1, k2, rfl, k3⟩ := hf4.get (by omega)
            have hpl := hf4.1
            have evs0 : meets n l ll a ++ evRound n a (rnd l a) (ll.getD a []) (b + 1) = ((meets n l ll a ++ evRound n a (rnd l a) (ll.getD a []) b) ++ [(a, (aa : Int), (rnd l a).getD aa 0, wonI ((ll.getD a []).getD b 0))]) ++ [(a, (rnd l a).getD aa 0, (aa : Int), 2 - wonI ((ll.getD a []).getD b 0))] := by
              rw [evRound_succ, ha3]; simp [evPair]
            have i0 : (ints [(aa : Int), (rnd l a).getD aa 0])[Int.toNat 0]? = some (.int .i64 aa) := rfl
            have i1 : (ints [(aa : Int), (rnd l a).getD aa 0])[Int.toNat 1]? = some (.int .i64 ((rnd l a).getD aa 0)) := rfl
            have hsl := sumsF_length n (sumF third pts) (meets n l ll a ++ evRound n a (rnd l a) (ll.getD a []) b)
            have evs1 : sumsF n (sumF third pts) (meets n l ll a ++ evRound n a (rnd l a) (ll.getD a []) (b + 1)) = addAt (addAt (sumsF n (sumF third pts) (meets n l ll a ++ evRound n a (rnd l a) (ll.getD a []) b)) aa (sumF third pts ((rnd l a).getD aa 0) (wonI ((ll.getD a []).getD b 0)))) ((rnd l a).getD aa 0) (sumF third pts aa (2 - wonI ((ll.getD a []).getD b 0))) := by
              rw [evs0, sumsF_append, sumsF_append]
            revert hr5 hsl evs1
            generalize sumsF n (sumF third pts) (meets n l ll a ++ evRound n a (rnd l a) (ll.getD a []) b) = A
            intro hr5 hsl evs1
            have ne1 : ¬ pi = oi := by omega
            have ne2 : ¬ i6 = oi := by omega
            have ne3 : ¬ i7 = oi := by omega
            have ne4 : ¬ H.next = oi := by omega
            refine draw_id (by kernel_rfl) (by kernel_rfl) ?_
            try simp (disch := first | omega | (simp only [ints_length, List.length_replicate, List.length_set]; done) | (simp only [ints_length, List.length_replicate, List.length_set]; omega)) only [Sall,evalOp,init,binE,binI,unE,convE,okNil,builtE,gv,TD.isAgg,resV,↓reduceIte,Nat.reduceEqDiff,reduceCtorEq,Nat.reduceAdd,Nat.reduceMul,Nat.reduceLeDiff,quietOp,blindOp,Int.reduceEq,Int.reduceLT,Int.reduceLE,Nat.reduceLT,ti2,ti3,ti4,ti79,ti80,ti28,ti25,ti31,ti22,ti33,ti24,ti67,ti111,ti145,ti136,ti137,ti117,ti100, h11, h10, q3, q5, w3, i0, i1]
            (repeat refine And.intro (by omega) ?_)
            refine Holds.mp ?_
            cases third <;> rw [holds_def]
            · try simp (disch := first | omega | (simp only [ints_length, List.length_replicate, List.length_set]; done) | (simp only [ints_length, List.length_replicate, List.length_set]; omega)) only [Sall,evalOp,init,binE,binI,unE,convE,okNil,builtE,gv,TD.isAgg,resV,↓reduceIte,Nat.reduceEqDiff,reduceCtorEq,Nat.reduceAdd,Nat.reduceMul,Nat.reduceLeDiff,quietOp,blindOp,Int.reduceEq,Int.reduceLT,Int.reduceLE,Nat.reduceLT,ti2,ti3,ti4,ti79,ti80,ti28,ti25,ti31,ti22,ti33,ti24,ti67,ti111,ti145,ti136,ti137,ti117,ti100, h11, h10, h9, h8, h7, h2]
              refine draw_id (by kernel_rfl) (by kernel_rfl) ?_
              try simp (disch := first | omega | (simp only [ints_length, List.length_replicate, List.length_set]; done) | (simp only [ints_length, List.length_replicate, List.length_set]; omega)) only [Sall,evalOp,init,binE,binI,unE,convE,okNil,builtE,gv,TD.isAgg,resV,↓reduceIte,Nat.reduceEqDiff,reduceCtorEq,Nat.reduceAdd,Nat.reduceMul,Nat.reduceLeDiff,quietOp,blindOp,Int.reduceEq,Int.reduceLT,Int.reduceLE,Nat.reduceLT,ti2,ti3,ti4,ti79,ti80,ti28,ti25,ti31,ti22,ti33,ti24,ti67,ti111,ti145,ti136,ti137,ti117,ti100, h8, h7, hr5, k3, ints_get?, ints_set]
              try simp only [List.length_set]
              (repeat refine And.intro (by omega) ?_)
              refine ⟨.inr (.inl (by kernel_rfl)), ?_⟩
              refine Holds.mp ?_
              try simp (disch := first | omega | (simp only [ints_length, List.length_replicate, List.length_set]; done) | (simp only [ints_length, List.length_replicate, List.length_set]; omega)) only [Sall,evalOp,init,binE,binI,unE,convE,okNil,builtE,gv,TD.isAgg,resV,↓reduceIte,Nat.reduceEqDiff,reduceCtorEq,Nat.reduceAdd,Nat.reduceMul,Nat.reduceLeDiff,quietOp,blindOp,Int.reduceEq,Int.reduceLT,Int.reduceLE,Nat.reduceLT,ti2,ti3,ti4,ti79,ti80,ti28,ti25,ti31,ti22,ti33,ti24,ti67,ti111,ti145,ti136,ti137,ti117,ti100, h11, h10, h9, h8, h7, h2, h1, h3]
              refine draw_id (by kernel_rfl) (by kernel_rfl) ?_
              try simp (disch := first | omega | (simp only [ints_length, List.length_replicate, List.length_set]; done) | (simp only [ints_length, List.length_replicate, List.length_set]; omega)) only [Sall,evalOp,init,binE,binI,unE,convE,okNil,builtE,gv,TD.isAgg,resV,↓reduceIte,Nat.reduceEqDiff,reduceCtorEq,Nat.reduceAdd,Nat.reduceMul,Nat.reduceLeDiff,quietOp,blindOp,Int.reduceEq,Int.reduceLT,Int.reduceLE,Nat.reduceLT,ti2,ti3,ti4,ti79,ti80,ti28,ti25,ti31,ti22,ti33,ti24,ti67,ti111,ti145,ti136,ti137,ti117,ti100, h8, h7, hr5, k3, ne3, ints_get?, ints_set]
              try simp only [List.length_set]
              (repeat refine And.intro (by omega) ?_)
              refine ⟨.inr (.inl (by kernel_rfl)), ?_⟩
              refine Holds.mp ?_
              try simp (disch := first | omega | (simp only [ints_length, List.length_replicate, List.length_set]; done) | (simp only [ints_length, List.length_replicate, List.length_set]; omega)) only [Sall,evalOp,init,binE,binI,unE,convE,okNil,builtE,gv,TD.isAgg,resV,↓reduceIte,Nat.reduceEqDiff,reduceCtorEq,Nat.reduceAdd,Nat.reduceMul,Nat.reduceLeDiff,quietOp,blindOp,Int.reduceEq,Int.reduceLT,Int.reduceLE,Nat.reduceLT,ti2,ti3,ti4,ti79,ti80,ti28,ti25,ti31,ti22,ti33,ti24,ti67,ti111,ti145,ti136,ti137,ti117,ti100, h11, h10, h9, h8, h7, h2, h1, h3, w64, ne4]
              refine ⟨(pairsL (rnd l a) n).length - (b + 1), by omega, b + 1, rfl, by omega, by omega, (hup4.set (by omega) _).set (by omega) _, hn4, hr44, hp4.same fun i _ hi => ?_, hf4.same fun i hi1 hi2 => ?_, ?_⟩
              · rw [AH.setCells_row, if_neg (by omega), AH.setCells_row, if_neg (by omega)]
              · rw [AH.setCells_row, if_neg (by omega), AH.setCells_row, if_neg (by omega)]
              · rw [hr5, evs1]; rfl
            · try simp (disch := first | omega | (simp only [ints_length, List.length_replicate, List.length_set]; done) | (simp only [ints_length, List.length_replicate, List.length_set]; omega)) only [Sall,evalOp,init,binE,binI,unE,convE,okNil,builtE,gv,TD.isAgg,resV,↓reduceIte,Nat.reduceEqDiff,reduceCtorEq,Nat.reduceAdd,Nat.reduceMul,Nat.reduceLeDiff,quietOp,blindOp,Int.reduceEq,Int.reduceLT,Int.reduceLE,Nat.reduceLT,ti2,ti3,ti4,ti79,ti80,ti28,ti25,ti31,ti22,ti33,ti24,ti67,ti111,ti145,ti136,ti137,ti117,ti100, h11, h10, h9, h8, h7, h2, h1, ex, gr, hy, hok, g1, g4]
              (repeat refine And.intro (by omega) ?_)
              refine (l10Won_c _ _).to ?_
              try simp (disch := first | omega | (simp only [ints_length, List.length_replicate, List.length_set]; done) | (simp only [ints_length, List.length_replicate, List.length_set]; omega)) only [Sall,evalOp,init,binE,binI,unE,convE,okNil,builtE,gv,TD.isAgg,resV,↓reduceIte,Nat.reduceEqDiff,reduceCtorEq,Nat.reduceAdd,Nat.reduceMul,Nat.reduceLeDiff,quietOp,blindOp,Int.reduceEq,Int.reduceLT,Int.reduceLE,Nat.reduceLT,ti2,ti3,ti4,ti79,ti80,ti28,ti25,ti31,ti22,ti33,ti24,ti67,ti111,ti145,ti136,ti137,ti117,ti100, h11, h10, h9, h8, h7, h2]
              refine draw_id (by kernel_rfl) (by kernel_rfl) ?_
              try simp (disch := first | omega | (simp only [ints_length, List.length_replicate, List.length_set]; done) | (simp only [ints_length, List.length_replicate, List.length_set]; omega)) only [Sall,evalOp,init,binE,binI,unE,convE,okNil,builtE,gv,TD.isAgg,resV,↓reduceIte,Nat.reduceEqDiff,reduceCtorEq,Nat.reduceAdd,Nat.reduceMul,Nat.reduceLeDiff,quietOp,blindOp,Int.reduceEq,Int.reduceLT,Int.reduceLE,Nat.reduceLT,ti2,ti3,ti4,ti79,ti80,ti28,ti25,ti31,ti22,ti33,ti24,ti67,ti111,ti145,ti136,ti137,ti117,ti100, h8, h7, hr5, k3, ints_get?, ints_set]
              try simp only [List.length_set]
              (repeat refine And.intro (by omega) ?_)
              refine ⟨.inr (.inl (by kernel_rfl)), ?_⟩
              refine Holds.mp ?_
              try simp (disch := first | omega | (simp only [ints_length, List.length_replicate, List.length_set]; done) | (simp only [ints_length, List.length_replicate, List.length_set]; omega)) only [Sall,evalOp,init,binE,binI,unE,convE,okNil,builtE,gv,TD.isAgg,resV,↓reduceIte,Nat.reduceEqDiff,reduceCtorEq,Nat.reduceAdd,Nat.reduceMul,Nat.reduceLeDiff,quietOp,blindOp,Int.reduceEq,Int.reduceLT,Int.reduceLE,Nat.reduceLT,ti2,ti3,ti4,ti79,ti80,ti28,ti25,ti31,ti22,ti33,ti24,ti67,ti111,ti145,ti136,ti137,ti117,ti100, h11, h10, h9, h8, h7, h2, h1, h3]
              refine draw_id (by kernel_rfl) (by kernel_rfl) ?_
              try simp (disch := first | omega | (simp only [ints_length, List.length_replicate, List.length_set]; done) | (simp only [ints_length, List.length_replicate, List.length_set]; omega)) only [Sall,evalOp,init,binE,binI,unE,convE,okNil,builtE,gv,TD.isAgg,resV,↓reduceIte,Nat.reduceEqDiff,reduceCtorEq,Nat.reduceAdd,Nat.reduceMul,Nat.reduceLeDiff,quietOp,blindOp,Int.reduceEq,Int.reduceLT,Int.reduceLE,Nat.reduceLT,ti2,ti3,ti4,ti79,ti80,ti28,ti25,ti31,ti22,ti33,ti24,ti67,ti111,ti145,ti136,ti137,ti117,ti100, h8, h7, hr5, k3, ne3, ints_get?, ints_set]
              try simp only [List.length_set]
              (repeat refine And.intro (by omega) ?_)
              refine ⟨.inr (.inl (by kernel_rfl)), ?_⟩
              refine Holds.mp ?_
              try simp (disch := first | omega | (simp only [ints_length, List.length_replicate, List.length_set]; done) | (simp only [ints_length, List.length_replicate, List.length_set]; omega)) only [Sall,evalOp,init,binE,binI,unE,convE,okNil,builtE,gv,TD.isAgg,resV,↓reduceIte,Nat.reduceEqDiff,reduceCtorEq,Nat.reduceAdd,Nat.reduceMul,Nat.reduceLeDiff,quietOp,blindOp,Int.reduceEq,Int.reduceLT,Int.reduceLE,Nat.reduceLT,ti2,ti3,ti4,ti79,ti80,ti28,ti25,ti31,ti22,ti33,ti24,ti67,ti111,ti145,ti136,ti137,ti117,ti100, h11, h10, h9, h8, h7, h2, h1, h3, w64, ne4]
              refine ⟨(pairsL (rnd l a) n).length - (b + 1), by omega, b + 1, rfl, by omega, by omega, (hup4.set (by omega) _).set (by omega) _, hn4, hr44, hp4.same fun i _ hi => ?_, hf4.same fun i hi1 hi2 => ?_, ?_⟩
              · rw [AH.setCells_row, if_neg (by omega), AH.setCells_row, if_neg (by omega)]
              · rw [AH.setCells_row, if_neg (by omega), AH.setCells_row, if_neg (by omega)]
              · rw [hr5, evs1]; rfl
          · try simp (disch := first | omega | (simp only [ints_length, List.length_replicate, List.length_set]; done) | (simp only [ints_length, List.length_replicate, List.length_set]; omega)) only [Sall,evalOp,init,binE,binI,unE,convE,okNil,builtE,gv,TD.isAgg,resV,↓reduceIte,Nat.reduceEqDiff,reduceCtorEq,Nat.reduceAdd,Nat.reduceMul,Nat.reduceLeDiff,quietOp,blindOp,Int.reduceEq,Int.reduceLT,Int.reduceLE,Nat.reduceLT,ti2,ti3,ti4,ti79,ti80,ti28,ti25,ti31,ti22,ti33,ti24,ti67,ti111,ti145,ti136,ti137,ti117,ti100, h9, h8, h7, h2, h1, h3, w64]
            have hbb : b = (pairsL (rnd l a) n).length := by omega
            refine ⟨ll.length - (a + 1), by omega, a + 1, rfl, by omega, by omega, hup4, by omega, hr44, hf4, ?_⟩
            rw [meets_succ, ← hbb]; exact hr5
      · try simp (disch := first | omega | (simp only [ints_length, List.length_replicate, List.length_set]; done) | (simp only [ints_length, List.length_replicate, List.length_set]; omega)) only [Sall,evalOp,init,binE,binI,unE,convE,okNil,builtE,gv,TD.isAgg,resV,↓reduceIte,Nat.reduceEqDiff,reduceCtorEq,Nat.reduceAdd,Nat.reduceMul,Nat.reduceLeDiff,quietOp,blindOp,Int.reduceEq,Int.reduceLT,Int.reduceLE,Nat.reduceLT,ti2,ti3,ti4,ti79,ti80,ti28,ti25,ti31,ti22,ti33,ti24,ti67,ti111,ti145,ti136,ti137,ti117,ti100, h8]
        have ha : a = ll.length := by omega
        subst ha
        exact ⟨hup, (sumsF_length n _ _).trans (Nat.mul_one n).symm, .inr ⟨oi, by omega, by omega, rfl, hr2⟩⟩
end Go.Proofs.Ytbmpkihggipciaa.A
