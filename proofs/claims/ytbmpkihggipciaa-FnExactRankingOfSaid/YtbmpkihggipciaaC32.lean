/- Contracts: the ranking of the teams, the reference's side, and what is asked. -/
import Derived.Test.YtbmpkihggipciaaC31
set_option linter.unusedSimpArgs false
set_option linter.unusedVariables false
set_option maxRecDepth 100000
set_option maxHeartbeats 2000000
--LEN ints_length, List.length_replicate, List.length_set
namespace Go.Proofs.Ytbmpkihggipciaa.A
open Go Go.Abs Go.RowKit

theorem l10Ranking_c (n : Nat) (v : Value) (k : Nat) (l : List Int) (x : Value) (ll : List (List Int)) (ps ss ts : List Int) (H : AH) (hb : schedB n k l = true) (hres : resB n k l ll = true) (hl : ll.length ≤ 4294967296) (hv : Rd 14 H v k l) (hx : Rd2 1 H x ll)
    (hps : ps = sumsF n (fun _ o => o) (meets n l ll ll.length)) (hss : ss = sumsF n (sumF false ps) (meets n l ll ll.length)) (hts : ts = sumsF n (sumF true ps) (meets n l ll ll.length)) :
    ACalls Try.prog 109 [.agg #[.int .i64 n, v], x] H (fun u H' => Up H.next H H' ∧ Fr 1 2 H.next H'.next H' u n (rankL (ahd ps ss ts) n)) := by
  refine ACalls.wf (by kernel_rfl) fun hs => acalls_of_awp [.tmp 4] Try.func109 (by kernel_rfl) rfl rfl (Nat.le_of_ble_eq_true rfl) (by kernel_rfl) ?_
  obtain ⟨hn, _, _⟩ := schedB_at hb
  have hone := hv.one
  have hxone := hx.one
  have hpl : ps.length = n := by rw [hps, sumsF_length]
  have hsl : ss.length = n := by rw [hss, sumsF_length]
  have htl : ts.length = n := by rw [hts, sumsF_length]
  obtain ⟨G, eG⟩ : ∃ G, G = ahd ps ss ts := ⟨_, rfl⟩
  rw [← eG]
  have up : Up H.next H (H.push ⟨33, true, [.int .i64 n, v]⟩) := (Up.refl _ H).push (Nat.le_refl _) _
  have e1 : (H.push ⟨33, true, [.int .i64 n, v]⟩).row H.next = some ⟨33, true, [.int .i64 n, v]⟩ := by rw [AH.push_row, if_pos rfl]
  have n1 : (H.push ⟨33, true, [.int .i64 n, v]⟩).next = H.next + 1 := rfl
  have sc1 : Sc (H.push ⟨33, true, [.int .i64 n, v]⟩) := Sc.push hs _
  try simp (disch := first | omega | (simp only [ints_length, List.length_replicate, List.length_set]; done) | (simp only [ints_length, List.length_replicate, List.length_set]; omega)) only [Sall,evalOp,init,binE,binI,unE,convE,okNil,builtE,gv,TD.isAgg,resV,↓reduceIte,Nat.reduceEqDiff,reduceCtorEq,Nat.reduceAdd,Nat.reduceMul,Nat.reduceLeDiff,quietOp,blindOp,Int.reduceEq,Int.reduceLT,Int.reduceLE,Nat.reduceLT,ti2,ti3,ti4,ti79,ti80,ti28,ti25,ti31,ti22,ti33,ti24,ti67,ti111,ti145,ti136,ti137,ti117,ti100, hone]
  revert up e1 n1 sc1
  generalize H.push ⟨33, true, [.int .i64 n, v]⟩ = H1
  intro up e1 n1 sc1
  have hvU : ∀ H' : AH, Up H1.next H1 H' → Rd 14 H' v k l := fun H' u => hv.same fun i r hr => by
    have hi := hs _ _ hr
    rw [u.row i (by omega), up.row i hi]; exact hr
  have hxU : ∀ H' : AH, Up H1.next H1 H' → Rd2 1 H' x ll := fun H' u => hx.same fun i r hr => by
    have hi := hs _ _ hr
    rw [u.row i (by omega), up.row i hi]; exact hr
  refine draw_in [0, 1, 2, 3, 5, 6, 8, 9, 4, 7, 10, 11, 12, 13] (by kernel_rfl) (by kernel_rfl) (by kernel_rfl) ?_
  try simp (disch := first | omega | (simp only [ints_length, List.length_replicate, List.length_set]; done) | (simp only [ints_length, List.length_replicate, List.length_set]; omega)) only [Sall,evalOp,init,binE,binI,unE,convE,okNil,builtE,gv,TD.isAgg,resV,↓reduceIte,Nat.reduceEqDiff,reduceCtorEq,Nat.reduceAdd,Nat.reduceMul,Nat.reduceLeDiff,quietOp,blindOp,Int.reduceEq,Int.reduceLT,Int.reduceLE,Nat.reduceLT,ti2,ti3,ti4,ti79,ti80,ti28,ti25,ti31,ti22,ti33,ti24,ti67,ti111,ti145,ti136,ti137,ti117,ti100, e1, builtE, hx.len]
  have c1 := l10Points_c n v k l x ll ll.length H1 hb hres (Nat.le_refl _) hl (hvU H1 (Up.refl _ _)) (hxU H1 (Up.refl _ _))
  rw [← hps] at c1
  refine c1.sc.mono ?_
  rintro w1 H2 ⟨⟨up2, f1⟩, sc2⟩
  have n2 := up2.next
  refine ⟨.inr (.inr (up2.le sc1)), ?_⟩
  refine Holds.mp ?_
  try simp (disch := first | omega | (simp only [ints_length, List.length_replicate, List.length_set]; done) | (simp only [ints_length, List.length_replicate, List.length_set]; omega)) only [Sall,evalOp,init,binE,binI,unE,convE,okNil,builtE,gv,TD.isAgg,resV,↓reduceIte,Nat.reduceEqDiff,reduceCtorEq,Nat.reduceAdd,Nat.reduceMul,Nat.reduceLeDiff,quietOp,blindOp,Int.reduceEq,Int.reduceLT,Int.reduceLE,Nat.reduceLT,ti2,ti3,ti4,ti79,ti80,ti28,ti25,ti31,ti22,ti33,ti24,ti67,ti111,ti145,ti136,ti137,ti117,ti100, true_and]
  have c2 := l10Sums_c n v k l x ll false H2 hb hres hl (hvU H2 up2) (hxU H2 up2)
  rw [← hps, ← hss] at c2
  refine c2.sc.mono ?_
  rintro w2 H3 ⟨⟨up3, f2⟩, sc3⟩
  have n3 := up3.next
  refine ⟨.inr (.inr (up3.le sc2)), ?_⟩
  refine Holds.mp ?_
  try simp (disch := first | omega | (simp only [ints_length, List.length_replicate, List.length_set]; done) | (simp only [ints_length, List.length_replicate, List.length_set]; omega)) only [Sall,evalOp,init,binE,binI,unE,convE,okNil,builtE,gv,TD.isAgg,resV,↓reduceIte,Nat.reduceEqDiff,reduceCtorEq,Nat.reduceAdd,Nat.reduceMul,Nat.reduceLeDiff,quietOp,blindOp,Int.reduceEq,Int.reduceLT,Int.reduceLE,Nat.reduceLT,ti2,ti3,ti4,ti79,ti80,ti28,ti25,ti31,ti22,ti33,ti24,ti67,ti111,ti145,ti136,ti137,ti117,ti100, true_and]
  have c3 := l10Sums_c n v k l x ll true H3 hb hres hl (hvU H3 (up2.trans up3 (by omega))) (hxU H3 (up2.trans up3 (by omega)))
  rw [← hps, ← hts] at c3
  refine c3.sc.mono ?_
  rintro w3 H4 ⟨⟨up4, f3⟩, sc4⟩
  have n4 := up4.next
  refine ⟨.inr (.inr (up4.le sc3)), ?_⟩
  have u4 : Up H1.next H1 H4 := (up2.trans up3 (by omega)).trans up4 (by omega)
  have e4 : H4.row H.next = some ⟨33, true, [.int .i64 n, v]⟩ := by rw [u4.row _ (by omega), e1]
  have g1 : Fr 1 2 H1.next H2.next H4 w1 n ps := f1.same fun i _ hi => by rw [up4.row i (by omega), up3.row i (by omega)]
  have g2 : Fr 1 2 H2.next H3.next H4 w2 n ss := f2.same fun i _ hi => by rw [up4.row i (by omega)]
  refine Holds.mp ?_
  obtain ⟨y1, a1, b1, ew1, r1⟩ := g1.get (by omega)
  obtain ⟨y2, a2, b2, ew2, r2⟩ := g2.get (by omega)
  obtain ⟨y3, a3, b3, ew3, r3⟩ := f3.get (by omega)
  try simp (disch := first | omega | (simp only [ints_length, List.length_replicate, List.length_set]; done) | (simp only [ints_length, List.length_replicate, List.length_set]; omega)) only [Sall,evalOp,init,binE,binI,unE,convE,okNil,builtE,gv,TD.isAgg,resV,↓reduceIte,Nat.reduceEqDiff,reduceCtorEq,Nat.reduceAdd,Nat.reduceMul,Nat.reduceLeDiff,quietOp,blindOp,Int.reduceEq,Int.reduceLT,Int.reduceLE,Nat.reduceLT,ti2,ti3,ti4,ti79,ti80,ti28,ti25,ti31,ti22,ti33,ti24,ti67,ti111,ti145,ti136,ti137,ti117,ti100, zeros_zero]
  refine awp_loop (fun m t H' => ∃ (a : Nat) (u : Value) (lo : Nat), m = n - a ∧ a ≤ n ∧ t 9 = .int .i64 a ∧ t 8 = u ∧ t 5 = w1 ∧ t 6 = w2 ∧ t 7 = w3 ∧ t 2 = .pointer (some ⟨H.next, 0, none⟩) ∧ Up H4.next H4 H' ∧ H4.next ≤ lo ∧ Fr 1 2 lo H'.next H' u a (rankL G a)) n ?_ ?_
  · refine ⟨0, .slice (some ⟨H4.next, 0, some 1⟩) 0 0, H4.next, by omega, by omega, ?_⟩
    try simp (disch := first | omega | (simp only [ints_length, List.length_replicate, List.length_set]; done) | (simp only [ints_length, List.length_replicate, List.length_set]; omega)) only [Sall,evalOp,init,binE,binI,unE,convE,okNil,builtE,gv,TD.isAgg,resV,↓reduceIte,Nat.reduceEqDiff,reduceCtorEq,Nat.reduceAdd,Nat.reduceMul,Nat.reduceLeDiff,quietOp,blindOp,Int.reduceEq,Int.reduceLT,Int.reduceLE,Nat.reduceLT,ti2,ti3,ti4,ti79,ti80,ti28,ti25,ti31,ti22,ti33,ti24,ti67,ti111,ti145,ti136,ti137,ti117,ti100, Int.natCast_zero]
    exact ⟨(Up.refl _ H4).push (Nat.le_refl _) _, rfl, .inr ⟨H4.next, by omega, by omega, rfl, by rw [AH.push_row, if_pos rfl]; rfl⟩⟩
  · rintro m t H' ⟨a, u, lo, hm, han, h9, h8, h5, h6, h7, h2, hup, hlo, hfr⟩
    have hup1 := hup.next
    have e5 : H'.row H.next = some ⟨33, true, [.int .i64 n, v]⟩ := by rw [hup.row _ (by omega), e4]
    try simp (disch := first | omega | (simp only [ints_length, List.length_replicate, List.length_set]; done) | (simp only [ints_length, List.length_replicate, List.length_set]; omega)) only [Sall,evalOp,init,binE,binI,unE,convE,okNil,builtE,gv,TD.isAgg,resV,↓reduceIte,Nat.reduceEqDiff,reduceCtorEq,Nat.reduceAdd,Nat.reduceMul,Nat.reduceLeDiff,quietOp,blindOp,Int.reduceEq,Int.reduceLT,Int.reduceLE,Nat.reduceLT,ti2,ti3,ti4,ti79,ti80,ti28,ti25,ti31,ti22,ti33,ti24,ti67,ti111,ti145,ti136,ti137,ti117,ti100, h9, h2, e5]
    refine condC_dec (fun h => ?_) (fun h => ?_)
    · have hla := rankL_length G a
      have zz : zeros 1 [.int .i64 0] = [.int .i64 0] := rfl
      have hflen := hfr.rd.len
      try simp (disch := first | omega | (simp only [ints_length, List.length_replicate, List.length_set]; done) | (simp only [ints_length, List.length_replicate, List.length_set]; omega)) only [Sall,evalOp,init,binE,binI,unE,convE,okNil,builtE,gv,TD.isAgg,resV,↓reduceIte,Nat.reduceEqDiff,reduceCtorEq,Nat.reduceAdd,Nat.reduceMul,Nat.reduceLeDiff,quietOp,blindOp,Int.reduceEq,Int.reduceLT,Int.reduceLE,Nat.reduceLT,ti2,ti3,ti4,ti79,ti80,ti28,ti25,ti31,ti22,ti33,ti24,ti67,ti111,ti145,ti136,ti137,ti117,ti100, h9, h8, h2, builtE, hflen, zz, slCells]
      obtain ⟨H6, e6⟩ : ∃ H6, H6 = H'.push ⟨2, true, [.int .i64 a]⟩ := ⟨_, rfl⟩
      have n6 : H6.next = H'.next + 1 := by rw [e6]; rfl
      have s6 : ∀ i, i < H'.next → H6.row i = H'.row i := fun i hi => by rw [e6, AH.push_row, if_neg (by omega)]
      rw [← e6]
      clear e6
      refine appE_fr (k := 1) (lo := lo) (hi := H'.next) (l := rankL G a) (m := [(a : Int)]) (hfr.same fun i _ hi => s6 i (by omega)) rfl (by omega) rfl (by omega) (by decide) (by omega) (by omega) ?_
      intro v' H7 n7 s7 f7
      have hend := insAt_end (rankL G a) (a : Int)
      rw [hla] at hend
      rw [← hend] at f7
      obtain ⟨oi, p1, p2, rfl, p3⟩ := f7.get (by omega)
      have up7 : Up H4.next H4 H7 := ⟨by omega, fun i hi => by rw [s7 i (by omega) (by omega), s6 i (by omega), hup.row i hi]⟩
      try simp (disch := first | omega | (simp only [ints_length, List.length_replicate, List.length_set]; done) | (simp only [ints_length, List.length_replicate, List.length_set]; omega)) only [Sall,evalOp,init,binE,binI,unE,convE,okNil,builtE,gv,TD.isAgg,resV,↓reduceIte,Nat.reduceEqDiff,reduceCtorEq,Nat.reduceAdd,Nat.reduceMul,Nat.reduceLeDiff,quietOp,blindOp,Int.reduceEq,Int.reduceLT,Int.reduceLE,Nat.reduceLT,ti2,ti3,ti4,ti79,ti80,ti28,ti25,ti31,ti22,ti33,ti24,ti67,ti111,ti145,ti136,ti137,ti117,ti100, h9, h5, h6, h7, h2]
      refine awp_loop (fun z t H8 => ∃ (j : Nat) (y : Int), z = j ∧ j ≤ a ∧ bubAt G (rankL G a) a a = bubAt G (rankL G a) a j ∧ t 10 = .int .i64 j ∧ t 9 = .int .i64 a ∧ t 8 = .slice (some ⟨oi, 0, some 1⟩) (a + 1) (a + 1) ∧ t 5 = w1 ∧ t 6 = w2 ∧ t 7 = w3 ∧ t 2 = .pointer (some ⟨H.next, 0, none⟩) ∧ Up H4.next H4 H8 ∧ oi < H8.next ∧ H8.row oi = some ⟨2, true, ints (insAt (rankL G a) j y)⟩) a ?_ ?_
      · refine ⟨a, a, rfl, Nat.le_refl _, rfl, ?_⟩
        try simp (disch := first | omega | (simp only [ints_length, List.length_replicate, List.length_set]; done) | (simp only [ints_length, List.length_replicate, List.length_set]; omega)) only [Sall,evalOp,init,binE,binI,unE,convE,okNil,builtE,gv,TD.isAgg,resV,↓reduceIte,Nat.reduceEqDiff,reduceCtorEq,Nat.reduceAdd,Nat.reduceMul,Nat.reduceLeDiff,quietOp,blindOp,Int.reduceEq,Int.reduceLT,Int.reduceLE,Nat.reduceLT,ti2,ti3,ti4,ti79,ti80,ti28,ti25,ti31,ti22,ti33,ti24,ti67,ti111,ti145,ti136,ti137,ti117,ti100, h9, h5, h6, h7, h2]
        exact ⟨up7, by omega, p3⟩
      · rintro z t H8 ⟨j, y, hz, hja, hbub, h10, h9, h8, h5, h6, h7, h2, u8, o8, r8⟩
        have n8 := u8.next
        have hil : (insAt (rankL G a) j y).length = a + 1 := by rw [insAt_length (by omega), hla]
        try simp (disch := first | omega | (simp only [ints_length, List.length_replicate, List.length_set]; done) | (simp only [ints_length, List.length_replicate, List.length_set]; omega)) only [Sall,evalOp,init,binE,binI,unE,convE,okNil,builtE,gv,TD.isAgg,resV,↓reduceIte,Nat.reduceEqDiff,reduceCtorEq,Nat.reduceAdd,Nat.reduceMul,Nat.reduceLeDiff,quietOp,blindOp,Int.reduceEq,Int.reduceLT,Int.reduceLE,Nat.reduceLT,ti2,ti3,ti4,ti79,ti80,ti28,ti25,ti31,ti22,ti33,ti24,ti67,ti111,ti145,ti136,ti137,ti117,ti100, h10]
        refine condC_dec (fun h => ?_) (fun h => ?_)
        · have q1 : H8.row y1 = some ⟨2, true, ints ps⟩ := by rw [u8.row _ (by omega)]; exact r1
          have q2 : H8.row y2 = some ⟨2, true, ints ss⟩ := by rw [u8.row _ (by omega)]; exact r2
          have q3 : H8.row y3 = some ⟨2, true, ints ts⟩ := by rw [u8.row _ (by omega)]; exact r3
          have gb := insAt_get (show j - 1 < j by omega) (show j ≤ (rankL G a).length by omega) y
          have gr := rankL_get G a (j - 1) (by omega)
          have gset := insAt_set (show j ≤ (rankL G a).length by omega) ((rankL G a).getD (j - 1) 0) y
          have gstep := insAt_step (l := rankL G a) (j := j - 1) (by omega)
          have gby := bubAt_yes (g := G) (l := rankL G a) (x := (a : Int)) (j := j - 1)
          have gbn := bubAt_no (g := G) (l := rankL G a) (x := (a : Int)) (j := j - 1)
          rw [show j - 1 + 1 = j by omega] at gstep gby gbn
          have e2 : (ints (insAt (rankL G a) j y))[j - 1]? = some (.int .i64 ((rankL G a).getD (j - 1) 0)) := by
            rw [ints_get? _ _ (by omega), gb]
          revert gr gset gstep gby gbn e2
          generalize (rankL G a).getD (j - 1) 0 = bI
          intro gr gset gstep gby gbn e2
          obtain ⟨bN, rfl⟩ : ∃ bN : Nat, bI = bN := ⟨bI.toNat, by omega⟩
          have hjm : ((j : Int) - 1).toNat = j - 1 := by omega
          have ga1 := ints_get? ps a (by omega)
          have ga2 := ints_get? ss a (by omega)
          have ga3 := ints_get? ts a (by omega)
          have gb1 := ints_get? ps bN (by omega)
          have gb2 := ints_get? ss bN (by omega)
          have gb3 := ints_get? ts bN (by omega)
          have eg : G a bN = (decide (ps.getD bN 0 < ps.getD a 0) || (decide (ps.getD a 0 = ps.getD bN 0) && (decide (ss.getD bN 0 < ss.getD a 0) || (decide (ss.getD a 0 = ss.getD bN 0) && decide (ts.getD bN 0 < ts.getD a 0))))) := by
            rw [eG]; rfl
          revert ga1 ga2 ga3 gb1 gb2 gb3 eg
          generalize ps.getD a 0 = pa
          generalize ps.getD bN 0 = pb
          generalize ss.getD a 0 = sa
          generalize ss.getD bN 0 = sb
          generalize ts.getD a 0 = ta
          generalize ts.getD bN 0 = tb
          intro ga1 ga2 ga3 gb1 gb2 gb3 eg
          try simp (disch := first | omega | (simp only [ints_length, List.length_replicate, List.length_set]; done) | (simp only [ints_length, List.length_replicate, List.length_set]; omega)) only [Sall,evalOp,init,binE,binI,unE,convE,okNil,builtE,gv,TD.isAgg,resV,↓reduceIte,Nat.reduceEqDiff,reduceCtorEq,Nat.reduceAdd,Nat.reduceMul,Nat.reduceLeDiff,quietOp,blindOp,Int.reduceEq,Int.reduceLT,Int.reduceLE,Nat.reduceLT,ti2,ti3,ti4,ti79,ti80,ti28,ti25,ti31,ti22,ti33,ti24,ti67,ti111,ti145,ti136,ti137,ti117,ti100, h8, r8, h10, e2, hjm, w64]
          (repeat refine And.intro (by omega) ?_)
          refine awp_cutQ (fun t H9 => t 12 = .bool (G a bN) ∧ t 11 = .int .i64 bN ∧ t 10 = .int .i64 j ∧ t 9 = .int .i64 a ∧ t 8 = .slice (some ⟨oi, 0, some 1⟩) (a + 1) (a + 1) ∧ t 5 = w1 ∧ t 6 = w2 ∧ t 7 = w3 ∧ t 2 = .pointer (some ⟨H.next, 0, none⟩) ∧ H9 = H8) ?_ ?_
          · refine draw_id (by kernel_rfl) (by kernel_rfl) ?_
            rw [eg]
            by_cases c1 : pb < pa
            · try simp (disch := first | omega | (simp only [ints_length, List.length_replicate, List.length_set]; done) | (simp only [ints_length, List.length_replicate, List.length_set]; omega)) only [Sall,evalOp,init,binE,binI,unE,convE,okNil,builtE,gv,TD.isAgg,resV,↓reduceIte,Nat.reduceEqDiff,reduceCtorEq,Nat.reduceAdd,Nat.reduceMul,Nat.reduceLeDiff,quietOp,blindOp,Int.reduceEq,Int.reduceLT,Int.reduceLE,Nat.reduceLT,ti2,ti3,ti4,ti79,ti80,ti28,ti25,ti31,ti22,ti33,ti24,ti67,ti111,ti145,ti136,ti137,ti117,ti100, h9, h5, h6, h7, h2, h8, h10, ew1, ew2, ew3, q1, q2, q3, ga1, ga2, ga3, gb1, gb2, gb3, c1, decide_true, Bool.true_or]
              omega
            · by_cases c2 : pa = pb
              · have k2 : (pa == pb) = true := by rw [c2]; exact beq_self_eq_true _
                have d2 := decide_eq_true c2
                by_cases c3 : sb < sa
                · try simp (disch := first | omega | (simp only [ints_length, List.length_replicate, List.length_set]; done) | (simp only [ints_length, List.length_replicate, List.length_set]; omega)) only [Sall,evalOp,init,binE,binI,unE,convE,okNil,builtE,gv,TD.isAgg,resV,↓reduceIte,Nat.reduceEqDiff,reduceCtorEq,Nat.reduceAdd,Nat.reduceMul,Nat.reduceLeDiff,quietOp,blindOp,Int.reduceEq,Int.reduceLT,Int.reduceLE,Nat.reduceLT,ti2,ti3,ti4,ti79,ti80,ti28,ti25,ti31,ti22,ti33,ti24,ti67,ti111,ti145,ti136,ti137,ti117,ti100, h9, h5, h6, h7, h2, h8, h10, ew1, ew2, ew3, q1, q2, q3, ga1, ga2, ga3, gb1, gb2, gb3, c1, k2, d2, c3, decide_true, decide_false, Bool.true_or, Bool.false_or, Bool.true_and]
                  omega
                · by_cases c4 : sa = sb
                  · have k4 : (sa == sb) = true := by rw [c4]; exact beq_self_eq_true _
                    have d4 := decide_eq_true c4
                    try simp (disch := first | omega | (simp only [ints_length, List.length_replicate, List.length_set]; done) | (simp only [ints_length, List.length_replicate, List.length_set]; omega)) only [Sall,evalOp,init,binE,binI,unE,convE,okNil,builtE,gv,TD.isAgg,resV,↓reduceIte,Nat.reduceEqDiff,reduceCtorEq,Nat.reduceAdd,Nat.reduceMul,Nat.reduceLeDiff,quietOp,blindOp,Int.reduceEq,Int.reduceLT,Int.reduceLE,Nat.reduceLT,ti2,ti3,ti4,ti79,ti80,ti28,ti25,ti31,ti22,ti33,ti24,ti67,ti111,ti145,ti136,ti137,ti117,ti100, h9, h5, h6, h7, h2, h8, h10, ew1, ew2, ew3, q1, q2, q3, ga1, ga2, ga3, gb1, gb2, gb3, c1, k2, d2, c3, k4, d4, decide_true, decide_false, Bool.true_or, Bool.false_or, Bool.true_and]
                    omega
                  · have k4 : (sa == sb) = false := by rw [beq_eq_false_iff_ne]; exact c4
                    have d4 := decide_eq_false c4
                    try simp (disch := first | omega | (simp only [ints_length, List.length_replicate, List.length_set]; done) | (simp only [ints_length, List.length_replicate, List.length_set]; omega)) only [Sall,evalOp,init,binE,binI,unE,convE,okNil,builtE,gv,TD.isAgg,resV,↓reduceIte,Nat.reduceEqDiff,reduceCtorEq,Nat.reduceAdd,Nat.reduceMul,Nat.reduceLeDiff,quietOp,blindOp,Int.reduceEq,Int.reduceLT,Int.reduceLE,Nat.reduceLT,ti2,ti3,ti4,ti79,ti80,ti28,ti25,ti31,ti22,ti33,ti24,ti67,ti111,ti145,ti136,ti137,ti117,ti100, h9, h5, h6, h7, h2, h8, h10, ew1, ew2, ew3, q1, q2, q3, ga1, ga2, ga3, gb1, gb2, gb3, c1, k2, d2, c3, k4, d4, decide_true, decide_false, Bool.true_or, Bool.false_or, Bool.true_and, Bool.false_and]
                    omega
              · have k2 : (pa == pb) = false := by rw [beq_eq_false_iff_ne]; exact c2
                have d2 := decide_eq_false c2
                try simp (disch := first | omega | (simp only [ints_length, List.length_replicate, List.length_set]; done) | (simp only [ints_length, List.length_replicate, List.length_set]; omega)) only [Sall,evalOp,init,binE,binI,unE,convE,okNil,builtE,gv,TD.isAgg,resV,↓reduceIte,Nat.reduceEqDiff,reduceCtorEq,Nat.reduceAdd,Nat.reduceMul,Nat.reduceLeDiff,quietOp,blindOp,Int.reduceEq,Int.reduceLT,Int.reduceLE,Nat.reduceLT,ti2,ti3,ti4,ti79,ti80,ti28,ti25,ti31,ti22,ti33,ti24,ti67,ti111,ti145,ti136,ti137,ti117,ti100, h9, h5, h6, h7, h2, h8, h10, ew1, ew2, ew3, q1, q2, q3, ga1, ga2, ga3, gb1, gb2, gb3, c1, k2, d2, decide_true, decide_false, Bool.true_or, Bool.false_or, Bool.true_and, Bool.false_and]
                omega
          · rintro t H9 ⟨h12, h11, h10, h9, h8, h5, h6, h7, h2, rfl⟩
            cases hg : G a bN with
            | true =>
              rw [hg] at h12
              try simp (disch := first | omega | (simp only [ints_length, List.length_replicate, List.length_set]; done) | (simp only [ints_length, List.length_replicate, List.length_set]; omega)) only [Sall,evalOp,init,binE,binI,unE,convE,okNil,builtE,gv,TD.isAgg,resV,↓reduceIte,Nat.reduceEqDiff,reduceCtorEq,Nat.reduceAdd,Nat.reduceMul,Nat.reduceLeDiff,quietOp,blindOp,Int.reduceEq,Int.reduceLT,Int.reduceLE,Nat.reduceLT,ti2,ti3,ti4,ti79,ti80,ti28,ti25,ti31,ti22,ti33,ti24,ti67,ti111,ti145,ti136,ti137,ti117,ti100, h12, Bool.not_true, h8, h10, h11, r8, w64]
              (repeat refine And.intro (by omega) ?_)
              refine ⟨j - 1, by omega, j - 1, bN, rfl, by omega, by rw [hbub, gby hg], by omega, h9, h5, h6, h7, h2, u8.set (by omega) _, o8, ?_⟩
              rw [ints_set, gset, gstep]
            | false =>
              rw [hg] at h12
              try simp (disch := first | omega | (simp only [ints_length, List.length_replicate, List.length_set]; done) | (simp only [ints_length, List.length_replicate, List.length_set]; omega)) only [Sall,evalOp,init,binE,binI,unE,convE,okNil,builtE,gv,TD.isAgg,resV,↓reduceIte,Nat.reduceEqDiff,reduceCtorEq,Nat.reduceAdd,Nat.reduceMul,Nat.reduceLeDiff,quietOp,blindOp,Int.reduceEq,Int.reduceLT,Int.reduceLE,Nat.reduceLT,ti2,ti3,ti4,ti79,ti80,ti28,ti25,ti31,ti22,ti33,ti24,ti67,ti111,ti145,ti136,ti137,ti117,ti100, h12, Bool.not_false, h8, h10, h9, r8, w64]
              (repeat refine And.intro (by omega) ?_)
              have hset := insAt_set (show j ≤ (rankL G a).length by omega) (a : Int) y
              refine ⟨n - (a + 1), by omega, a + 1, _, oi, rfl, by omega, by omega, rfl, h5, h6, h7, h2, u8.set (by omega) _, by omega, by rw [rankL_length]; omega, .inr ⟨oi, Nat.le_refl _, o8, rfl, ?_⟩⟩
              rw [ints_set, hset, rankL_succ, hbub, gbn hg, AH.setCells_row, if_pos rfl, r8]
              rfl
        · have hj0 : j = 0 := by omega
          subst hj0
          try simp (disch := first | omega | (simp only [ints_length, List.length_replicate, List.length_set]; done) | (simp only [ints_length, List.length_replicate, List.length_set]; omega)) only [Sall,evalOp,init,binE,binI,unE,convE,okNil,builtE,gv,TD.isAgg,resV,↓reduceIte,Nat.reduceEqDiff,reduceCtorEq,Nat.reduceAdd,Nat.reduceMul,Nat.reduceLeDiff,quietOp,blindOp,Int.reduceEq,Int.reduceLT,Int.reduceLE,Nat.reduceLT,ti2,ti3,ti4,ti79,ti80,ti28,ti25,ti31,ti22,ti33,ti24,ti67,ti111,ti145,ti136,ti137,ti117,ti100, h8, h10, h9, r8, w64]
          (repeat refine And.intro (by omega) ?_)
          have hset := insAt_set (show 0 ≤ (rankL G a).length by omega) (a : Int) y
          refine ⟨n - (a + 1), by omega, a + 1, _, oi, rfl, by omega, by omega, rfl, h5, h6, h7, h2, u8.set (by omega) _, by omega, by rw [rankL_length]; omega, .inr ⟨oi, Nat.le_refl _, o8, rfl, ?_⟩⟩
          rw [ints_set, hset, rankL_succ, hbub, bubAt_zero, AH.setCells_row, if_pos rfl, r8]
          rfl
    · have ha : a = n := by omega
      subst ha
      try simp (disch := first | omega | (simp only [ints_length, List.length_replicate, List.length_set]; done) | (simp only [ints_length, List.length_replicate, List.length_set]; omega)) only [Sall,evalOp,init,binE,binI,unE,convE,okNil,builtE,gv,TD.isAgg,resV,↓reduceIte,Nat.reduceEqDiff,reduceCtorEq,Nat.reduceAdd,Nat.reduceMul,Nat.reduceLeDiff,quietOp,blindOp,Int.reduceEq,Int.reduceLT,Int.reduceLE,Nat.reduceLT,ti2,ti3,ti4,ti79,ti80,ti28,ti25,ti31,ti22,ti33,ti24,ti67,ti111,ti145,ti136,ti137,ti117,ti100, h8]
      refine ⟨⟨by omega, fun i hi => by rw [hup.row i (by omega), u4.row i (by omega), up.row i hi]⟩, hfr.wide (by omega) (Nat.le_refl _)⟩

def rankR (q : Int) (k : Nat) (l : List Int) (ll : List (List Int)) : List Int :=
  if schedB q k l = true ∧ resB q.toNat k l ll = true then
    rankL (ahd (sumsF q.toNat (fun _ o => o) (meets q.toNat l ll ll.length)) (sumsF q.toNat (sumF false (sumsF q.toNat (fun _ o => o) (meets q.toNat l ll ll.length))) (meets q.toNat l ll ll.length)) (sumsF q.toNat (sumF true (sumsF q.toNat (fun _ o => o) (meets q.toNat l ll ll.length))) (meets q.toNat l ll ll.length))) q.toNat
  else []
theorem rankR_length (q : Int) (k : Nat) (l : List Int) (ll : List (List Int)) : (rankR q k l ll).length ≤ 14 := by
  unfold rankR
  split
  · rename_i h
    obtain ⟨h2, _, _⟩ := schedB_at h.1
    rw [rankL_length]
    omega
  · simp

theorem specRankingOf_c (q : Int) (v : Value) (k : Nat) (l : List Int) (x : Value) (ll : List (List Int)) (H : AH) (hv : Rd 14 H v k l) (hk : k ≤ 4294967296) (hx : Rd2 1 H x ll) (hl : ll.length ≤ 4294967296) (hl2 : ∀ y ∈ ll, y.length ≤ 4294967296) :
    ACalls Try.prog 51 [.agg #[.int .i64 q, v], x] H (fun r H' => ∃ u, r = .tuple #[u, .int .i64 (codeS q k l (resB q.toNat k l ll))] ∧ Up H.next H H' ∧ Fr 1 2 H.next H'.next H' u (rankR q k l ll).length (rankR q k l ll)) := by
  refine ACalls.wf (by kernel_rfl) fun hs => acalls_of_awp [.tmp 4, .tmp 5] Try.func51 (by kernel_rfl) rfl rfl (Nat.le_of_ble_eq_true rfl) (by kernel_rfl) ?_
  have hone := hv.one
  have up : Up H.next H (H.push ⟨33, true, [.int .i64 q, v]⟩) := (Up.refl _ H).push (Nat.le_refl _) _
  have e1 : (H.push ⟨33, true, [.int .i64 q, v]⟩).row H.next = some ⟨33, true, [.int .i64 q, v]⟩ := by rw [AH.push_row, if_pos rfl]
  have n1 : (H.push ⟨33, true, [.int .i64 q, v]⟩).next = H.next + 1 := rfl
  try simp (disch := first | omega | (simp only [ints_length, List.length_replicate, List.length_set]; done) | (simp only [ints_length, List.length_replicate, List.length_set]; omega)) only [Sall,evalOp,init,binE,binI,unE,convE,okNil,builtE,gv,TD.isAgg,resV,↓reduceIte,Nat.reduceEqDiff,reduceCtorEq,Nat.reduceAdd,Nat.reduceMul,Nat.reduceLeDiff,quietOp,blindOp,Int.reduceEq,Int.reduceLT,Int.reduceLE,Nat.reduceLT,ti2,ti3,ti4,ti79,ti80,ti28,ti25,ti31,ti22,ti33,ti24,ti67,ti111,ti145,ti136,ti137,ti117,ti100, hone]
  revert up e1 n1
  generalize H.push ⟨33, true, [.int .i64 q, v]⟩ = H1
  intro up e1 n1
  have hv1 := hv.same (up.le hs).row
  have hx1 := hx.same (up.le hs).row
  refine (l10Code_c q v k l x ll (.slice none 0 0) 0 [] H1 hv1 hk hx1 hl hl2 (fr_nil 0 0 0 _).rd (by omega)).to ?_
  rw [show (resB q.toNat k l ll && (List.range 0).all fun i => decide (0 ≤ ([] : List Int).getD i 0 ∧ ([] : List Int).getD i 0 ≤ q - 1)) = resB q.toNat k l ll from Bool.and_true _]
  by_cases hok : schedB q k l = true ∧ resB q.toNat k l ll = true
  · obtain ⟨hb, hres⟩ := hok
    obtain ⟨h2, _, _⟩ := schedB_at hb
    obtain ⟨n, rfl⟩ : ∃ n : Nat, q = n := ⟨q.toNat, by omega⟩
    unfold rankR
    rw [if_pos ⟨hb, hres⟩, codeS_yes hb hres]
    rw [Int.toNat_natCast] at hres ⊢
    try simp (disch := first | omega | (simp only [ints_length, List.length_replicate, List.length_set]; done) | (simp only [ints_length, List.length_replicate, List.length_set]; omega)) only [Sall,evalOp,init,binE,binI,unE,convE,okNil,builtE,gv,TD.isAgg,resV,↓reduceIte,Nat.reduceEqDiff,reduceCtorEq,Nat.reduceAdd,Nat.reduceMul,Nat.reduceLeDiff,quietOp,blindOp,Int.reduceEq,Int.reduceLT,Int.reduceLE,Nat.reduceLT,ti2,ti3,ti4,ti79,ti80,ti28,ti25,ti31,ti22,ti33,ti24,ti67,ti111,ti145,ti136,ti137,ti117,ti100, bne_self_eq_false, e1, builtE, hx1.len]
    refine (l10Ranking_c n v k l x ll _ _ _ H1 hb hres hl hv1 hx1 rfl rfl rfl).mono ?_
    rintro u H2 ⟨up2, hf⟩
    have hu := hf.rd.one
    refine Holds.mp ?_
    try simp (disch := first | omega | (simp only [ints_length, List.length_replicate, List.length_set]; done) | (simp only [ints_length, List.length_replicate, List.length_set]; omega)) only [Sall,evalOp,init,binE,binI,unE,convE,okNil,builtE,gv,TD.isAgg,resV,↓reduceIte,Nat.reduceEqDiff,reduceCtorEq,Nat.reduceAdd,Nat.reduceMul,Nat.reduceLeDiff,quietOp,blindOp,Int.reduceEq,Int.reduceLT,Int.reduceLE,Nat.reduceLT,ti2,ti3,ti4,ti79,ti80,ti28,ti25,ti31,ti22,ti33,ti24,ti67,ti111,ti145,ti136,ti137,ti117,ti100, hu]
    refine ⟨u, rfl, up.trans up2 (by omega), ?_⟩
    rw [rankL_length]
    exact hf.wide (by omega) (Nat.le_refl _)
  · have ec := codeS_no hok
    unfold rankR
    rw [if_neg hok]
    try simp (disch := first | omega | (simp only [ints_length, List.length_replicate, List.length_set]; done) | (simp only [ints_length, List.length_replicate, List.length_set]; omega)) only [Sall,evalOp,init,binE,binI,unE,convE,okNil,builtE,gv,TD.isAgg,resV,↓reduceIte,Nat.reduceEqDiff,reduceCtorEq,Nat.reduceAdd,Nat.reduceMul,Nat.reduceLeDiff,quietOp,blindOp,Int.reduceEq,Int.reduceLT,Int.reduceLE,Nat.reduceLT,ti2,ti3,ti4,ti79,ti80,ti28,ti25,ti31,ti22,ti33,ti24,ti67,ti111,ti145,ti136,ti137,ti117,ti100, ec]
    exact ⟨_, rfl, up, fr_nil _ _ _ _⟩

theorem RankingOf_c (q : Int) (v : Value) (k : Nat) (l : List Int) (x : Value) (ll : List (List Int)) (H : AH) (hv : Rd 14 H v k l) (hk : k ≤ 4294967296) (hx : Rd2 1 H x ll) (hl : ll.length ≤ 4294967296) (hl2 : ∀ y ∈ ll, y.length ≤ 4294967296) :
    ACalls Try.prog 52 [.agg #[.int .i64 q, v], x] H (fun r H' => ∃ u, r = .tuple #[u, .int .i64 (codeS q k l (resB q.toNat k l ll))] ∧ Up H.next H H' ∧ Fr 1 2 H.next H'.next H' u (rankR q k l ll).length (rankR q k l ll)) := by
  refine ACalls.wf (by kernel_rfl) fun hs => acalls_of_awp [.tmp 4, .tmp 5] Try.func52 (by kernel_rfl) rfl rfl (Nat.le_of_ble_eq_true rfl) (by kernel_rfl) ?_
  have hone := hv.one
  have up : Up H.next H (H.push ⟨33, true, [.int .i64 q, v]⟩) := (Up.refl _ H).push (Nat.le_refl _) _
  have e1 : (H.push ⟨33, true, [.int .i64 q, v]⟩).row H.next = some ⟨33, true, [.int .i64 q, v]⟩ := by rw [AH.push_row, if_pos rfl]
  have n1 : (H.push ⟨33, true, [.int .i64 q, v]⟩).next = H.next + 1 := rfl
  try simp (disch := first | omega | (simp only [ints_length, List.length_replicate, List.length_set]; done) | (simp only [ints_length, List.length_replicate, List.length_set]; omega)) only [Sall,evalOp,init,binE,binI,unE,convE,okNil,builtE,gv,TD.isAgg,resV,↓reduceIte,Nat.reduceEqDiff,reduceCtorEq,Nat.reduceAdd,Nat.reduceMul,Nat.reduceLeDiff,quietOp,blindOp,Int.reduceEq,Int.reduceLT,Int.reduceLE,Nat.reduceLT,ti2,ti3,ti4,ti79,ti80,ti28,ti25,ti31,ti22,ti33,ti24,ti67,ti111,ti145,ti136,ti137,ti117,ti100, hone]
  revert up e1 n1
  generalize H.push ⟨33, true, [.int .i64 q, v]⟩ = H1
  intro up e1 n1
  have hv1 := hv.same (up.le hs).row
  have hx1 := hx.same (up.le hs).row
  refine (resultsCode_c q v k l x ll 59 [] true H1 hv1 hk hx1 hl hl2 fun H' _ _ _ => always_c H').to ?_
  rw [Bool.and_true]
  by_cases hok : schedB q k l = true ∧ resB q.toNat k l ll = true
  · obtain ⟨hb, hres⟩ := hok
    obtain ⟨h2, _, _⟩ := schedB_at hb
    obtain ⟨n, rfl⟩ : ∃ n : Nat, q = n := ⟨q.toNat, by omega⟩
    unfold rankR
    rw [if_pos ⟨hb, hres⟩, codeS_yes hb hres]
    rw [Int.toNat_natCast] at hres ⊢
    try simp (disch := first | omega | (simp only [ints_length, List.length_replicate, List.length_set]; done) | (simp only [ints_length, List.length_replicate, List.length_set]; omega)) only [Sall,evalOp,init,binE,binI,unE,convE,okNil,builtE,gv,TD.isAgg,resV,↓reduceIte,Nat.reduceEqDiff,reduceCtorEq,Nat.reduceAdd,Nat.reduceMul,Nat.reduceLeDiff,quietOp,blindOp,Int.reduceEq,Int.reduceLT,Int.reduceLE,Nat.reduceLT,ti2,ti3,ti4,ti79,ti80,ti28,ti25,ti31,ti22,ti33,ti24,ti67,ti111,ti145,ti136,ti137,ti117,ti100, bne_self_eq_false, e1, builtE, hx1.len]
    refine (ranking_c n v k l x ll _ _ _ H1 hb hres hl hv1 hx1 rfl rfl rfl).mono ?_
    rintro u H2 ⟨up2, hf⟩
    have hu := hf.rd.one
    refine Holds.mp ?_
    try simp (disch := first | omega | (simp only [ints_length, List.length_replicate, List.length_set]; done) | (simp only [ints_length, List.length_replicate, List.length_set]; omega)) only [Sall,evalOp,init,binE,binI,unE,convE,okNil,builtE,gv,TD.isAgg,resV,↓reduceIte,Nat.reduceEqDiff,reduceCtorEq,Nat.reduceAdd,Nat.reduceMul,Nat.reduceLeDiff,quietOp,blindOp,Int.reduceEq,Int.reduceLT,Int.reduceLE,Nat.reduceLT,ti2,ti3,ti4,ti79,ti80,ti28,ti25,ti31,ti22,ti33,ti24,ti67,ti111,ti145,ti136,ti137,ti117,ti100, hu]
    refine ⟨u, rfl, up.trans up2 (by omega), ?_⟩
    rw [rankL_length]
    exact hf.wide (by omega) (Nat.le_refl _)
  · have ec := codeS_no hok
    unfold rankR
    rw [if_neg hok]
    try simp (disch := first | omega | (simp only [ints_length, List.length_replicate, List.length_set]; done) | (simp only [ints_length, List.length_replicate, List.length_set]; omega)) only [Sall,evalOp,init,binE,binI,unE,convE,okNil,builtE,gv,TD.isAgg,resV,↓reduceIte,Nat.reduceEqDiff,reduceCtorEq,Nat.reduceAdd,Nat.reduceMul,Nat.reduceLeDiff,quietOp,blindOp,Int.reduceEq,Int.reduceLT,Int.reduceLE,Nat.reduceLT,ti2,ti3,ti4,ti79,ti80,ti28,ti25,ti31,ti22,ti33,ti24,ti67,ti111,ti145,ti136,ti137,ti117,ti100, ec]
    exact ⟨_, rfl, up, fr_nil _ _ _ _⟩
end Go.Proofs.Ytbmpkihggipciaa.A
