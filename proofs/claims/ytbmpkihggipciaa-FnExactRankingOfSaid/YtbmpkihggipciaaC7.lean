/- Contracts: the meetings of a schedule with results, one after the other. -/
import Derived.Test.YtbmpkihggipciaaC6
import Derived.Test.YtbmpkihggipciaaAbs13
set_option linter.unusedSimpArgs false
set_option linter.unusedVariables false
set_option maxRecDepth 100000
--LEN ints_length, List.length_replicate
namespace Go.Proofs.Ytbmpkihggipciaa.A
open Go Go.Abs Go.RowKit

theorem won_cases (z : Int) : ((z == 1) = true ∧ (z == 2) = false ∧ wonI z = 2) ∨ ((z == 1) = false ∧ (z == 2) = true ∧ wonI z = 0) ∨ ((z == 1) = false ∧ (z == 2) = false ∧ wonI z = 1) := by
  unfold wonI
  by_cases h1 : z = 1
  · subst h1; exact .inl ⟨rfl, rfl, rfl⟩
  · by_cases h2 : z = 2
    · subst h2; exact .inr (.inl ⟨rfl, rfl, rfl⟩)
    · exact .inr (.inr ⟨beq_eq_false_iff_ne.2 h1, beq_eq_false_iff_ne.2 h2, by rw [if_neg h1, if_neg h2]⟩)

theorem games_c (n : Nat) (v : Value) (k : Nat) (l : List Int) (x : Value) (ll : List (List Int)) (g : FuncId) (cap : List Value) (S : List Ev → AH → Prop) (B H : AH)
    (hb : schedB n k l = true) (hres : resB n k l ll = true) (S0 : S [] H) (hl : ll.length ≤ 4294967296)
    (hv : Rd 14 B v k l) (hx : Rd2 1 B x ll) (hSr : ∀ es H', S es H' → ∀ i r, B.row i = some r → H'.row i = some r)
    (hSt : ∀ es H1 H2, S es H1 → H1.next ≤ H2.next → (∀ i, i < H.next → H2.row i = H1.row i) → S es H2)
    (hstep : ∀ es (rd : Nat) (p q o : Int) H1, S es H1 → H.next ≤ H1.next → rd < ll.length → (0 ≤ p ∧ p < n) → (0 ≤ q ∧ q < n) → (0 ≤ o ∧ o ≤ 2) →
      ACalls Try.prog g (.int .i64 rd :: .int .i64 p :: .int .i64 q :: .int .i64 o :: cap) H1 (fun _ H2 => S (es ++ [(rd, p, q, o)]) H2 ∧ H1.next ≤ H2.next ∧ ∀ i, H.next ≤ i → i < H1.next → H2.row i = H1.row i)) :
    ACalls Try.prog 163 [.agg #[.int .i64 n, v], x, .func (.func g) #[] cap.toArray] H (fun _ H' => S (meets n l ll ll.length) H' ∧ H.next ≤ H'.next) := by
  refine acalls_of_awp [] Try.func163 (by kernel_rfl) rfl rfl (Nat.le_of_ble_eq_true rfl) (by kernel_rfl) ?_
  obtain ⟨hn, hk40, hrounds⟩ := schedB_at hb
  obtain ⟨hlk, hrs⟩ := resB_at hres
  have hone := hv.one
  have e1 : (H.push ⟨33, true, [.int .i64 n, v]⟩).row H.next = some ⟨33, true, [.int .i64 n, v]⟩ := by rw [AH.push_row, if_pos rfl]
  have n1 : (H.push ⟨33, true, [.int .i64 n, v]⟩).next = H.next + 1 := rfl
  have hx0 := hx
  try simp (disch := first | omega | (simp only [ints_length, List.length_replicate]; done) | (simp only [ints_length, List.length_replicate]; omega)) only [Sall,evalOp,init,binE,binI,unE,convE,okNil,builtE,gv,TD.isAgg,resV,↓reduceIte,Nat.reduceEqDiff,reduceCtorEq,Nat.reduceAdd,Nat.reduceMul,Nat.reduceLeDiff,quietOp,blindOp,Int.reduceEq,Int.reduceLT,Int.reduceLE,Nat.reduceLT,ti2,ti3,ti4,ti79,ti80,ti28,ti25,ti31,ti22,ti33,ti24,ti67,ti111,ti145,ti136,ti137,ti117,ti100, hone, builtE, hx0.len]
  refine awp_loop (fun m t H' => ∃ a : Nat, m = ll.length - a ∧ a ≤ ll.length ∧ t 13 = .int .i64 a ∧ t 12 = .int .i64 ll.length ∧ t 11 = x ∧ t 2 = .func (.func g) #[] cap.toArray ∧ t 3 = .pointer (some ⟨H.next, 0, none⟩) ∧ H.next < H'.next ∧ H'.row H.next = some ⟨33, true, [.int .i64 n, v]⟩ ∧ S (meets n l ll a) H') ll.length ?_ ?_
  · refine ⟨0, by omega, by omega, ?_⟩
    try simp (disch := first | omega | (simp only [ints_length, List.length_replicate]; done) | (simp only [ints_length, List.length_replicate]; omega)) only [Sall,evalOp,init,binE,binI,unE,convE,okNil,builtE,gv,TD.isAgg,resV,↓reduceIte,Nat.reduceEqDiff,reduceCtorEq,Nat.reduceAdd,Nat.reduceMul,Nat.reduceLeDiff,quietOp,blindOp,Int.reduceEq,Int.reduceLT,Int.reduceLE,Nat.reduceLT,ti2,ti3,ti4,ti79,ti80,ti28,ti25,ti31,ti22,ti33,ti24,ti67,ti111,ti145,ti136,ti137,ti117,ti100, Int.natCast_zero, meets_zero]
    exact ⟨by omega, hSt _ _ _ S0 (by omega) fun i hi => by rw [AH.push_row, if_neg (by omega)]⟩
  · rintro m t H' ⟨a, hm, h14, h13, h12, h11, h2, h3, hnx, hr1, hS⟩
    try simp (disch := first | omega | (simp only [ints_length, List.length_replicate]; done) | (simp only [ints_length, List.length_replicate]; omega)) only [Sall,evalOp,init,binE,binI,unE,convE,okNil,builtE,gv,TD.isAgg,resV,↓reduceIte,Nat.reduceEqDiff,reduceCtorEq,Nat.reduceAdd,Nat.reduceMul,Nat.reduceLeDiff,quietOp,blindOp,Int.reduceEq,Int.reduceLT,Int.reduceLE,Nat.reduceLT,ti2,ti3,ti4,ti79,ti80,ti28,ti25,ti31,ti22,ti33,ti24,ti67,ti111,ti145,ti136,ti137,ti117,ti100, h13, h12]
    refine condC_dec (fun h => ?_) (fun h => ?_)
    · obtain ⟨i, o, u, c, r, y, my, ex, hrB, hy, hsx, hok⟩ := hx.get (j := a) (by omega)
      obtain ⟨i', o', u', c', r', ev, hrB', hc', hs', hg'⟩ := hv.get (by omega)
      have hr := hSr _ _ hS _ _ hrB
      have hr' := hSr _ _ hS _ _ hrB'
      have hmm := hsx.lenK1
      obtain ⟨hlen, hvals⟩ := hrs a (by omega)
      have hrl : (rnd l a).length = 14 := rnd_length l a k hv.1 (by omega)
      try simp (disch := first | omega | (simp only [ints_length, List.length_replicate]; done) | (simp only [ints_length, List.length_replicate]; omega)) only [Sall,evalOp,init,binE,binI,unE,convE,okNil,builtE,gv,TD.isAgg,resV,↓reduceIte,Nat.reduceEqDiff,reduceCtorEq,Nat.reduceAdd,Nat.reduceMul,Nat.reduceLeDiff,quietOp,blindOp,Int.reduceEq,Int.reduceLT,Int.reduceLE,Nat.reduceLT,ti2,ti3,ti4,ti79,ti80,ti28,ti25,ti31,ti22,ti33,ti24,ti67,ti111,ti145,ti136,ti137,ti117,ti100, h13, h12, h11, ex, hr, hy, hok]
      refine ⟨⟨by omega, by omega⟩, ?_⟩
      refine draw_in [0, 1, 2, 3, 4, 5, 6, 9, 7, 8] (by kernel_rfl) (by kernel_rfl) rfl ?_
      try simp (disch := first | omega | (simp only [ints_length, List.length_replicate]; done) | (simp only [ints_length, List.length_replicate]; omega)) only [Sall,evalOp,init,binE,binI,unE,convE,okNil,builtE,gv,TD.isAgg,resV,↓reduceIte,Nat.reduceEqDiff,reduceCtorEq,Nat.reduceAdd,Nat.reduceMul,Nat.reduceLeDiff,quietOp,blindOp,Int.reduceEq,Int.reduceLT,Int.reduceLE,Nat.reduceLT,ti2,ti3,ti4,ti79,ti80,ti28,ti25,ti31,ti22,ti33,ti24,ti67,ti111,ti145,ti136,ti137,ti117,ti100, h3, hr1, ev, hr', hg', builtE]
      refine ⟨⟨by omega, by omega⟩, by omega, ACalls.wf (by kernel_rfl) fun hs1 => (pairs_c n (rnd l a) hrl (by omega) H').mono ?_⟩
      rintro p H3 ⟨up3, hp⟩
      have hpl := hp.rd.len
      refine ⟨.inr (.inr (up3.le hs1)), ?_⟩
      have n3 := up3.next
      have hr3 : H3.row H.next = some ⟨33, true, [.int .i64 n, .slice (some ⟨i', o', u'⟩) k c']⟩ := by rw [up3.row _ hnx, hr1, ev]
      have hS3 : S (meets n l ll a) H3 := hSt _ _ _ hS n3 fun i hi => up3.row i (by omega)
      have hplen := pairsL_le (rnd l a) n
      have hround := hrounds a (by omega)
      refine Holds.mp ?_
      try simp (disch := first | omega | (simp only [ints_length, List.length_replicate]; done) | (simp only [ints_length, List.length_replicate]; omega)) only [Sall,evalOp,init,binE,binI,unE,convE,okNil,builtE,gv,TD.isAgg,resV,↓reduceIte,Nat.reduceEqDiff,reduceCtorEq,Nat.reduceAdd,Nat.reduceMul,Nat.reduceLeDiff,quietOp,blindOp,Int.reduceEq,Int.reduceLT,Int.reduceLE,Nat.reduceLT,ti2,ti3,ti4,ti79,ti80,ti28,ti25,ti31,ti22,ti33,ti24,ti67,ti111,ti145,ti136,ti137,ti117,ti100, builtE, hpl, h13, h12, h11, h2, h3]
      refine awp_loop (fun z t H4 => ∃ b : Nat, z = (pairsL (rnd l a) n).length - b ∧ b ≤ (pairsL (rnd l a) n).length ∧ t 27 = .int .i64 b ∧ t 26 = .int .i64 (pairsL (rnd l a) n).length ∧ t 25 = p ∧ t 6 = .int .i64 a ∧ t 7 = y ∧ t 13 = .int .i64 a ∧ t 12 = .int .i64 ll.length ∧ t 11 = x ∧ t 2 = .func (.func g) #[] cap.toArray ∧ t 3 = .pointer (some ⟨H.next, 0, none⟩) ∧ H3.next ≤ H4.next ∧ H4.row H.next = some ⟨33, true, [.int .i64 n, v]⟩ ∧
          Fr2 1 28 2 H'.next H3.next H4 p (pairsL (rnd l a) n) ∧ S (meets n l ll a ++ evRound n a (rnd l a) (ll.getD a []) b) H4) (pairsL (rnd l a) n).length ?_ ?_
      · refine ⟨0, by omega, by omega, ?_⟩
        try simp (disch := first | omega | (simp only [ints_length, List.length_replicate]; done) | (simp only [ints_length, List.length_replicate]; omega)) only [Sall,evalOp,init,binE,binI,unE,convE,okNil,builtE,gv,TD.isAgg,resV,↓reduceIte,Nat.reduceEqDiff,reduceCtorEq,Nat.reduceAdd,Nat.reduceMul,Nat.reduceLeDiff,quietOp,blindOp,Int.reduceEq,Int.reduceLT,Int.reduceLE,Nat.reduceLT,ti2,ti3,ti4,ti79,ti80,ti28,ti25,ti31,ti22,ti33,ti24,ti67,ti111,ti145,ti136,ti137,ti117,ti100, Int.natCast_zero, evRound_zero, List.append_nil, h13, h12, h11, h2, h3, ex]
        exact ⟨hr3.trans (by rw [ev]), hp, hS3⟩
      · rintro z t H4 ⟨b, hz, hbp, h27, h26, h25, h6, h7, h13, h12, h11, h2, h3, hn4, hr4, hp4, hS4⟩
        try simp (disch := first | omega | (simp only [ints_length, List.length_replicate]; done) | (simp only [ints_length, List.length_replicate]; omega)) only [Sall,evalOp,init,binE,binI,unE,convE,okNil,builtE,gv,TD.isAgg,resV,↓reduceIte,Nat.reduceEqDiff,reduceCtorEq,Nat.reduceAdd,Nat.reduceMul,Nat.reduceLeDiff,quietOp,blindOp,Int.reduceEq,Int.reduceLT,Int.reduceLE,Nat.reduceLT,ti2,ti3,ti4,ti79,ti80,ti28,ti25,ti31,ti22,ti33,ti24,ti67,ti111,ti145,ti136,ti137,ti117,ti100, h27, h26]
        refine condC_dec (fun hh => ?_) (fun hh => ?_)
        · obtain ⟨pi, pvs, px, pm, pb, pc, rfl, q1, q2, q3, q4, q5, q6, q7, q8⟩ := hp4.getF (j := b) (by omega)
          have hpm := q8.lenK1
          obtain ⟨aa, ha1, ha2, ha3⟩ := pairsL_get (rnd l a) n b (by omega)
          obtain ⟨_, ha4, ha5, _⟩ := roundB_at hround (a := aa) (by omega)
          obtain ⟨i5, o5, u5, c5, r5, rfl, gB, g2, g3, _⟩ := hsx.get (by omega)
          have g1 := hSr _ _ hS4 _ _ gB
          have g4 := g3 b (by omega)
          rw [ha3] at q8 hpm
          simp only [List.length_cons, List.length_nil] at hpm
          obtain rfl : pm = 2 := hpm
          obtain ⟨i6, w1, w2, rfl, w3⟩ := q8.get (by omega)
          have evs0 : meets n l ll a ++ evRound n a (rnd l a) (ll.getD a []) (b + 1) = ((meets n l ll a ++ evRound n a (rnd l a) (ll.getD a []) b) ++ [(a, (aa : Int), (rnd l a).getD aa 0, wonI ((ll.getD a []).getD b 0))]) ++ [(a, (rnd l a).getD aa 0, (aa : Int), 2 - wonI ((ll.getD a []).getD b 0))] := by
            rw [evRound_succ, ha3]; simp [evPair]
          have i0 : (ints [(aa : Int), (rnd l a).getD aa 0])[Int.toNat 0]? = some (.int .i64 aa) := rfl
          have i1 : (ints [(aa : Int), (rnd l a).getD aa 0])[Int.toNat 1]? = some (.int .i64 ((rnd l a).getD aa 0)) := rfl
          have st1 := fun o (ho : 0 ≤ o ∧ o ≤ 2) => hstep _ a (aa : Int) ((rnd l a).getD aa 0) o H4 hS4 (by omega) (by omega) (by omega) (by omega) ho
          refine Holds.mp ?_
          rcases won_cases ((ll.getD a []).getD b 0) with ⟨f1, f2, fw⟩ | ⟨f1, f2, fw⟩ | ⟨f1, f2, fw⟩ <;> rw [fw] at evs0 <;> rw [holds_def]
          all_goals
            try simp (disch := first | omega | (simp only [ints_length, List.length_replicate]; done) | (simp only [ints_length, List.length_replicate]; omega)) only [Sall,evalOp,init,binE,binI,unE,convE,okNil,builtE,gv,TD.isAgg,resV,↓reduceIte,Nat.reduceEqDiff,reduceCtorEq,Nat.reduceAdd,Nat.reduceMul,Nat.reduceLeDiff,quietOp,blindOp,Int.reduceEq,Int.reduceLT,Int.reduceLE,Nat.reduceLT,ti2,ti3,ti4,ti79,ti80,ti28,ti25,ti31,ti22,ti33,ti24,ti67,ti111,ti145,ti136,ti137,ti117,ti100, h27, h26, h25, h6, h7, q3, q5, g1, g4, f1, f2]
            refine ⟨⟨by omega, by omega⟩, ⟨by omega, by omega⟩, ?_⟩
            refine draw_id (by kernel_rfl) (by kernel_rfl) ?_
            try simp (disch := first | omega | (simp only [ints_length, List.length_replicate]; done) | (simp only [ints_length, List.length_replicate]; omega)) only [Sall,evalOp,init,binE,binI,unE,convE,okNil,builtE,gv,TD.isAgg,resV,↓reduceIte,Nat.reduceEqDiff,reduceCtorEq,Nat.reduceAdd,Nat.reduceMul,Nat.reduceLeDiff,quietOp,blindOp,Int.reduceEq,Int.reduceLT,Int.reduceLE,Nat.reduceLT,ti2,ti3,ti4,ti79,ti80,ti28,ti25,ti31,ti22,ti33,ti24,ti67,ti111,ti145,ti136,ti137,ti117,ti100, h27, h6, h2, w3, i0, i1]
            refine ⟨by omega, by omega, (st1 _ (by omega)).mono ?_⟩
            rintro _ H5 ⟨hS5, n5, s5⟩
            refine ⟨.inr (.inl (by kernel_rfl)), ?_⟩
            have w5 : H5.row i6 = some ⟨2, true, ints [(aa : Int), (rnd l a).getD aa 0]⟩ := by rw [s5 _ (by omega) (by omega), w3]
            refine Holds.mp ?_
            try simp (disch := first | omega | (simp only [ints_length, List.length_replicate]; done) | (simp only [ints_length, List.length_replicate]; omega)) only [Sall,evalOp,init,binE,binI,unE,convE,okNil,builtE,gv,TD.isAgg,resV,↓reduceIte,Nat.reduceEqDiff,reduceCtorEq,Nat.reduceAdd,Nat.reduceMul,Nat.reduceLeDiff,quietOp,blindOp,Int.reduceEq,Int.reduceLT,Int.reduceLE,Nat.reduceLT,ti2,ti3,ti4,ti79,ti80,ti28,ti25,ti31,ti22,ti33,ti24,ti67,ti111,ti145,ti136,ti137,ti117,ti100, h27, h6, h2]
            refine draw_id (by kernel_rfl) (by kernel_rfl) ?_
            try simp (disch := first | omega | (simp only [ints_length, List.length_replicate]; done) | (simp only [ints_length, List.length_replicate]; omega)) only [Sall,evalOp,init,binE,binI,unE,convE,okNil,builtE,gv,TD.isAgg,resV,↓reduceIte,Nat.reduceEqDiff,reduceCtorEq,Nat.reduceAdd,Nat.reduceMul,Nat.reduceLeDiff,quietOp,blindOp,Int.reduceEq,Int.reduceLT,Int.reduceLE,Nat.reduceLT,ti2,ti3,ti4,ti79,ti80,ti28,ti25,ti31,ti22,ti33,ti24,ti67,ti111,ti145,ti136,ti137,ti117,ti100, h27, h6, h2, w5, i0, i1, w64]
            refine ⟨by omega, by omega, (hstep _ a ((rnd l a).getD aa 0) (aa : Int) _ H5 hS5 (by omega) (by omega) (by omega) (by omega) (by omega)).mono ?_⟩
            rintro _ H6 ⟨hS6, n6, s6⟩
            refine ⟨.inr (.inl (by kernel_rfl)), ?_⟩
            refine Holds.mp ?_
            try simp (disch := first | omega | (simp only [ints_length, List.length_replicate]; done) | (simp only [ints_length, List.length_replicate]; omega)) only [Sall,evalOp,init,binE,binI,unE,convE,okNil,builtE,gv,TD.isAgg,resV,↓reduceIte,Nat.reduceEqDiff,reduceCtorEq,Nat.reduceAdd,Nat.reduceMul,Nat.reduceLeDiff,quietOp,blindOp,Int.reduceEq,Int.reduceLT,Int.reduceLE,Nat.reduceLT,ti2,ti3,ti4,ti79,ti80,ti28,ti25,ti31,ti22,ti33,ti24,ti67,ti111,ti145,ti136,ti137,ti117,ti100, h27, h26, h6, h7, h13, h12, h11, h2, h3, w64]
            refine ⟨(pairsL (rnd l a) n).length - (b + 1), by omega, b + 1, rfl, by omega, by omega, h25, by omega, ?_, ?_, ?_⟩
            · rw [s6 _ (by omega) (by omega), s5 _ (by omega) (by omega), hr4]
            · exact hp4.same fun z hz1 hz2 => by rw [s6 _ (by omega) (by omega), s5 _ (by omega) (by omega)]
            · rw [evs0]; exact hS6
        · try simp (disch := first | omega | (simp only [ints_length, List.length_replicate]; done) | (simp only [ints_length, List.length_replicate]; omega)) only [Sall,evalOp,init,binE,binI,unE,convE,okNil,builtE,gv,TD.isAgg,resV,↓reduceIte,Nat.reduceEqDiff,reduceCtorEq,Nat.reduceAdd,Nat.reduceMul,Nat.reduceLeDiff,quietOp,blindOp,Int.reduceEq,Int.reduceLT,Int.reduceLE,Nat.reduceLT,ti2,ti3,ti4,ti79,ti80,ti28,ti25,ti31,ti22,ti33,ti24,ti67,ti111,ti145,ti136,ti137,ti117,ti100, h13, h12, h11, h2, h3, w64]
          have hbb : b = (pairsL (rnd l a) n).length := by omega
          refine ⟨ll.length - (a + 1), by omega, a + 1, rfl, by omega, by omega, by omega, hr4, ?_⟩
          rw [meets_succ, ← hbb]; exact hS4
    · try simp (disch := first | omega | (simp only [ints_length, List.length_replicate]; done) | (simp only [ints_length, List.length_replicate]; omega)) only [Sall,evalOp,init,binE,binI,unE,convE,okNil,builtE,gv,TD.isAgg,resV,↓reduceIte,Nat.reduceEqDiff,reduceCtorEq,Nat.reduceAdd,Nat.reduceMul,Nat.reduceLeDiff,quietOp,blindOp,Int.reduceEq,Int.reduceLT,Int.reduceLE,Nat.reduceLT,ti2,ti3,ti4,ti79,ti80,ti28,ti25,ti31,ti22,ti33,ti24,ti67,ti111,ti145,ti136,ti137,ti117,ti100, true_and]
      have ha : a = ll.length := by omega
      subst ha
      exact ⟨hS, by omega⟩
end Go.Proofs.Ytbmpkihggipciaa.A
