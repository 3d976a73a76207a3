/- Contracts: square matrices of zeros, meetings, on both sides. -/
import Derived.Test.YtbmpkihggipciaaC3
import Derived.Test.YtbmpkihggipciaaPl7
import Derived.Test.YtbmpkihggipciaaAbs16
set_option linter.unusedSimpArgs false
set_option linter.unusedVariables false
set_option maxRecDepth 100000
set_option maxHeartbeats 2000000
--LEN ints_length, List.length_replicate, List.length_set
namespace Go.Proofs.Ytbmpkihggipciaa.A
open Go Go.Abs Go.RowKit

theorem zeros_int0 (n : Nat) : zeros n [.int .i64 0] = ints (List.replicate n 0) := by
  have h := zeros_ints n 1
  rw [Nat.mul_one] at h; exact h
theorem replicate_snoc {α : Type} (n : Nat) (a : α) : List.replicate (n + 1) a = List.replicate n a ++ [a] := by
  rw [List.replicate_succ']

theorem square_c (n : Nat) (hn : n ≤ 1024) (H : AH) : ACalls Try.prog 94 [.int .i64 n] H (fun v H' => Up H.next H H' ∧ Fr2 1 28 2 H.next H'.next H' v (zeroM n)) := by
  refine acalls_of_awp [.tmp 2] Try.func94 (by kernel_rfl) rfl rfl (Nat.le_of_ble_eq_true rfl) (by kernel_rfl) ?_
  try simp (disch := first | omega | (simp only [ints_length, List.length_replicate, List.length_set]; done) | (simp only [ints_length, List.length_replicate, List.length_set]; omega)) only [Sall,evalOp,init,binE,binI,unE,convE,okNil,builtE,gv,TD.isAgg,resV,↓reduceIte,Nat.reduceEqDiff,reduceCtorEq,Nat.reduceAdd,Nat.reduceMul,Nat.reduceLeDiff,quietOp,blindOp,Int.reduceEq,Int.reduceLT,Int.reduceLE,Nat.reduceLT,ti2,ti3,ti4,ti79,ti80,ti28,ti25,ti31,ti22,ti33,ti24,ti67,ti111,ti100, zeros_zero]
  refine awp_loop (fun m t H' => ∃ (a : Nat) (u : Value) (lo hi : Nat), m = n - a ∧ a ≤ n ∧ t 6 = .int .i64 a ∧ t 5 = .int .i64 n ∧ t 0 = .int .i64 n ∧ t 3 = u ∧ Up H.next H H' ∧ H.next ≤ lo ∧ lo ≤ hi ∧ hi ≤ H'.next ∧ Fr2 1 28 2 lo hi H' u (List.replicate a (List.replicate n 0))) n ?_ ?_
  · refine ⟨0, .slice (some ⟨H.next, 0, some 1⟩) 0 0, H.next, H.next + 1, by omega, by omega, ?_⟩
    try simp (disch := first | omega | (simp only [ints_length, List.length_replicate, List.length_set]; done) | (simp only [ints_length, List.length_replicate, List.length_set]; omega)) only [Sall,evalOp,init,binE,binI,unE,convE,okNil,builtE,gv,TD.isAgg,resV,↓reduceIte,Nat.reduceEqDiff,reduceCtorEq,Nat.reduceAdd,Nat.reduceMul,Nat.reduceLeDiff,quietOp,blindOp,Int.reduceEq,Int.reduceLT,Int.reduceLE,Nat.reduceLT,ti2,ti3,ti4,ti79,ti80,ti28,ti25,ti31,ti22,ti33,ti24,ti67,ti111,ti100, Int.natCast_zero]
    refine ⟨(Up.refl _ H).push (by omega) _, ?_⟩
    (repeat refine And.intro (by omega) ?_)
    exact .inr ⟨H.next, [], fun _ => H.next + 1, by omega, by omega, rfl, by rw [AH.push_row, if_pos rfl], rfl, by dsimp only; omega, by dsimp only; omega, .inl (by dsimp only; omega), fun _ => Nat.le_refl _, fun j hj => by simp at hj⟩
  · rintro m t H' ⟨a, u, lo, hi, hm, h14, h6, h5, h0, h3, hup, hlo, hlh, hhi, hfr⟩
    try simp (disch := first | omega | (simp only [ints_length, List.length_replicate, List.length_set]; done) | (simp only [ints_length, List.length_replicate, List.length_set]; omega)) only [Sall,evalOp,init,binE,binI,unE,convE,okNil,builtE,gv,TD.isAgg,resV,↓reduceIte,Nat.reduceEqDiff,reduceCtorEq,Nat.reduceAdd,Nat.reduceMul,Nat.reduceLeDiff,quietOp,blindOp,Int.reduceEq,Int.reduceLT,Int.reduceLE,Nat.reduceLT,ti2,ti3,ti4,ti79,ti80,ti28,ti25,ti31,ti22,ti33,ti24,ti67,ti111,ti100, h6, h5]
    refine condC_dec (fun h => ?_) (fun h => ?_)
    · have zz : zeros 1 [.slice none 0 0] = [.slice none 0 0] := rfl
      have ne1 : ¬ H'.next = H'.next + 1 := by omega
      try simp (disch := first | omega | (simp only [ints_length, List.length_replicate, List.length_set]; done) | (simp only [ints_length, List.length_replicate, List.length_set]; omega)) only [Sall,evalOp,init,binE,binI,unE,convE,okNil,builtE,gv,TD.isAgg,resV,↓reduceIte,Nat.reduceEqDiff,reduceCtorEq,Nat.reduceAdd,Nat.reduceMul,Nat.reduceLeDiff,quietOp,blindOp,Int.reduceEq,Int.reduceLT,Int.reduceLE,Nat.reduceLT,ti2,ti3,ti4,ti79,ti80,ti28,ti25,ti31,ti22,ti33,ti24,ti67,ti111,ti100, h6, h5, h3, h0, zeros_int0, zz, slCells]
      (repeat refine And.intro (by omega) ?_)
      obtain ⟨H2, e2⟩ : ∃ H2, H2 = (H'.push ⟨2, true, ints (List.replicate n 0)⟩).push ⟨28, true, [.slice (some ⟨H'.next, 0, some 1⟩) n n]⟩ := ⟨_, rfl⟩
      have n2 : H2.next = H'.next + 2 := by rw [e2]; rfl
      have s2 : ∀ i, i < H'.next → H2.row i = H'.row i := fun i hi => by rw [e2, AH.push_row, if_neg (by rw [AH.push_next]; omega), AH.push_row, if_neg (by omega)]
      have x2 : H2.row H'.next = some ⟨2, true, ints (List.replicate n 0)⟩ := by rw [e2, AH.push_row, if_neg (by rw [AH.push_next]; omega), AH.push_row, if_pos rfl]
      rw [← e2]
      clear e2
      refine appE_fr2 (hfr.same fun i _ hi => s2 i (by omega)) (m := n) (l := List.replicate n 0) ⟨by simp, .inr ⟨H'.next, by omega, by omega, rfl, x2⟩⟩ rfl (by decide) (by rw [List.length_replicate]; omega) hlh (by omega) ?_
      intro v' H3 n3 s3 f3
      try simp (disch := first | omega | (simp only [ints_length, List.length_replicate, List.length_set]; done) | (simp only [ints_length, List.length_replicate, List.length_set]; omega)) only [Sall,evalOp,init,binE,binI,unE,convE,okNil,builtE,gv,TD.isAgg,resV,↓reduceIte,Nat.reduceEqDiff,reduceCtorEq,Nat.reduceAdd,Nat.reduceMul,Nat.reduceLeDiff,quietOp,blindOp,Int.reduceEq,Int.reduceLT,Int.reduceLE,Nat.reduceLT,ti2,ti3,ti4,ti79,ti80,ti28,ti25,ti31,ti22,ti33,ti24,ti67,ti111,ti100, h6, h5, h0, w64]
      refine ⟨n - (a + 1), by omega, a + 1, v', lo, H2.next + 1, rfl, by omega, rfl, rfl, ⟨by have := hup.next; omega, fun i hi => ?_⟩, by omega, by omega, by omega, ?_⟩
      · rw [s3 i (by have := hup.next; omega) (by have := hup.next; omega), s2 i (by have := hup.next; omega), hup.row i hi]
      · rw [replicate_snoc]; exact f3
    · have ha : a = n := by omega
      subst ha
      try simp (disch := first | omega | (simp only [ints_length, List.length_replicate, List.length_set]; done) | (simp only [ints_length, List.length_replicate, List.length_set]; omega)) only [Sall,evalOp,init,binE,binI,unE,convE,okNil,builtE,gv,TD.isAgg,resV,↓reduceIte,Nat.reduceEqDiff,reduceCtorEq,Nat.reduceAdd,Nat.reduceMul,Nat.reduceLeDiff,quietOp,blindOp,Int.reduceEq,Int.reduceLT,Int.reduceLE,Nat.reduceLT,ti2,ti3,ti4,ti79,ti80,ti28,ti25,ti31,ti22,ti33,ti24,ti67,ti111,ti100, h3]
      exact ⟨hup, hfr.wide hlo hhi⟩

theorem meetings_c (n : Nat) (v : Value) (k : Nat) (l : List Int) (H : AH) (hb : schedB n k l = true) (hv : Rd 14 H v k l) (hk : k ≤ 4294967296) :
    ACalls Try.prog 169 [.agg #[.int .i64 n, v]] H (fun u H' => Up H.next H H' ∧ Fr2 1 28 2 H.next H'.next H' u (meetM n l k)) := by
  refine ACalls.wf (by kernel_rfl) fun hs => acalls_of_awp [.tmp 2] Try.func169 (by kernel_rfl) rfl rfl (Nat.le_of_ble_eq_true rfl) (by kernel_rfl) ?_
  obtain ⟨hn, hk40, hrounds⟩ := schedB_at hb
  have hone := hv.one
  have up : Up H.next H (H.push ⟨33, true, [.int .i64 n, v]⟩) := (Up.refl _ H).push (Nat.le_refl _) _
  have e1 : (H.push ⟨33, true, [.int .i64 n, v]⟩).row H.next = some ⟨33, true, [.int .i64 n, v]⟩ := by rw [AH.push_row, if_pos rfl]
  have n1 : (H.push ⟨33, true, [.int .i64 n, v]⟩).next = H.next + 1 := rfl
  try simp (disch := first | omega | (simp only [ints_length, List.length_replicate, List.length_set]; done) | (simp only [ints_length, List.length_replicate, List.length_set]; omega)) only [Sall,evalOp,init,binE,binI,unE,convE,okNil,builtE,gv,TD.isAgg,resV,↓reduceIte,Nat.reduceEqDiff,reduceCtorEq,Nat.reduceAdd,Nat.reduceMul,Nat.reduceLeDiff,quietOp,blindOp,Int.reduceEq,Int.reduceLT,Int.reduceLE,Nat.reduceLT,ti2,ti3,ti4,ti79,ti80,ti28,ti25,ti31,ti22,ti33,ti24,ti67,ti111,ti100, hone]
  revert up e1 n1
  generalize H.push ⟨33, true, [.int .i64 n, v]⟩ = H1
  intro up e1 n1
  refine (square_c n (by omega) H1).mono ?_
  rintro u H2 ⟨up2, hf⟩
  have n2 := up2.next
  have u2 : Up H.next H H2 := up.trans up2 (by omega)
  have r2 : H2.row H.next = some ⟨33, true, [.int .i64 n, v]⟩ := by rw [up2.row _ (by omega), e1]
  refine Holds.mp ?_
  try simp (disch := first | omega | (simp only [ints_length, List.length_replicate, List.length_set]; done) | (simp only [ints_length, List.length_replicate, List.length_set]; omega)) only [Sall,evalOp,init,binE,binI,unE,convE,okNil,builtE,gv,TD.isAgg,resV,↓reduceIte,Nat.reduceEqDiff,reduceCtorEq,Nat.reduceAdd,Nat.reduceMul,Nat.reduceLeDiff,quietOp,blindOp,Int.reduceEq,Int.reduceLT,Int.reduceLE,Nat.reduceLT,ti2,ti3,ti4,ti79,ti80,ti28,ti25,ti31,ti22,ti33,ti24,ti67,ti111,ti100, r2, builtE, hv.len]
  refine awp_loop (fun m t H' => ∃ (a : Nat), m = k - a ∧ a ≤ k ∧ t 13 = .int .i64 a ∧ t 12 = .int .i64 k ∧ t 11 = v ∧ t 3 = u ∧ t 1 = .pointer (some ⟨H.next, 0, none⟩) ∧ Up H.next H H' ∧ H2.next ≤ H'.next ∧ H'.row H.next = some ⟨33, true, [.int .i64 n, v]⟩ ∧ Fr2 1 28 2 H1.next H2.next H' u (meetM n l a)) k ?_ ?_
  · refine ⟨0, by omega, by omega, ?_⟩
    try simp (disch := first | omega | (simp only [ints_length, List.length_replicate, List.length_set]; done) | (simp only [ints_length, List.length_replicate, List.length_set]; omega)) only [Sall,evalOp,init,binE,binI,unE,convE,okNil,builtE,gv,TD.isAgg,resV,↓reduceIte,Nat.reduceEqDiff,reduceCtorEq,Nat.reduceAdd,Nat.reduceMul,Nat.reduceLeDiff,quietOp,blindOp,Int.reduceEq,Int.reduceLT,Int.reduceLE,Nat.reduceLT,ti2,ti3,ti4,ti79,ti80,ti28,ti25,ti31,ti22,ti33,ti24,ti67,ti111,ti100, Int.natCast_zero, meetM_zero]
    exact ⟨u2, r2, hf⟩
  · rintro m t H' ⟨a, hm, h14, h13, h12, h11, h3, h1, hup, hnx, hr1, hf'⟩
    try simp (disch := first | omega | (simp only [ints_length, List.length_replicate, List.length_set]; done) | (simp only [ints_length, List.length_replicate, List.length_set]; omega)) only [Sall,evalOp,init,binE,binI,unE,convE,okNil,builtE,gv,TD.isAgg,resV,↓reduceIte,Nat.reduceEqDiff,reduceCtorEq,Nat.reduceAdd,Nat.reduceMul,Nat.reduceLeDiff,quietOp,blindOp,Int.reduceEq,Int.reduceLT,Int.reduceLE,Nat.reduceLT,ti2,ti3,ti4,ti79,ti80,ti28,ti25,ti31,ti22,ti33,ti24,ti67,ti111,ti100, h13, h12]
    refine condC_dec (fun h => ?_) (fun h => ?_)
    · obtain ⟨i', o', u', c', r', rfl, hrB', hc', hs', hg'⟩ := hv.get (by omega)
      have hr' : H'.row i' = some r' := by rw [hup.row _ (hs _ _ hrB'), hrB']
      have hrl : (rnd l a).length = 14 := rnd_length l a k hv.1 (by omega)
      have hiB := hs _ _ hrB'
      have hup1 := hup.next
      have ne1 : ¬ i' = H'.next := by omega
      have ne2 : ¬ H.next = H'.next := by omega
      have hrl2 : ((l.drop (a * 14)).take 14).length = 14 := hrl
      have hsp := splice_ints14 (List.replicate 14 0) (rnd l a) (by simp) hrl
      try simp (disch := first | omega | (simp only [ints_length, List.length_replicate, List.length_set]; done) | (simp only [ints_length, List.length_replicate, List.length_set]; omega)) only [Sall,evalOp,init,binE,binI,unE,convE,okNil,builtE,gv,TD.isAgg,resV,↓reduceIte,Nat.reduceEqDiff,reduceCtorEq,Nat.reduceAdd,Nat.reduceMul,Nat.reduceLeDiff,quietOp,blindOp,Int.reduceEq,Int.reduceLT,Int.reduceLE,Nat.reduceLT,ti2,ti3,ti4,ti79,ti80,ti28,ti25,ti31,ti22,ti33,ti24,ti67,ti111,ti100, h13, h11, hr', hg', push_setCells, hrl2, ints_length, ne1, ne2, hr1, h1]
      (repeat refine And.intro (by omega) ?_)
      obtain ⟨H3, e3⟩ : ∃ H3, H3 = H'.push ⟨80, true, ints ((l.drop (a * 14)).take 14)⟩ := ⟨_, rfl⟩
      have s3 : ∀ i, i < H'.next → H3.row i = H'.row i := fun i hi => by rw [e3, AH.push_row, if_neg (by omega)]
      have r3 : H3.row H'.next = some ⟨80, true, ints (rnd l a)⟩ := by rw [e3, AH.push_row, if_pos rfl]; rfl
      have n3 : H3.next = H'.next + 1 := by rw [e3]; rfl
      rw [← e3]
      clear e3
      have hround := hrounds a (by omega)
      refine awp_loop (fun z t H4 => ∃ c : Nat, z = n - c ∧ c ≤ n ∧ t 19 = .int .i64 c ∧ t 18 = .int .i64 n ∧ t 5 = .pointer (some ⟨H'.next, 0, none⟩) ∧ t 13 = .int .i64 a ∧ t 12 = .int .i64 k ∧ t 11 = .slice (some ⟨i', o', u'⟩) k c' ∧ t 3 = u ∧ t 1 = .pointer (some ⟨H.next, 0, none⟩) ∧ Up H.next H H4 ∧ H3.next ≤ H4.next ∧ H4.row H.next = some ⟨33, true, [.int .i64 n, .slice (some ⟨i', o', u'⟩) k c']⟩ ∧ H4.row H'.next = some ⟨80, true, ints (rnd l a)⟩ ∧ Fr2 1 28 2 H1.next H2.next H4 u (midM n l a c)) n ?_ ?_
      · refine ⟨0, by omega, by omega, ?_⟩
        try simp (disch := first | omega | (simp only [ints_length, List.length_replicate, List.length_set]; done) | (simp only [ints_length, List.length_replicate, List.length_set]; omega)) only [Sall,evalOp,init,binE,binI,unE,convE,okNil,builtE,gv,TD.isAgg,resV,↓reduceIte,Nat.reduceEqDiff,reduceCtorEq,Nat.reduceAdd,Nat.reduceMul,Nat.reduceLeDiff,quietOp,blindOp,Int.reduceEq,Int.reduceLT,Int.reduceLE,Nat.reduceLT,ti2,ti3,ti4,ti79,ti80,ti28,ti25,ti31,ti22,ti33,ti24,ti67,ti111,ti100, Int.natCast_zero, h13, h12, h11, h3, h1]
        refine ⟨⟨by omega, fun i hi => by rw [s3 i (by omega), hup.row i hi]⟩, by rw [s3 _ (by omega), hr1], r3, ?_⟩
        rw [midM_zero]
        exact hf'.same fun i _ hi => s3 i (by omega)
      · rintro z t H4 ⟨c, hz, hcn, h19, h18, h5, h13, h12, h11, h3, h1, hup4, hn4, hr4, hr5, hf4⟩
        try simp (disch := first | omega | (simp only [ints_length, List.length_replicate, List.length_set]; done) | (simp only [ints_length, List.length_replicate, List.length_set]; omega)) only [Sall,evalOp,init,binE,binI,unE,convE,okNil,builtE,gv,TD.isAgg,resV,↓reduceIte,Nat.reduceEqDiff,reduceCtorEq,Nat.reduceAdd,Nat.reduceMul,Nat.reduceLeDiff,quietOp,blindOp,Int.reduceEq,Int.reduceLT,Int.reduceLE,Nat.reduceLT,ti2,ti3,ti4,ti79,ti80,ti28,ti25,ti31,ti22,ti33,ti24,ti67,ti111,ti100, h19, h18]
        refine condC_dec (fun hh => ?_) (fun hh => ?_)
        · obtain ⟨_, ha4, ha5, _⟩ := roundB_at hround (a := c) (by omega)
          have hsq := midM_sq n l a c
          by_cases hne : (rnd l a).getD c 0 = (c : Int)
          · have e0 : ((rnd l a).getD c 0 != (c : Int)) = false := by rw [hne]; exact bne_self_eq_false _
            try simp (disch := first | omega | (simp only [ints_length, List.length_replicate, List.length_set]; done) | (simp only [ints_length, List.length_replicate, List.length_set]; omega)) only [Sall,evalOp,init,binE,binI,unE,convE,okNil,builtE,gv,TD.isAgg,resV,↓reduceIte,Nat.reduceEqDiff,reduceCtorEq,Nat.reduceAdd,Nat.reduceMul,Nat.reduceLeDiff,quietOp,blindOp,Int.reduceEq,Int.reduceLT,Int.reduceLE,Nat.reduceLT,ti2,ti3,ti4,ti79,ti80,ti28,ti25,ti31,ti22,ti33,ti24,ti67,ti111,ti100, h19, h5, hr5, ints_get?, e0, h18, h13, h12, h11, h3, h1, w64]
            (repeat refine And.intro (by omega) ?_)
            refine ⟨n - (c + 1), by omega, c + 1, rfl, by omega, rfl, hup4, hn4, hr4, ?_⟩
            rw [midM_same (by omega) hne]; exact hf4
          · have e0 : ((rnd l a).getD c 0 != (c : Int)) = true := by simpa using hne
            have hrow := hsq.2 c (by omega)
            obtain ⟨mi, mvs, i6, rfl, q1, q2, q3, q4, q5, q6, q7, q8, q9⟩ := hf4.setF (j := c) (by rw [hsq.1]; omega) (by omega)
            have ne6 : ¬ H'.next = i6 := by omega
            have ne7 : ¬ H.next = i6 := by omega
            have hMl := hsq.1
            rw [hrow] at q4
            try simp (disch := first | omega | (simp only [ints_length, List.length_replicate, List.length_set]; done) | (simp only [ints_length, List.length_replicate, List.length_set]; omega)) only [Sall,evalOp,init,binE,binI,unE,convE,okNil,builtE,gv,TD.isAgg,resV,↓reduceIte,Nat.reduceEqDiff,reduceCtorEq,Nat.reduceAdd,Nat.reduceMul,Nat.reduceLeDiff,quietOp,blindOp,Int.reduceEq,Int.reduceLT,Int.reduceLE,Nat.reduceLT,ti2,ti3,ti4,ti79,ti80,ti28,ti25,ti31,ti22,ti33,ti24,ti67,ti111,ti100, h19, h5, hr5, ints_get?, e0, h18, h13, h12, h11, h3, h1, w64]
            (repeat refine And.intro (by omega) ?_)
            refine draw_id (by kernel_rfl) (by kernel_rfl) ?_
            try simp (disch := first | omega | (simp only [ints_length, List.length_replicate, List.length_set]; done) | (simp only [ints_length, List.length_replicate, List.length_set]; omega)) only [Sall,evalOp,init,binE,binI,unE,convE,okNil,builtE,gv,TD.isAgg,resV,↓reduceIte,Nat.reduceEqDiff,reduceCtorEq,Nat.reduceAdd,Nat.reduceMul,Nat.reduceLeDiff,quietOp,blindOp,Int.reduceEq,Int.reduceLT,Int.reduceLE,Nat.reduceLT,ti2,ti3,ti4,ti79,ti80,ti28,ti25,ti31,ti22,ti33,ti24,ti67,ti111,ti100, h19, h5, hr5, ints_get?, h3, q3, q4, q8, ints_set]
            rw [hMl]
            (repeat refine And.intro (by omega) ?_)
            refine ⟨.inr (.inl (by kernel_rfl)), ?_⟩
            try simp (disch := first | omega | (simp only [ints_length, List.length_replicate, List.length_set]; done) | (simp only [ints_length, List.length_replicate, List.length_set]; omega)) only [Sall,evalOp,init,binE,binI,unE,convE,okNil,builtE,gv,TD.isAgg,resV,↓reduceIte,Nat.reduceEqDiff,reduceCtorEq,Nat.reduceAdd,Nat.reduceMul,Nat.reduceLeDiff,quietOp,blindOp,Int.reduceEq,Int.reduceLT,Int.reduceLE,Nat.reduceLT,ti2,ti3,ti4,ti79,ti80,ti28,ti25,ti31,ti22,ti33,ti24,ti67,ti111,ti100, h19, h18, h5, h13, h12, h11, h3, h1, w64, ne6, ne7, hr4]
            refine ⟨n - (c + 1), by omega, c + 1, rfl, by omega, rfl, hup4.set (by omega) _, hn4, ?_⟩
            have q10 := q9 (incR ((midM n l a c).getD c []) ((rnd l a).getD c 0)) (incR_length _ _)
            rw [hMl] at q10
            rw [midM_inc (by omega) hne]
            unfold incM
            rw [Int.toNat_natCast]
            exact q10
        · try simp (disch := first | omega | (simp only [ints_length, List.length_replicate, List.length_set]; done) | (simp only [ints_length, List.length_replicate, List.length_set]; omega)) only [Sall,evalOp,init,binE,binI,unE,convE,okNil,builtE,gv,TD.isAgg,resV,↓reduceIte,Nat.reduceEqDiff,reduceCtorEq,Nat.reduceAdd,Nat.reduceMul,Nat.reduceLeDiff,quietOp,blindOp,Int.reduceEq,Int.reduceLT,Int.reduceLE,Nat.reduceLT,ti2,ti3,ti4,ti79,ti80,ti28,ti25,ti31,ti22,ti33,ti24,ti67,ti111,ti100, h13, h12, h11, h3, h1, w64]
          have hc : c = n := by omega
          subst hc
          refine ⟨k - (a + 1), by omega, a + 1, rfl, by omega, rfl, hup4, by omega, hr4, ?_⟩
          rw [← midM_all]; exact hf4
    · have ha : a = k := by omega
      subst ha
      try simp (disch := first | omega | (simp only [ints_length, List.length_replicate, List.length_set]; done) | (simp only [ints_length, List.length_replicate, List.length_set]; omega)) only [Sall,evalOp,init,binE,binI,unE,convE,okNil,builtE,gv,TD.isAgg,resV,↓reduceIte,Nat.reduceEqDiff,reduceCtorEq,Nat.reduceAdd,Nat.reduceMul,Nat.reduceLeDiff,quietOp,blindOp,Int.reduceEq,Int.reduceLT,Int.reduceLE,Nat.reduceLT,ti2,ti3,ti4,ti79,ti80,ti28,ti25,ti31,ti22,ti33,ti24,ti67,ti111,ti100, h3]
      exact ⟨hup, hf'.wide (by omega) hnx⟩

theorem l01Meetings_c (n : Nat) (v : Value) (k : Nat) (l : List Int) (H : AH) (hb : schedB n k l = true) (hv : Rd 14 H v k l) (hk : k ≤ 4294967296) :
    ACalls Try.prog 165 [.agg #[.int .i64 n, v]] H (fun u H' => Up H.next H H' ∧ Fr2 1 28 2 H.next H'.next H' u (meetM n l k)) := by
  refine ACalls.wf (by kernel_rfl) fun hs => acalls_of_awp [.tmp 2] Try.func165 (by kernel_rfl) rfl rfl (Nat.le_of_ble_eq_true rfl) (by kernel_rfl) ?_
  obtain ⟨hn, hk40, hrounds⟩ := schedB_at hb
  have hone := hv.one
  have up : Up H.next H (H.push ⟨33, true, [.int .i64 n, v]⟩) := (Up.refl _ H).push (Nat.le_refl _) _
  have e1 : (H.push ⟨33, true, [.int .i64 n, v]⟩).row H.next = some ⟨33, true, [.int .i64 n, v]⟩ := by rw [AH.push_row, if_pos rfl]
  have n1 : (H.push ⟨33, true, [.int .i64 n, v]⟩).next = H.next + 1 := rfl
  try simp (disch := first | omega | (simp only [ints_length, List.length_replicate, List.length_set]; done) | (simp only [ints_length, List.length_replicate, List.length_set]; omega)) only [Sall,evalOp,init,binE,binI,unE,convE,okNil,builtE,gv,TD.isAgg,resV,↓reduceIte,Nat.reduceEqDiff,reduceCtorEq,Nat.reduceAdd,Nat.reduceMul,Nat.reduceLeDiff,quietOp,blindOp,Int.reduceEq,Int.reduceLT,Int.reduceLE,Nat.reduceLT,ti2,ti3,ti4,ti79,ti80,ti28,ti25,ti31,ti22,ti33,ti24,ti67,ti111,ti100, hone]
  revert up e1 n1
  generalize H.push ⟨33, true, [.int .i64 n, v]⟩ = H1
  intro up e1 n1
  try simp (disch := first | omega | (simp only [ints_length, List.length_replicate, List.length_set]; done) | (simp only [ints_length, List.length_replicate, List.length_set]; omega)) only [Sall,evalOp,init,binE,binI,unE,convE,okNil,builtE,gv,TD.isAgg,resV,↓reduceIte,Nat.reduceEqDiff,reduceCtorEq,Nat.reduceAdd,Nat.reduceMul,Nat.reduceLeDiff,quietOp,blindOp,Int.reduceEq,Int.reduceLT,Int.reduceLE,Nat.reduceLT,ti2,ti3,ti4,ti79,ti80,ti28,ti25,ti31,ti22,ti33,ti24,ti67,ti111,ti100, zeros_zero]
  refine awp_loop (fun m t H' => ∃ (a : Nat) (u : Value) (lo hi : Nat), m = n - a ∧ a ≤ n ∧ t 4 = .int .i64 a ∧ t 3 = u ∧ t 1 = .pointer (some ⟨H.next, 0, none⟩) ∧ Up H.next H H' ∧ H'.row H.next = some ⟨33, true, [.int .i64 n, v]⟩ ∧ H.next < lo ∧ lo ≤ hi ∧ hi ≤ H'.next ∧ Fr2 1 28 2 lo hi H' u ((List.range a).map fun a => rowM n l a k)) n ?_ ?_
  · refine ⟨0, .slice (some ⟨H.next + 1, 0, some 1⟩) 0 0, H.next + 1, H.next + 2, by omega, by omega, ?_⟩
    try simp (disch := first | omega | (simp only [ints_length, List.length_replicate, List.length_set]; done) | (simp only [ints_length, List.length_replicate, List.length_set]; omega)) only [Sall,evalOp,init,binE,binI,unE,convE,okNil,builtE,gv,TD.isAgg,resV,↓reduceIte,Nat.reduceEqDiff,reduceCtorEq,Nat.reduceAdd,Nat.reduceMul,Nat.reduceLeDiff,quietOp,blindOp,Int.reduceEq,Int.reduceLT,Int.reduceLE,Nat.reduceLT,ti2,ti3,ti4,ti79,ti80,ti28,ti25,ti31,ti22,ti33,ti24,ti67,ti111,ti100, Int.natCast_zero]
    refine ⟨up.push (by omega) _, by rw [if_neg (by omega), e1], ?_⟩
    (repeat refine And.intro (by omega) ?_)
    exact .inr ⟨H.next + 1, [], fun _ => H.next + 2, by omega, by omega, rfl, by rw [AH.push_row, if_pos (by omega)], rfl, by dsimp only; omega, by dsimp only; omega, .inl (by dsimp only; omega), fun _ => Nat.le_refl _, fun j hj => by simp at hj⟩
  · rintro m t H' ⟨a, u, lo, hi, hm, h14, h4, h3, h1, hup, hr1, hlo, hlh, hhi, hfr⟩
    try simp (disch := first | omega | (simp only [ints_length, List.length_replicate, List.length_set]; done) | (simp only [ints_length, List.length_replicate, List.length_set]; omega)) only [Sall,evalOp,init,binE,binI,unE,convE,okNil,builtE,gv,TD.isAgg,resV,↓reduceIte,Nat.reduceEqDiff,reduceCtorEq,Nat.reduceAdd,Nat.reduceMul,Nat.reduceLeDiff,quietOp,blindOp,Int.reduceEq,Int.reduceLT,Int.reduceLE,Nat.reduceLT,ti2,ti3,ti4,ti79,ti80,ti28,ti25,ti31,ti22,ti33,ti24,ti67,ti111,ti100, h4, h1, hr1]
    refine condC_dec (fun h => ?_) (fun h => ?_)
    · have zz : zeros 1 [.slice none 0 0] = [.slice none 0 0] := rfl
      have hup1 := hup.next
      have neH : ¬ H.next = H'.next := by omega
      try simp (disch := first | omega | (simp only [ints_length, List.length_replicate, List.length_set]; done) | (simp only [ints_length, List.length_replicate, List.length_set]; omega)) only [Sall,evalOp,init,binE,binI,unE,convE,okNil,builtE,gv,TD.isAgg,resV,↓reduceIte,Nat.reduceEqDiff,reduceCtorEq,Nat.reduceAdd,Nat.reduceMul,Nat.reduceLeDiff,quietOp,blindOp,Int.reduceEq,Int.reduceLT,Int.reduceLE,Nat.reduceLT,ti2,ti3,ti4,ti79,ti80,ti28,ti25,ti31,ti22,ti33,ti24,ti67,ti111,ti100, h1, hr1, zeros_int0]
      (repeat refine And.intro (by omega) ?_)
      obtain ⟨H2, e2⟩ : ∃ H2, H2 = H'.push ⟨2, true, ints (List.replicate n 0)⟩ := ⟨_, rfl⟩
      have n2 : H2.next = H'.next + 1 := by rw [e2]; rfl
      have s2 : ∀ i, i < H'.next → H2.row i = H'.row i := fun i hi => by rw [e2, AH.push_row, if_neg (by omega)]
      have x2 : H2.row H'.next = some ⟨2, true, ints (List.replicate n 0)⟩ := by rw [e2, AH.push_row, if_pos rfl]
      have up2 : Up H.next H H2 := ⟨by omega, fun i hi => by rw [s2 i (by omega), hup.row i hi]⟩
      rw [← e2]
      clear e2
      refine awp_loop (fun z t H3 => ∃ (i : Nat), z = k - i ∧ i ≤ k ∧ t 6 = .int .i64 i ∧ t 5 = .slice (some ⟨H'.next, 0, some 1⟩) n n ∧ t 4 = .int .i64 a ∧ t 3 = u ∧ t 1 = .pointer (some ⟨H.next, 0, none⟩) ∧ H3.next = H2.next ∧ (∀ i, i < H'.next → H3.row i = H'.row i) ∧ H3.row H'.next = some ⟨2, true, ints (rowM n l a i)⟩) k ?_ ?_
      · refine ⟨0, by omega, by omega, ?_⟩
        try simp (disch := first | omega | (simp only [ints_length, List.length_replicate, List.length_set]; done) | (simp only [ints_length, List.length_replicate, List.length_set]; omega)) only [Sall,evalOp,init,binE,binI,unE,convE,okNil,builtE,gv,TD.isAgg,resV,↓reduceIte,Nat.reduceEqDiff,reduceCtorEq,Nat.reduceAdd,Nat.reduceMul,Nat.reduceLeDiff,quietOp,blindOp,Int.reduceEq,Int.reduceLT,Int.reduceLE,Nat.reduceLT,ti2,ti3,ti4,ti79,ti80,ti28,ti25,ti31,ti22,ti33,ti24,ti67,ti111,ti100, Int.natCast_zero, rowM_zero, h4, h3, h1]
        exact ⟨s2, x2⟩
      · rintro z t H3 ⟨i, hz, hik, h6, h5, h4, h3, h1, hn3, s3, x3⟩
        have hr3 : H3.row H.next = some ⟨33, true, [.int .i64 n, v]⟩ := by rw [s3 _ (by omega), hr1]
        try simp (disch := first | omega | (simp only [ints_length, List.length_replicate, List.length_set]; done) | (simp only [ints_length, List.length_replicate, List.length_set]; omega)) only [Sall,evalOp,init,binE,binI,unE,convE,okNil,builtE,gv,TD.isAgg,resV,↓reduceIte,Nat.reduceEqDiff,reduceCtorEq,Nat.reduceAdd,Nat.reduceMul,Nat.reduceLeDiff,quietOp,blindOp,Int.reduceEq,Int.reduceLT,Int.reduceLE,Nat.reduceLT,ti2,ti3,ti4,ti79,ti80,ti28,ti25,ti31,ti22,ti33,ti24,ti67,ti111,ti100, h6, h1, hr3, builtE, hv.len]
        refine condC_dec (fun hh => ?_) (fun hh => ?_)
        · obtain ⟨i', o', u', c', r', rfl, hrB', hc', hs', hg'⟩ := hv.get (by omega)
          have hiB := hs _ _ hrB'
          have hr' : H3.row i' = some r' := by rw [s3 _ (by omega), hup.row _ hiB, hrB']
          have hrl : (rnd l i).length = 14 := rnd_length l i k hv.1 (by omega)
          obtain ⟨_, ha4, ha5, _⟩ := roundB_at (hrounds i (by omega)) (a := a) (by omega)
          have hcell : r'.cells[o' + i * 14 + a]? = some (.int .i64 ((rnd l i).getD a 0)) := by
            have h1 := hs' (i * 14 + a) (by omega)
            rw [← Nat.add_assoc] at h1
            rw [h1]
            congr 2
            unfold rnd
            rw [List.getD_eq_getElem?_getD, List.getD_eq_getElem?_getD, List.getElem?_take, if_pos (by omega), List.getElem?_drop]
          have hrowl := rowM_length n l a i
          by_cases hne : (rnd l i).getD a 0 = (a : Int)
          · have e0 : ((rnd l i).getD a 0 != (a : Int)) = false := by rw [hne]; exact bne_self_eq_false _
            try simp (disch := first | omega | (simp only [ints_length, List.length_replicate, List.length_set]; done) | (simp only [ints_length, List.length_replicate, List.length_set]; omega)) only [Sall,evalOp,init,binE,binI,unE,convE,okNil,builtE,gv,TD.isAgg,resV,↓reduceIte,Nat.reduceEqDiff,reduceCtorEq,Nat.reduceAdd,Nat.reduceMul,Nat.reduceLeDiff,quietOp,blindOp,Int.reduceEq,Int.reduceLT,Int.reduceLE,Nat.reduceLT,ti2,ti3,ti4,ti79,ti80,ti28,ti25,ti31,ti22,ti33,ti24,ti67,ti111,ti100, h6, h5, h4, h3, h1, hr3, hr', hcell, e0, w64]
            (repeat refine And.intro (by omega) ?_)
            refine ⟨k - (i + 1), by omega, i + 1, rfl, by omega, rfl, hn3, s3, ?_⟩
            rw [rowM_succ]; unfold rowStep; rw [if_pos hne]; exact x3
          · have e0 : ((rnd l i).getD a 0 != (a : Int)) = true := by simpa using hne
            try simp (disch := first | omega | (simp only [ints_length, List.length_replicate, List.length_set]; done) | (simp only [ints_length, List.length_replicate, List.length_set]; omega)) only [Sall,evalOp,init,binE,binI,unE,convE,okNil,builtE,gv,TD.isAgg,resV,↓reduceIte,Nat.reduceEqDiff,reduceCtorEq,Nat.reduceAdd,Nat.reduceMul,Nat.reduceLeDiff,quietOp,blindOp,Int.reduceEq,Int.reduceLT,Int.reduceLE,Nat.reduceLT,ti2,ti3,ti4,ti79,ti80,ti28,ti25,ti31,ti22,ti33,ti24,ti67,ti111,ti100, h6, h5, h4, h3, h1, hr3, hr', hcell, e0, x3, ints_get?, ints_set, w64]
            (repeat refine And.intro (by omega) ?_)
            refine ⟨k - (i + 1), by omega, i + 1, rfl, by omega, rfl, hn3, fun j hj => by rw [if_neg (by omega)]; exact s3 j hj, ?_⟩
            rw [rowM_succ]; unfold rowStep; rw [if_neg hne]; rfl
        · have hik2 : i = k := by omega
          subst hik2
          have hrowl := rowM_length n l a i
          have ne1 : ¬ H'.next = H3.next := by omega
          try simp (disch := first | omega | (simp only [ints_length, List.length_replicate, List.length_set]; done) | (simp only [ints_length, List.length_replicate, List.length_set]; omega)) only [Sall,evalOp,init,binE,binI,unE,convE,okNil,builtE,gv,TD.isAgg,resV,↓reduceIte,Nat.reduceEqDiff,reduceCtorEq,Nat.reduceAdd,Nat.reduceMul,Nat.reduceLeDiff,quietOp,blindOp,Int.reduceEq,Int.reduceLT,Int.reduceLE,Nat.reduceLT,ti2,ti3,ti4,ti79,ti80,ti28,ti25,ti31,ti22,ti33,ti24,ti67,ti111,ti100, h5, h4, h3, h1, zz, slCells, x3]
          (repeat refine And.intro (by omega) ?_)
          obtain ⟨H4, e4⟩ : ∃ H4, H4 = H3.push ⟨28, true, [.slice (some ⟨H'.next, 0, some 1⟩) n n]⟩ := ⟨_, rfl⟩
          have n4 : H4.next = H3.next + 1 := by rw [e4]; rfl
          have s4 : ∀ j, j < H3.next → H4.row j = H3.row j := fun j hj => by rw [e4, AH.push_row, if_neg (by omega)]
          rw [← e4]
          clear e4
          refine appE_fr2 (hfr.same fun j _ hj => by rw [s4 j (by omega), s3 j (by omega)]) (m := n) (l := rowM n l a i) ⟨by omega, .inr ⟨H'.next, by omega, by omega, rfl, by rw [s4 _ (by omega), x3]⟩⟩ rfl (by decide) (by simp; omega) hlh (by omega) ?_
          intro v' H5 n5 s5 f5
          try simp (disch := first | omega | (simp only [ints_length, List.length_replicate, List.length_set]; done) | (simp only [ints_length, List.length_replicate, List.length_set]; omega)) only [Sall,evalOp,init,binE,binI,unE,convE,okNil,builtE,gv,TD.isAgg,resV,↓reduceIte,Nat.reduceEqDiff,reduceCtorEq,Nat.reduceAdd,Nat.reduceMul,Nat.reduceLeDiff,quietOp,blindOp,Int.reduceEq,Int.reduceLT,Int.reduceLE,Nat.reduceLT,ti2,ti3,ti4,ti79,ti80,ti28,ti25,ti31,ti22,ti33,ti24,ti67,ti111,ti100, h4, h1, w64]
          refine ⟨n - (a + 1), by omega, a + 1, v', lo, H4.next + 1, rfl, by omega, rfl, rfl, ⟨by omega, fun j hj => ?_⟩, ?_, by omega, by omega, by omega, ?_⟩
          · rw [s5 j (by omega) (by omega), s4 j (by omega), s3 j (by omega), hup.row j hj]
          · rw [s5 _ (by omega) (by omega), s4 _ (by omega), s3 _ (by omega), hr1]
          · rw [List.range_succ, List.map_append]; exact f5
    · have ha : a = n := by omega
      subst ha
      try simp (disch := first | omega | (simp only [ints_length, List.length_replicate, List.length_set]; done) | (simp only [ints_length, List.length_replicate, List.length_set]; omega)) only [Sall,evalOp,init,binE,binI,unE,convE,okNil,builtE,gv,TD.isAgg,resV,↓reduceIte,Nat.reduceEqDiff,reduceCtorEq,Nat.reduceAdd,Nat.reduceMul,Nat.reduceLeDiff,quietOp,blindOp,Int.reduceEq,Int.reduceLT,Int.reduceLE,Nat.reduceLT,ti2,ti3,ti4,ti79,ti80,ti28,ti25,ti31,ti22,ti33,ti24,ti67,ti111,ti100, h3]
      exact ⟨hup, hfr.wide (by omega) hhi⟩
end Go.Proofs.Ytbmpkihggipciaa.A
