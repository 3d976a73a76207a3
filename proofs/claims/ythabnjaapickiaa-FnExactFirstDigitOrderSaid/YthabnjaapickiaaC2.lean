/- Contracts: the circle, on both sides. -/
import Derived.Test.YthabnjaapickiaaC1
set_option linter.unusedSimpArgs false
set_option linter.unusedVariables false
set_option maxRecDepth 100000
--LEN ints_length, List.length_replicate, cround_length, cmid_length, cset_length
namespace Go.Proofs.Ythabnjaapickiaa.A
open Go Go.Abs Go.RowKit

/-- A fresh schedule: its rounds lie in rows of their own. -/
def FrS (q : Int) (n : Nat) (l : List Int) (H : AH) (v : Value) (H' : AH) : Prop := ∃ u, v = .agg #[.int .i64 q, u] ∧ Up H.next H H' ∧ Fr 14 95 H.next H'.next H' u n l

theorem circle_c (n : Nat) (hn : 2 ≤ n ∧ n ≤ 14) (H : AH) : ACalls Try.prog 60 [.int .i64 n] H (FrS n (oddUp n) (circleL n (oddUp n)) H) := by
  refine acalls_of_awp [.cell 2 30] Try.func60 (by kernel_rfl) rfl rfl (Nat.le_of_ble_eq_true rfl) (by kernel_rfl) ?_
  have em : Int.tmod (n : Int) 2 = ((n % 2 : Nat) : Int) := rfl
  have em2 : (n : Int) - 1 + ((n % 2 : Nat) : Int) = (oddUp n : Nat) := by unfold oddUp; omega
  have hm2 : oddUp n ≤ 13 := by unfold oddUp; omega
  have hm3 : n = oddUp n ∨ n = oddUp n + 1 := by unfold oddUp; omega
  try simp (disch := first | omega | (simp only [ints_length, List.length_replicate, cround_length, cmid_length, cset_length]; done) | (simp only [ints_length, List.length_replicate, cround_length, cmid_length, cset_length]; omega)) only [Sall,evalOp,init,binE,binI,unE,convE,okNil,builtE,gv,TD.isAgg,resV,↓reduceIte,Nat.reduceEqDiff,reduceCtorEq,Nat.reduceAdd,Nat.reduceMul,Nat.reduceLeDiff,quietOp,blindOp,Int.reduceEq,Int.reduceLT,Int.reduceLE,Nat.reduceLT,ti2,ti3,ti4,ti94,ti95,ti22,ti46,ti28,ti37,ti30,ti39,ti36,ti114,ti32,ti41, em, w64, em2]
  refine awp_loop (fun m t H' => ∃ (r : Nat) (u : Value), m = oddUp n - r ∧ r ≤ oddUp n ∧ t 17 = .int .i64 r ∧ t 16 = .int .i64 (oddUp n) ∧ t 4 = .int .i64 (oddUp n) ∧ t 0 = .int .i64 n ∧ t 2 = .pointer (some ⟨H.next, 0, none⟩) ∧ t 3 = .pointer (some ⟨H.next + 1, 0, none⟩) ∧
    Up H.next H H' ∧ H.next + 2 ≤ H'.next ∧ H'.row H.next = some ⟨30, true, [.int .i64 0, .slice none 0 0]⟩ ∧ H'.row (H.next + 1) = some ⟨30, true, [.int .i64 n, u]⟩ ∧ Fr 14 95 (H.next + 2) H'.next H' u r (circleL n r)) (oddUp n) ?_ ?_
  · refine ⟨0, .slice none 0 0, by omega, by omega, ?_⟩
    try simp (disch := first | omega | (simp only [ints_length, List.length_replicate, cround_length, cmid_length, cset_length]; done) | (simp only [ints_length, List.length_replicate, cround_length, cmid_length, cset_length]; omega)) only [Sall,evalOp,init,binE,binI,unE,convE,okNil,builtE,gv,TD.isAgg,resV,↓reduceIte,Nat.reduceEqDiff,reduceCtorEq,Nat.reduceAdd,Nat.reduceMul,Nat.reduceLeDiff,quietOp,blindOp,Int.reduceEq,Int.reduceLT,Int.reduceLE,Nat.reduceLT,ti2,ti3,ti4,ti94,ti95,ti22,ti46,ti28,ti37,ti30,ti39,ti36,ti114,ti32,ti41, Int.natCast_zero]
    exact ⟨(((Up.refl _ H).push (by omega) _).push (Nat.le_succ _) _).set (by omega) _, by simp [circleL], .inl ⟨rfl, rfl⟩⟩
  · rintro m t H' ⟨r, u, hm, hr, h17, h16, h4, h0, h2, h3, hup, hnx, hr0, hr1, hfr⟩
    try simp (disch := first | omega | (simp only [ints_length, List.length_replicate, cround_length, cmid_length, cset_length]; done) | (simp only [ints_length, List.length_replicate, cround_length, cmid_length, cset_length]; omega)) only [Sall,evalOp,init,binE,binI,unE,convE,okNil,builtE,gv,TD.isAgg,resV,↓reduceIte,Nat.reduceEqDiff,reduceCtorEq,Nat.reduceAdd,Nat.reduceMul,Nat.reduceLeDiff,quietOp,blindOp,Int.reduceEq,Int.reduceLT,Int.reduceLE,Nat.reduceLT,ti2,ti3,ti4,ti94,ti95,ti22,ti46,ti28,ti37,ti30,ti39,ti36,ti114,ti32,ti41, h17, h16]
    refine condC_dec (fun h => ?_) (fun h => ?_)
    · try simp (disch := first | omega | (simp only [ints_length, List.length_replicate, cround_length, cmid_length, cset_length]; done) | (simp only [ints_length, List.length_replicate, cround_length, cmid_length, cset_length]; omega)) only [Sall,evalOp,init,binE,binI,unE,convE,okNil,builtE,gv,TD.isAgg,resV,↓reduceIte,Nat.reduceEqDiff,reduceCtorEq,Nat.reduceAdd,Nat.reduceMul,Nat.reduceLeDiff,quietOp,blindOp,Int.reduceEq,Int.reduceLT,Int.reduceLE,Nat.reduceLT,ti2,ti3,ti4,ti94,ti95,ti22,ti46,ti28,ti37,ti30,ti39,ti36,ti114,ti32,ti41, h17, h16, h0, h4, h2, h3]
      refine (free_c n (by omega) H').to ?_
      try simp (disch := first | omega | (simp only [ints_length, List.length_replicate, cround_length, cmid_length, cset_length]; done) | (simp only [ints_length, List.length_replicate, cround_length, cmid_length, cset_length]; omega)) only [Sall,evalOp,init,binE,binI,unE,convE,okNil,builtE,gv,TD.isAgg,resV,↓reduceIte,Nat.reduceEqDiff,reduceCtorEq,Nat.reduceAdd,Nat.reduceMul,Nat.reduceLeDiff,quietOp,blindOp,Int.reduceEq,Int.reduceLT,Int.reduceLE,Nat.reduceLT,ti2,ti3,ti4,ti94,ti95,ti22,ti46,ti28,ti37,ti30,ti39,ti36,ti114,ti32,ti41, h17, h16, h0, h4, h2, h3, freeL_length]
      refine awp_loop (fun m' t H'' => ∃ k : Nat, m' = oddUp n - k ∧ k ≤ oddUp n ∧ t 23 = .int .i64 k ∧ t 22 = .int .i64 (oddUp n) ∧ t 5 = .int .i64 r ∧ t 6 = .pointer (some ⟨H'.next, 0, none⟩) ∧ t 17 = .int .i64 r ∧ t 16 = .int .i64 (oddUp n) ∧ t 4 = .int .i64 (oddUp n) ∧ t 0 = .int .i64 n ∧ t 2 = .pointer (some ⟨H.next, 0, none⟩) ∧ t 3 = .pointer (some ⟨H.next + 1, 0, none⟩) ∧
        Up H'.next H' H'' ∧ H''.next = H'.next + 1 ∧ H''.row H'.next = some ⟨95, true, ints (cmid n r k)⟩) (oddUp n) ?_ ?_
      · refine ⟨0, by omega, by omega, ?_⟩
        try simp (disch := first | omega | (simp only [ints_length, List.length_replicate, cround_length, cmid_length, cset_length]; done) | (simp only [ints_length, List.length_replicate, cround_length, cmid_length, cset_length]; omega)) only [Sall,evalOp,init,binE,binI,unE,convE,okNil,builtE,gv,TD.isAgg,resV,↓reduceIte,Nat.reduceEqDiff,reduceCtorEq,Nat.reduceAdd,Nat.reduceMul,Nat.reduceLeDiff,quietOp,blindOp,Int.reduceEq,Int.reduceLT,Int.reduceLE,Nat.reduceLT,ti2,ti3,ti4,ti94,ti95,ti22,ti46,ti28,ti37,ti30,ti39,ti36,ti114,ti32,ti41, Int.natCast_zero, h17, h16, h0, h4, h2, h3]
        refine ⟨((Up.refl _ H').push (by omega) _).set (by omega) _, ?_⟩
        rw [cmid_zero n (by omega) r (by omega)]; rfl
      · rintro m' t H'' ⟨k, hm', hk, h23, h22, h5, h6, h17, h16, h4, h0, h2, h3, hup2, hnx2, hr2⟩
        try simp (disch := first | omega | (simp only [ints_length, List.length_replicate, cround_length, cmid_length, cset_length]; done) | (simp only [ints_length, List.length_replicate, cround_length, cmid_length, cset_length]; omega)) only [Sall,evalOp,init,binE,binI,unE,convE,okNil,builtE,gv,TD.isAgg,resV,↓reduceIte,Nat.reduceEqDiff,reduceCtorEq,Nat.reduceAdd,Nat.reduceMul,Nat.reduceLeDiff,quietOp,blindOp,Int.reduceEq,Int.reduceLT,Int.reduceLE,Nat.reduceLT,ti2,ti3,ti4,ti94,ti95,ti22,ti46,ti28,ti37,ti30,ti39,ti36,ti114,ti32,ti41, h23, h22]
        refine condC_dec (fun hk' => ?_) (fun hk' => ?_)
        · have hb := cb_range n (by omega) r (by omega) k (by omega)
          have eb : Int.tmod (2 * (r : Int) - (k : Int) + (oddUp n : Int)) (oddUp n : Int) = cb (oddUp n) r k := rfl
          have st := cmid_step n (by omega) r (by omega) k (by omega)
          try simp (disch := first | omega | (simp only [ints_length, List.length_replicate, cround_length, cmid_length, cset_length]; done) | (simp only [ints_length, List.length_replicate, cround_length, cmid_length, cset_length]; omega)) only [Sall,evalOp,init,binE,binI,unE,convE,okNil,builtE,gv,TD.isAgg,resV,↓reduceIte,Nat.reduceEqDiff,reduceCtorEq,Nat.reduceAdd,Nat.reduceMul,Nat.reduceLeDiff,quietOp,blindOp,Int.reduceEq,Int.reduceLT,Int.reduceLE,Nat.reduceLT,ti2,ti3,ti4,ti94,ti95,ti22,ti46,ti28,ti37,ti30,ti39,ti36,ti114,ti32,ti41, h23, h22, h5, h4, w64, eb]
          refine ⟨by omega, ?_⟩
          refine condC_dec (fun hlt => ?_) (fun hlt => ?_)
          · try simp (disch := first | omega | (simp only [ints_length, List.length_replicate, cround_length, cmid_length, cset_length]; done) | (simp only [ints_length, List.length_replicate, cround_length, cmid_length, cset_length]; omega)) only [Sall,evalOp,init,binE,binI,unE,convE,okNil,builtE,gv,TD.isAgg,resV,↓reduceIte,Nat.reduceEqDiff,reduceCtorEq,Nat.reduceAdd,Nat.reduceMul,Nat.reduceLeDiff,quietOp,blindOp,Int.reduceEq,Int.reduceLT,Int.reduceLE,Nat.reduceLT,ti2,ti3,ti4,ti94,ti95,ti22,ti46,ti28,ti37,ti30,ti39,ti36,ti114,ti32,ti41, h23, h22, h5, h6]
            refine (meet_c H'.next _ _ _ _ H'' hr2 (cmid_length _ _ _) ⟨by omega, by omega⟩ ⟨by omega, by omega⟩).to ?_
            rw [if_pos hlt] at st
            try simp (disch := first | omega | (simp only [ints_length, List.length_replicate, cround_length, cmid_length, cset_length]; done) | (simp only [ints_length, List.length_replicate, cround_length, cmid_length, cset_length]; omega)) only [Sall,evalOp,init,binE,binI,unE,convE,okNil,builtE,gv,TD.isAgg,resV,↓reduceIte,Nat.reduceEqDiff,reduceCtorEq,Nat.reduceAdd,Nat.reduceMul,Nat.reduceLeDiff,quietOp,blindOp,Int.reduceEq,Int.reduceLT,Int.reduceLE,Nat.reduceLT,ti2,ti3,ti4,ti94,ti95,ti22,ti46,ti28,ti37,ti30,ti39,ti36,ti114,ti32,ti41, h23, h22, h5, h6, h17, h16, h4, h0, h2, h3, w64, st, hr2]
            exact ⟨oddUp n - (k + 1), by omega, k + 1, rfl, by omega, by omega, hup2.set (Nat.le_refl _) _, hnx2, rfl⟩
          · rw [if_neg hlt] at st
            try simp (disch := first | omega | (simp only [ints_length, List.length_replicate, cround_length, cmid_length, cset_length]; done) | (simp only [ints_length, List.length_replicate, cround_length, cmid_length, cset_length]; omega)) only [Sall,evalOp,init,binE,binI,unE,convE,okNil,builtE,gv,TD.isAgg,resV,↓reduceIte,Nat.reduceEqDiff,reduceCtorEq,Nat.reduceAdd,Nat.reduceMul,Nat.reduceLeDiff,quietOp,blindOp,Int.reduceEq,Int.reduceLT,Int.reduceLE,Nat.reduceLT,ti2,ti3,ti4,ti94,ti95,ti22,ti46,ti28,ti37,ti30,ti39,ti36,ti114,ti32,ti41, h23, h22, h5, h6, h17, h16, h4, h0, h2, h3, w64, ← st, hr2]
            exact ⟨oddUp n - (k + 1), by omega, k + 1, rfl, by omega, by omega, hup2, hnx2, by rw [← st]⟩
        · have hkm : k = oddUp n := by omega
          subst hkm
          try simp (disch := first | omega | (simp only [ints_length, List.length_replicate, cround_length, cmid_length, cset_length]; done) | (simp only [ints_length, List.length_replicate, cround_length, cmid_length, cset_length]; omega)) only [Sall,evalOp,init,binE,binI,unE,convE,okNil,builtE,gv,TD.isAgg,resV,↓reduceIte,Nat.reduceEqDiff,reduceCtorEq,Nat.reduceAdd,Nat.reduceMul,Nat.reduceLeDiff,quietOp,blindOp,Int.reduceEq,Int.reduceLT,Int.reduceLE,Nat.reduceLT,ti2,ti3,ti4,ti94,ti95,ti22,ti46,ti28,ti37,ti30,ti39,ti36,ti114,ti32,ti41, h0, em]
          have fin : ∀ H3 : AH, Up H'.next H' H3 → H3.next = H'.next + 1 → H3.row H'.next = some ⟨95, true, ints (cround n r)⟩ →
              H3.row (H.next + 1) = some ⟨30, true, [.int .i64 n, u]⟩ ∧ Fr 14 95 (H.next + 2) H'.next H3 u r (circleL n r) := fun H3 a b c =>
            ⟨by rw [a.row _ (by omega), hr1], hfr.same fun i _ hi => a.row i hi⟩
          have ne1 : ¬ (H.next + 1 = H'.next) := by omega
          have ne2 : ¬ (H.next = H'.next) := by omega
          have hcl := cround_length n r
          by_cases h2n : n % 2 = 0
          · have e0 : (((n % 2 : Nat) : Int) == 0) = true := by rw [h2n]; rfl
            try simp (disch := first | omega | (simp only [ints_length, List.length_replicate, cround_length, cmid_length, cset_length]; done) | (simp only [ints_length, List.length_replicate, cround_length, cmid_length, cset_length]; omega)) only [Sall,evalOp,init,binE,binI,unE,convE,okNil,builtE,gv,TD.isAgg,resV,↓reduceIte,Nat.reduceEqDiff,reduceCtorEq,Nat.reduceAdd,Nat.reduceMul,Nat.reduceLeDiff,quietOp,blindOp,Int.reduceEq,Int.reduceLT,Int.reduceLE,Nat.reduceLT,ti2,ti3,ti4,ti94,ti95,ti22,ti46,ti28,ti37,ti30,ti39,ti36,ti114,ti32,ti41, e0, h0, h5, h6, w64]
            have hm4 : n = oddUp n + 1 := by unfold oddUp; omega
            refine (meet_c H'.next _ _ _ _ H'' hr2 (cmid_length _ _ _) ⟨by omega, by omega⟩ ⟨by omega, by omega⟩).to ?_
            have ec : ((cmid n r (oddUp n)).set ((n : Int) - 1).toNat r).set (r : Int).toNat ((n : Int) - 1) = cround n r := by
              unfold cround; rw [if_pos h2n, show ((n : Int) - 1).toNat = n - 1 by omega, Int.toNat_natCast]
            rw [ec]
            obtain ⟨g1, gf⟩ := fin (H''.setCells H'.next (ints (cround n r))) (hup2.set (Nat.le_refl _) _) hnx2 (by rw [AH.setCells_row, if_pos rfl, hr2]; rfl)
            have g2 : (H''.setCells H'.next (ints (cround n r))).row H'.next = some ⟨95, true, ints (cround n r)⟩ := by rw [AH.setCells_row, if_pos rfl, hr2]; rfl
            have g3 := hup2.set (Nat.le_refl _) (ints (cround n r))
            have g4 : (H''.setCells H'.next (ints (cround n r))).next = H'.next + 1 := hnx2
            revert g1 gf g2 g3 g4
            generalize H''.setCells H'.next (ints (cround n r)) = H3
            intro g1 gf g2 g3 g4
            try simp (disch := first | omega | (simp only [ints_length, List.length_replicate, cround_length, cmid_length, cset_length]; done) | (simp only [ints_length, List.length_replicate, cround_length, cmid_length, cset_length]; omega)) only [Sall,evalOp,init,binE,binI,unE,convE,okNil,builtE,gv,TD.isAgg,resV,↓reduceIte,Nat.reduceEqDiff,reduceCtorEq,Nat.reduceAdd,Nat.reduceMul,Nat.reduceLeDiff,quietOp,blindOp,Int.reduceEq,Int.reduceLT,Int.reduceLE,Nat.reduceLT,ti2,ti3,ti4,ti94,ti95,ti22,ti46,ti28,ti37,ti30,ti39,ti36,ti114,ti32,ti41, h3, h6, g1, g2, g4, hcl, slCells, zeros_one, ne_eq, reduceCtorEq]
            have h3f : Fr 14 95 (H.next + 2) H'.next (H3.push ⟨95, true, ints (cround n r)⟩) u r (circleL n r) := gf.same fun i _ hi => by rw [AH.push_row, if_neg (by omega)]
            refine appE_fr h3f rfl (by omega) (by rw [hcl]) (by omega) (by decide) (by omega) (by rw [AH.push_next]; omega) ?_
            intro v' H4 k1 k2 k3
            rw [AH.push_next] at k1 k2 k3
            have k4 : H4.row (H.next + 1) = some ⟨30, true, [.int .i64 n, u]⟩ := by rw [k2 _ (by omega) (by omega), AH.push_row, if_neg (by omega), g1]
            have k5 := k3.rd.one
            try simp (disch := first | omega | (simp only [ints_length, List.length_replicate, cround_length, cmid_length, cset_length]; done) | (simp only [ints_length, List.length_replicate, cround_length, cmid_length, cset_length]; omega)) only [Sall,evalOp,init,binE,binI,unE,convE,okNil,builtE,gv,TD.isAgg,resV,↓reduceIte,Nat.reduceEqDiff,reduceCtorEq,Nat.reduceAdd,Nat.reduceMul,Nat.reduceLeDiff,quietOp,blindOp,Int.reduceEq,Int.reduceLT,Int.reduceLE,Nat.reduceLT,ti2,ti3,ti4,ti94,ti95,ti22,ti46,ti28,ti37,ti30,ti39,ti36,ti114,ti32,ti41, h3, h6, h17, h16, h4, h0, h2, h3, k4, k5, w64, List.set_cons_succ, List.set_cons_zero]
            refine ⟨oddUp n - (r + 1), by omega, r + 1, v', rfl, by omega, by omega, ?_, by omega, ?_, ?_⟩
            · refine Up.set ⟨by omega, fun i hi => ?_⟩ (by omega) _
              rw [k2 i (by omega) (by omega), AH.push_row, if_neg (by omega), g3.row i (by omega), hup.row i hi]
            · rw [k2 _ (by omega) (by omega), AH.push_row, if_neg (by omega), g3.row _ (by omega), hr0]
            · rw [circleL_succ]
              refine ⟨rfl, (Fr.wide k3 (lo' := H.next + 2) (hi' := H4.next) (by omega) (by omega)).same ?_⟩
              intro i hi _
              rw [AH.setCells_row, if_neg (by omega)]
          · have e0 : (((n % 2 : Nat) : Int) == 0) = false := by rw [beq_eq_false_iff_ne]; omega
            try simp (disch := first | omega | (simp only [ints_length, List.length_replicate, cround_length, cmid_length, cset_length]; done) | (simp only [ints_length, List.length_replicate, cround_length, cmid_length, cset_length]; omega)) only [Sall,evalOp,init,binE,binI,unE,convE,okNil,builtE,gv,TD.isAgg,resV,↓reduceIte,Nat.reduceEqDiff,reduceCtorEq,Nat.reduceAdd,Nat.reduceMul,Nat.reduceLeDiff,quietOp,blindOp,Int.reduceEq,Int.reduceLT,Int.reduceLE,Nat.reduceLT,ti2,ti3,ti4,ti94,ti95,ti22,ti46,ti28,ti37,ti30,ti39,ti36,ti114,ti32,ti41, e0, h0, h5, h6, w64]
            have ec : cmid n r (oddUp n) = cround n r := by
              unfold cround; rw [if_neg h2n]
            rw [ec] at hr2
            obtain ⟨g1, gf⟩ := fin H'' hup2 hnx2 hr2
            have g2 := hr2
            have g3 := hup2
            have g4 := hnx2
            revert g1 gf g2 g3 g4
            generalize H'' = H3
            intro g1 gf g2 g3 g4
            try simp (disch := first | omega | (simp only [ints_length, List.length_replicate, cround_length, cmid_length, cset_length]; done) | (simp only [ints_length, List.length_replicate, cround_length, cmid_length, cset_length]; omega)) only [Sall,evalOp,init,binE,binI,unE,convE,okNil,builtE,gv,TD.isAgg,resV,↓reduceIte,Nat.reduceEqDiff,reduceCtorEq,Nat.reduceAdd,Nat.reduceMul,Nat.reduceLeDiff,quietOp,blindOp,Int.reduceEq,Int.reduceLT,Int.reduceLE,Nat.reduceLT,ti2,ti3,ti4,ti94,ti95,ti22,ti46,ti28,ti37,ti30,ti39,ti36,ti114,ti32,ti41, h3, h6, g1, g2, g4, hcl, slCells, zeros_one, ne_eq, reduceCtorEq]
            have h3f : Fr 14 95 (H.next + 2) H'.next (H3.push ⟨95, true, ints (cround n r)⟩) u r (circleL n r) := gf.same fun i _ hi => by rw [AH.push_row, if_neg (by omega)]
            refine appE_fr h3f rfl (by omega) (by rw [hcl]) (by omega) (by decide) (by omega) (by rw [AH.push_next]; omega) ?_
            intro v' H4 k1 k2 k3
            rw [AH.push_next] at k1 k2 k3
            have k4 : H4.row (H.next + 1) = some ⟨30, true, [.int .i64 n, u]⟩ := by rw [k2 _ (by omega) (by omega), AH.push_row, if_neg (by omega), g1]
            have k5 := k3.rd.one
            try simp (disch := first | omega | (simp only [ints_length, List.length_replicate, cround_length, cmid_length, cset_length]; done) | (simp only [ints_length, List.length_replicate, cround_length, cmid_length, cset_length]; omega)) only [Sall,evalOp,init,binE,binI,unE,convE,okNil,builtE,gv,TD.isAgg,resV,↓reduceIte,Nat.reduceEqDiff,reduceCtorEq,Nat.reduceAdd,Nat.reduceMul,Nat.reduceLeDiff,quietOp,blindOp,Int.reduceEq,Int.reduceLT,Int.reduceLE,Nat.reduceLT,ti2,ti3,ti4,ti94,ti95,ti22,ti46,ti28,ti37,ti30,ti39,ti36,ti114,ti32,ti41, h3, h6, h17, h16, h4, h0, h2, h3, k4, k5, w64, List.set_cons_succ, List.set_cons_zero]
            refine ⟨oddUp n - (r + 1), by omega, r + 1, v', rfl, by omega, by omega, ?_, by omega, ?_, ?_⟩
            · refine Up.set ⟨by omega, fun i hi => ?_⟩ (by omega) _
              rw [k2 i (by omega) (by omega), AH.push_row, if_neg (by omega), g3.row i (by omega), hup.row i hi]
            · rw [k2 _ (by omega) (by omega), AH.push_row, if_neg (by omega), g3.row _ (by omega), hr0]
            · rw [circleL_succ]
              refine ⟨rfl, (Fr.wide k3 (lo' := H.next + 2) (hi' := H4.next) (by omega) (by omega)).same ?_⟩
              intro i hi _
              rw [AH.setCells_row, if_neg (by omega)]
    · have hrm : r = oddUp n := by omega
      have hne : ¬ (H.next + 1 = H.next) := by omega
      try simp (disch := first | omega | (simp only [ints_length, List.length_replicate, cround_length, cmid_length, cset_length]; done) | (simp only [ints_length, List.length_replicate, cround_length, cmid_length, cset_length]; omega)) only [Sall,evalOp,init,binE,binI,unE,convE,okNil,builtE,gv,TD.isAgg,resV,↓reduceIte,Nat.reduceEqDiff,reduceCtorEq,Nat.reduceAdd,Nat.reduceMul,Nat.reduceLeDiff,quietOp,blindOp,Int.reduceEq,Int.reduceLT,Int.reduceLE,Nat.reduceLT,ti2,ti3,ti4,ti94,ti95,ti22,ti46,ti28,ti37,ti30,ti39,ti36,ti114,ti32,ti41, h3, h2, hr0, hr1]
      refine ⟨u, rfl, hup.set (Nat.le_refl _) _, ?_⟩
      rw [← hrm]
      exact (Fr.wide (hfr.same (H' := H'.setCells H.next [.int .i64 n, u]) fun i hi _ => by rw [AH.setCells_row, if_neg (by omega)]) (by omega) (by rw [AH.setCells_next]; omega))

theorem circleS_c (n : Nat) (hn : 2 ≤ n ∧ n ≤ 14) (H : AH) : ACalls Try.prog 105 [.int .i64 n] H (FrS n (oddUp n) (circleL n (oddUp n)) H) := by
  refine acalls_of_awp [.cell 2 30] Try.func105 (by kernel_rfl) rfl rfl (Nat.le_of_ble_eq_true rfl) (by kernel_rfl) ?_
  have em : Int.tmod (n : Int) 2 = ((n % 2 : Nat) : Int) := rfl
  have em2 : (n : Int) - 1 + ((n % 2 : Nat) : Int) = (oddUp n : Nat) := by unfold oddUp; omega
  have hm2 : oddUp n ≤ 13 := by unfold oddUp; omega
  have hm3 : n = oddUp n ∨ n = oddUp n + 1 := by unfold oddUp; omega
  try simp (disch := first | omega | (simp only [ints_length, List.length_replicate, cround_length, cmid_length, cset_length]; done) | (simp only [ints_length, List.length_replicate, cround_length, cmid_length, cset_length]; omega)) only [Sall,evalOp,init,binE,binI,unE,convE,okNil,builtE,gv,TD.isAgg,resV,↓reduceIte,Nat.reduceEqDiff,reduceCtorEq,Nat.reduceAdd,Nat.reduceMul,Nat.reduceLeDiff,quietOp,blindOp,Int.reduceEq,Int.reduceLT,Int.reduceLE,Nat.reduceLT,ti2,ti3,ti4,ti94,ti95,ti22,ti46,ti28,ti37,ti30,ti39,ti36,ti114,ti32,ti41, em, w64, em2, zeros_zero]
  refine awp_loop (fun m t H' => ∃ (r : Nat) (u : Value) (lo hi : Nat), m = oddUp n - r ∧ r ≤ oddUp n ∧ t 5 = .int .i64 r ∧ t 3 = .int .i64 (oddUp n) ∧ t 0 = .int .i64 n ∧ t 2 = .pointer (some ⟨H.next, 0, none⟩) ∧ t 4 = .pointer (some ⟨H.next + 2, 0, none⟩) ∧
    Up H.next H H' ∧ H'.row H.next = some ⟨30, true, [.int .i64 0, .slice none 0 0]⟩ ∧ H'.row (H.next + 2) = some ⟨30, true, [.int .i64 n, u]⟩ ∧ Fr 14 95 lo hi H' u r (circleL n r) ∧ H.next < lo ∧ hi ≤ H'.next ∧ (hi ≤ H.next + 2 ∨ H.next + 2 < lo) ∧ H.next + 3 ≤ H'.next) (oddUp n) ?_ ?_
  · refine ⟨0, .slice (some ⟨H.next + 1, 0, some 14⟩) 0 0, H.next + 1, H.next + 2, by omega, by omega, ?_⟩
    try simp (disch := first | omega | (simp only [ints_length, List.length_replicate, cround_length, cmid_length, cset_length]; done) | (simp only [ints_length, List.length_replicate, cround_length, cmid_length, cset_length]; omega)) only [Sall,evalOp,init,binE,binI,unE,convE,okNil,builtE,gv,TD.isAgg,resV,↓reduceIte,Nat.reduceEqDiff,reduceCtorEq,Nat.reduceAdd,Nat.reduceMul,Nat.reduceLeDiff,quietOp,blindOp,Int.reduceEq,Int.reduceLT,Int.reduceLE,Nat.reduceLT,ti2,ti3,ti4,ti94,ti95,ti22,ti46,ti28,ti37,ti30,ti39,ti36,ti114,ti32,ti41, Int.natCast_zero]
    exact ⟨((((Up.refl _ H).push (by omega) _).push (Nat.le_succ _) _).push (Nat.le_succ_of_le (Nat.le_succ _)) _).set (by omega) _, ⟨by simp [circleL], .inr ⟨H.next + 1, by omega, by omega, rfl, by simp [AH.push_row, AH.setCells_row, AH.push_next, circleL, ints]⟩⟩, by omega, by omega⟩
  · rintro m t H' ⟨r, u, lo, hi, hm, hr, h5, h3, h0, h2, h4, hup, hr0, hr1, hfr, hlo, hhi, hx, hnx⟩
    try simp (disch := first | omega | (simp only [ints_length, List.length_replicate, cround_length, cmid_length, cset_length]; done) | (simp only [ints_length, List.length_replicate, cround_length, cmid_length, cset_length]; omega)) only [Sall,evalOp,init,binE,binI,unE,convE,okNil,builtE,gv,TD.isAgg,resV,↓reduceIte,Nat.reduceEqDiff,reduceCtorEq,Nat.reduceAdd,Nat.reduceMul,Nat.reduceLeDiff,quietOp,blindOp,Int.reduceEq,Int.reduceLT,Int.reduceLE,Nat.reduceLT,ti2,ti3,ti4,ti94,ti95,ti22,ti46,ti28,ti37,ti30,ti39,ti36,ti114,ti32,ti41, h5, h3]
    refine condC_dec (fun h => ?_) (fun h => ?_)
    · try simp (disch := first | omega | (simp only [ints_length, List.length_replicate, cround_length, cmid_length, cset_length]; done) | (simp only [ints_length, List.length_replicate, cround_length, cmid_length, cset_length]; omega)) only [Sall,evalOp,init,binE,binI,unE,convE,okNil,builtE,gv,TD.isAgg,resV,↓reduceIte,Nat.reduceEqDiff,reduceCtorEq,Nat.reduceAdd,Nat.reduceMul,Nat.reduceLeDiff,quietOp,blindOp,Int.reduceEq,Int.reduceLT,Int.reduceLE,Nat.reduceLT,ti2,ti3,ti4,ti94,ti95,ti22,ti46,ti28,ti37,ti30,ti39,ti36,ti114,ti32,ti41, h5, h3, h0, h4, h2]
      refine (freeS_c n (by omega) H').to ?_
      try simp (disch := first | omega | (simp only [ints_length, List.length_replicate, cround_length, cmid_length, cset_length]; done) | (simp only [ints_length, List.length_replicate, cround_length, cmid_length, cset_length]; omega)) only [Sall,evalOp,init,binE,binI,unE,convE,okNil,builtE,gv,TD.isAgg,resV,↓reduceIte,Nat.reduceEqDiff,reduceCtorEq,Nat.reduceAdd,Nat.reduceMul,Nat.reduceLeDiff,quietOp,blindOp,Int.reduceEq,Int.reduceLT,Int.reduceLE,Nat.reduceLT,ti2,ti3,ti4,ti94,ti95,ti22,ti46,ti28,ti37,ti30,ti39,ti36,ti114,ti32,ti41, h5, h3, h0, h4, h2, freeL_length]
      refine awp_loop (fun m' t H'' => ∃ k : Nat, m' = oddUp n - k ∧ k ≤ oddUp n ∧ t 7 = .int .i64 k ∧ t 5 = .int .i64 r ∧ t 6 = .pointer (some ⟨H'.next, 0, none⟩) ∧ t 3 = .int .i64 (oddUp n) ∧ t 0 = .int .i64 n ∧ t 2 = .pointer (some ⟨H.next, 0, none⟩) ∧ t 4 = .pointer (some ⟨H.next + 2, 0, none⟩) ∧
        Up H'.next H' H'' ∧ H''.next = H'.next + 1 ∧ H''.row H'.next = some ⟨95, true, ints (cset n r k)⟩) (oddUp n) ?_ ?_
      · refine ⟨0, by omega, by omega, ?_⟩
        try simp (disch := first | omega | (simp only [ints_length, List.length_replicate, cround_length, cmid_length, cset_length]; done) | (simp only [ints_length, List.length_replicate, cround_length, cmid_length, cset_length]; omega)) only [Sall,evalOp,init,binE,binI,unE,convE,okNil,builtE,gv,TD.isAgg,resV,↓reduceIte,Nat.reduceEqDiff,reduceCtorEq,Nat.reduceAdd,Nat.reduceMul,Nat.reduceLeDiff,quietOp,blindOp,Int.reduceEq,Int.reduceLT,Int.reduceLE,Nat.reduceLT,ti2,ti3,ti4,ti94,ti95,ti22,ti46,ti28,ti37,ti30,ti39,ti36,ti114,ti32,ti41, Int.natCast_zero, h5, h3, h0, h4, h2]
        refine ⟨((Up.refl _ H').push (by omega) _).set (by omega) _, ?_⟩
        rw [cset_zero n (by omega) r (by omega)]; rfl
      · rintro m' t H'' ⟨k, hm', hk, h7, h5, h6, h3, h0, h2, h4, hup2, hnx2, hr2⟩
        try simp (disch := first | omega | (simp only [ints_length, List.length_replicate, cround_length, cmid_length, cset_length]; done) | (simp only [ints_length, List.length_replicate, cround_length, cmid_length, cset_length]; omega)) only [Sall,evalOp,init,binE,binI,unE,convE,okNil,builtE,gv,TD.isAgg,resV,↓reduceIte,Nat.reduceEqDiff,reduceCtorEq,Nat.reduceAdd,Nat.reduceMul,Nat.reduceLeDiff,quietOp,blindOp,Int.reduceEq,Int.reduceLT,Int.reduceLE,Nat.reduceLT,ti2,ti3,ti4,ti94,ti95,ti22,ti46,ti28,ti37,ti30,ti39,ti36,ti114,ti32,ti41, h7, h3]
        refine condC_dec (fun hk' => ?_) (fun hk' => ?_)
        · have hb := cb_range n (by omega) r (by omega) k (by omega)
          have eb : Int.tmod (2 * (r : Int) + (oddUp n : Int) - (k : Int)) (oddUp n : Int) = cb (oddUp n) r k := by unfold cb; rw [show 2 * (r : Int) + (oddUp n : Int) - (k : Int) = 2 * (r : Int) - (k : Int) + (oddUp n : Int) by omega]
          have st := cset_step n (by omega) r (by omega) k (by omega)
          have hl := cset_length n r k
          try simp (disch := first | omega | (simp only [ints_length, List.length_replicate, cround_length, cmid_length, cset_length]; done) | (simp only [ints_length, List.length_replicate, cround_length, cmid_length, cset_length]; omega)) only [Sall,evalOp,init,binE,binI,unE,convE,okNil,builtE,gv,TD.isAgg,resV,↓reduceIte,Nat.reduceEqDiff,reduceCtorEq,Nat.reduceAdd,Nat.reduceMul,Nat.reduceLeDiff,quietOp,blindOp,Int.reduceEq,Int.reduceLT,Int.reduceLE,Nat.reduceLT,ti2,ti3,ti4,ti94,ti95,ti22,ti46,ti28,ti37,ti30,ti39,ti36,ti114,ti32,ti41, h7, h5, h3, h6, w64, eb, hr2, hl, ints_set, st, h0, h2, h4]
          exact ⟨by omega, ⟨by omega, by omega⟩, by omega, oddUp n - (k + 1), by omega, k + 1, rfl, by omega, by omega, hup2.set (Nat.le_refl _) _, hnx2, rfl⟩
        · have hkm : k = oddUp n := by omega
          subst hkm
          rw [cset_last n (by omega) r (by omega)] at hr2
          try simp (disch := first | omega | (simp only [ints_length, List.length_replicate, cround_length, cmid_length, cset_length]; done) | (simp only [ints_length, List.length_replicate, cround_length, cmid_length, cset_length]; omega)) only [Sall,evalOp,init,binE,binI,unE,convE,okNil,builtE,gv,TD.isAgg,resV,↓reduceIte,Nat.reduceEqDiff,reduceCtorEq,Nat.reduceAdd,Nat.reduceMul,Nat.reduceLeDiff,quietOp,blindOp,Int.reduceEq,Int.reduceLT,Int.reduceLE,Nat.reduceLT,ti2,ti3,ti4,ti94,ti95,ti22,ti46,ti28,ti37,ti30,ti39,ti36,ti114,ti32,ti41, h0, em]
          have ne1 : ¬ (H.next + 2 = H'.next) := by omega
          have hcl := cround_length n r
          have hml := cmid_length n r (oddUp n)
          have fin : ∀ H3 : AH, Up H'.next H' H3 → H3.next = H'.next + 1 → H3.row H'.next = some ⟨95, true, ints (cround n r)⟩ →
              H3.row (H.next + 2) = some ⟨30, true, [.int .i64 n, u]⟩ ∧ Fr 14 95 lo hi H3 u r (circleL n r) := fun H3 a b c =>
            ⟨by rw [a.row _ (by omega), hr1], hfr.same fun i _ hi => a.row i (by omega)⟩
          by_cases h2n : n % 2 = 0
          · have e0 : (((n % 2 : Nat) : Int) == 0) = true := by rw [h2n]; rfl
            have hm4 : n = oddUp n + 1 := by unfold oddUp; omega
            have ec : ((cmid n r (oddUp n)).set r ((n : Int) - 1)).set ((n : Int) - 1).toNat r = cround n r := by
              unfold cround; rw [if_pos h2n, show ((n : Int) - 1).toNat = n - 1 by omega, List.set_comm _ _ (by omega)]
            have hsl : ((cmid n r (oddUp n)).set r ((n : Int) - 1)).length = 14 := by rw [List.length_set, hml]
            try simp (disch := first | omega | (simp only [ints_length, List.length_replicate, cround_length, cmid_length, cset_length]; done) | (simp only [ints_length, List.length_replicate, cround_length, cmid_length, cset_length]; omega)) only [Sall,evalOp,init,binE,binI,unE,convE,okNil,builtE,gv,TD.isAgg,resV,↓reduceIte,Nat.reduceEqDiff,reduceCtorEq,Nat.reduceAdd,Nat.reduceMul,Nat.reduceLeDiff,quietOp,blindOp,Int.reduceEq,Int.reduceLT,Int.reduceLE,Nat.reduceLT,ti2,ti3,ti4,ti94,ti95,ti22,ti46,ti28,ti37,ti30,ti39,ti36,ti114,ti32,ti41, e0, h0, h5, h6, w64, hr2, hml, ints_set, hsl, ec, AH.setCells_setCells]
            refine ⟨⟨by omega, by omega⟩, by omega, ⟨by omega, by omega⟩, by omega, ?_⟩
            obtain ⟨g1, gf⟩ := fin (H''.setCells H'.next (ints (cround n r))) (hup2.set (Nat.le_refl _) _) hnx2 (by rw [AH.setCells_row, if_pos rfl, hr2]; rfl)
            have g2 : (H''.setCells H'.next (ints (cround n r))).row H'.next = some ⟨95, true, ints (cround n r)⟩ := by rw [AH.setCells_row, if_pos rfl, hr2]; rfl
            have g3 := hup2.set (Nat.le_refl _) (ints (cround n r))
            have g4 : (H''.setCells H'.next (ints (cround n r))).next = H'.next + 1 := hnx2
            revert g1 gf g2 g3 g4
            generalize H''.setCells H'.next (ints (cround n r)) = H3
            intro g1 gf g2 g3 g4
            try simp (disch := first | omega | (simp only [ints_length, List.length_replicate, cround_length, cmid_length, cset_length]; done) | (simp only [ints_length, List.length_replicate, cround_length, cmid_length, cset_length]; omega)) only [Sall,evalOp,init,binE,binI,unE,convE,okNil,builtE,gv,TD.isAgg,resV,↓reduceIte,Nat.reduceEqDiff,reduceCtorEq,Nat.reduceAdd,Nat.reduceMul,Nat.reduceLeDiff,quietOp,blindOp,Int.reduceEq,Int.reduceLT,Int.reduceLE,Nat.reduceLT,ti2,ti3,ti4,ti94,ti95,ti22,ti46,ti28,ti37,ti30,ti39,ti36,ti114,ti32,ti41, h4, h6, g1, g2, g4, hcl, slCells, zeros_one, ne_eq, reduceCtorEq]
            have h3f : Fr 14 95 lo hi (H3.push ⟨95, true, ints (cround n r)⟩) u r (circleL n r) := gf.same fun i _ hi => by rw [AH.push_row, if_neg (by omega)]
            refine appE_fr h3f rfl (by omega) (by rw [hcl]) (by omega) (by decide) (by omega) (by rw [AH.push_next]; omega) ?_
            intro v' H4 k1 k2 k3
            rw [AH.push_next] at k1 k2 k3
            have k4 : H4.row (H.next + 2) = some ⟨30, true, [.int .i64 n, u]⟩ := by rw [k2 _ (by omega) (by omega), AH.push_row, if_neg (by omega), g1]
            have k5 := k3.rd.one
            try simp (disch := first | omega | (simp only [ints_length, List.length_replicate, cround_length, cmid_length, cset_length]; done) | (simp only [ints_length, List.length_replicate, cround_length, cmid_length, cset_length]; omega)) only [Sall,evalOp,init,binE,binI,unE,convE,okNil,builtE,gv,TD.isAgg,resV,↓reduceIte,Nat.reduceEqDiff,reduceCtorEq,Nat.reduceAdd,Nat.reduceMul,Nat.reduceLeDiff,quietOp,blindOp,Int.reduceEq,Int.reduceLT,Int.reduceLE,Nat.reduceLT,ti2,ti3,ti4,ti94,ti95,ti22,ti46,ti28,ti37,ti30,ti39,ti36,ti114,ti32,ti41, h3, h6, h4, h0, h2, h5, k4, k5, w64, List.set_cons_succ, List.set_cons_zero]
            refine ⟨oddUp n - (r + 1), by omega, r + 1, v', H3.next + 1, H3.next + 2, rfl, by omega, by omega, ?_, ?_, rfl, ?_, by omega, by omega, by omega⟩
            · refine Up.set ⟨by omega, fun i hi => ?_⟩ (by omega) _
              rw [k2 i (by omega) (by omega), AH.push_row, if_neg (by omega), g3.row i (by omega), hup.row i hi]
            · rw [k2 _ (by omega) (by omega), AH.push_row, if_neg (by omega), g3.row _ (by omega), hr0]
            · rw [circleL_succ]
              refine k3.same ?_
              intro i hi _
              rw [AH.setCells_row, if_neg (by omega)]
          · have e0 : (((n % 2 : Nat) : Int) == 0) = false := by rw [beq_eq_false_iff_ne]; omega
            try simp (disch := first | omega | (simp only [ints_length, List.length_replicate, cround_length, cmid_length, cset_length]; done) | (simp only [ints_length, List.length_replicate, cround_length, cmid_length, cset_length]; omega)) only [Sall,evalOp,init,binE,binI,unE,convE,okNil,builtE,gv,TD.isAgg,resV,↓reduceIte,Nat.reduceEqDiff,reduceCtorEq,Nat.reduceAdd,Nat.reduceMul,Nat.reduceLeDiff,quietOp,blindOp,Int.reduceEq,Int.reduceLT,Int.reduceLE,Nat.reduceLT,ti2,ti3,ti4,ti94,ti95,ti22,ti46,ti28,ti37,ti30,ti39,ti36,ti114,ti32,ti41, e0, h0, h5, h6, w64]
            have ec : cmid n r (oddUp n) = cround n r := by
              unfold cround; rw [if_neg h2n]
            rw [ec] at hr2
            obtain ⟨g1, gf⟩ := fin H'' hup2 hnx2 hr2
            have g2 := hr2
            have g3 := hup2
            have g4 := hnx2
            revert g1 gf g2 g3 g4
            generalize H'' = H3
            intro g1 gf g2 g3 g4
            try simp (disch := first | omega | (simp only [ints_length, List.length_replicate, cround_length, cmid_length, cset_length]; done) | (simp only [ints_length, List.length_replicate, cround_length, cmid_length, cset_length]; omega)) only [Sall,evalOp,init,binE,binI,unE,convE,okNil,builtE,gv,TD.isAgg,resV,↓reduceIte,Nat.reduceEqDiff,reduceCtorEq,Nat.reduceAdd,Nat.reduceMul,Nat.reduceLeDiff,quietOp,blindOp,Int.reduceEq,Int.reduceLT,Int.reduceLE,Nat.reduceLT,ti2,ti3,ti4,ti94,ti95,ti22,ti46,ti28,ti37,ti30,ti39,ti36,ti114,ti32,ti41, h4, h6, g1, g2, g4, hcl, slCells, zeros_one, ne_eq, reduceCtorEq]
            have h3f : Fr 14 95 lo hi (H3.push ⟨95, true, ints (cround n r)⟩) u r (circleL n r) := gf.same fun i _ hi => by rw [AH.push_row, if_neg (by omega)]
            refine appE_fr h3f rfl (by omega) (by rw [hcl]) (by omega) (by decide) (by omega) (by rw [AH.push_next]; omega) ?_
            intro v' H4 k1 k2 k3
            rw [AH.push_next] at k1 k2 k3
            have k4 : H4.row (H.next + 2) = some ⟨30, true, [.int .i64 n, u]⟩ := by rw [k2 _ (by omega) (by omega), AH.push_row, if_neg (by omega), g1]
            have k5 := k3.rd.one
            try simp (disch := first | omega | (simp only [ints_length, List.length_replicate, cround_length, cmid_length, cset_length]; done) | (simp only [ints_length, List.length_replicate, cround_length, cmid_length, cset_length]; omega)) only [Sall,evalOp,init,binE,binI,unE,convE,okNil,builtE,gv,TD.isAgg,resV,↓reduceIte,Nat.reduceEqDiff,reduceCtorEq,Nat.reduceAdd,Nat.reduceMul,Nat.reduceLeDiff,quietOp,blindOp,Int.reduceEq,Int.reduceLT,Int.reduceLE,Nat.reduceLT,ti2,ti3,ti4,ti94,ti95,ti22,ti46,ti28,ti37,ti30,ti39,ti36,ti114,ti32,ti41, h3, h6, h4, h0, h2, h5, k4, k5, w64, List.set_cons_succ, List.set_cons_zero]
            refine ⟨oddUp n - (r + 1), by omega, r + 1, v', H3.next + 1, H3.next + 2, rfl, by omega, by omega, ?_, ?_, rfl, ?_, by omega, by omega, by omega⟩
            · refine Up.set ⟨by omega, fun i hi => ?_⟩ (by omega) _
              rw [k2 i (by omega) (by omega), AH.push_row, if_neg (by omega), g3.row i (by omega), hup.row i hi]
            · rw [k2 _ (by omega) (by omega), AH.push_row, if_neg (by omega), g3.row _ (by omega), hr0]
            · rw [circleL_succ]
              refine k3.same ?_
              intro i hi _
              rw [AH.setCells_row, if_neg (by omega)]
    · have hrm : r = oddUp n := by omega
      have hne : ¬ (H.next + 2 = H.next) := by omega
      try simp (disch := first | omega | (simp only [ints_length, List.length_replicate, cround_length, cmid_length, cset_length]; done) | (simp only [ints_length, List.length_replicate, cround_length, cmid_length, cset_length]; omega)) only [Sall,evalOp,init,binE,binI,unE,convE,okNil,builtE,gv,TD.isAgg,resV,↓reduceIte,Nat.reduceEqDiff,reduceCtorEq,Nat.reduceAdd,Nat.reduceMul,Nat.reduceLeDiff,quietOp,blindOp,Int.reduceEq,Int.reduceLT,Int.reduceLE,Nat.reduceLT,ti2,ti3,ti4,ti94,ti95,ti22,ti46,ti28,ti37,ti30,ti39,ti36,ti114,ti32,ti41, h4, h2, hr0, hr1]
      refine ⟨u, rfl, hup.set (Nat.le_refl _) _, ?_⟩
      rw [← hrm]
      exact (Fr.wide (hfr.same (H' := H'.setCells H.next [.int .i64 n, u]) fun i hi _ => by rw [AH.setCells_row, if_neg (by omega)]) (by omega) (by rw [AH.setCells_next]; omega))

/-- A fresh desk of two schedules, each in rows of its own. -/
def FrD (q q' : Int) (n n' : Nat) (l l' : List Int) (H : AH) (v : Value) (H' : AH) : Prop := ∃ p : Value × Value × Nat, v = .agg #[.int .i64 q, p.1, .int .i64 q', p.2.1] ∧
  Up H.next H H' ∧ H.next ≤ p.2.2 ∧ p.2.2 ≤ H'.next ∧ Fr 14 95 H.next p.2.2 H' p.1 n l ∧ Fr 14 95 p.2.2 H'.next H' p.2.1 n' l'

theorem l11New_c (H : AH) : ACalls Try.prog 59 [] H (FrD 4 4 3 3 (circleL 4 3) (circleL 4 3) H) := by
  refine acalls_of_awp [.cell 0 32] Try.func59 (by kernel_rfl) rfl rfl (Nat.le_of_ble_eq_true rfl) (by kernel_rfl) ?_
  try simp (disch := first | omega | (simp only [ints_length, List.length_replicate, cround_length, cmid_length, cset_length]; done) | (simp only [ints_length, List.length_replicate, cround_length, cmid_length, cset_length]; omega)) only [Sall,evalOp,init,binE,binI,unE,convE,okNil,builtE,gv,TD.isAgg,resV,↓reduceIte,Nat.reduceEqDiff,reduceCtorEq,Nat.reduceAdd,Nat.reduceMul,Nat.reduceLeDiff,quietOp,blindOp,Int.reduceEq,Int.reduceLT,Int.reduceLE,Nat.reduceLT,ti2,ti3,ti4,ti94,ti95,ti22,ti46,ti28,ti37,ti30,ti39,ti36,ti114,ti32,ti41, true_and]
  refine (circleS_c 4 (by omega) _).ex ?_
  rintro u H1 ⟨hup, hfr⟩
  have r0 : H1.row H.next = some ⟨32, true, [.int .i64 0, .slice none 0 0, .int .i64 0, .slice none 0 0]⟩ := by rw [hup.row _ (by rw [AH.push_next]; omega), AH.push_row, if_pos rfl]
  have n1 := hup.next
  rw [AH.push_next] at hfr n1
  try simp (disch := first | omega | (simp only [ints_length, List.length_replicate, cround_length, cmid_length, cset_length]; done) | (simp only [ints_length, List.length_replicate, cround_length, cmid_length, cset_length]; omega)) only [Sall,evalOp,init,binE,binI,unE,convE,okNil,builtE,gv,TD.isAgg,resV,↓reduceIte,Nat.reduceEqDiff,reduceCtorEq,Nat.reduceAdd,Nat.reduceMul,Nat.reduceLeDiff,quietOp,blindOp,Int.reduceEq,Int.reduceLT,Int.reduceLE,Nat.reduceLT,ti2,ti3,ti4,ti94,ti95,ti22,ti46,ti28,ti37,ti30,ti39,ti36,ti114,ti32,ti41, true_and]
  refine (circleS_c 4 (by omega) _).ex ?_
  rintro u' H2 ⟨hup2, hfr2⟩
  have r2 : H2.row H.next = some ⟨32, true, [.int .i64 0, .slice none 0 0, .int .i64 0, .slice none 0 0]⟩ := by rw [hup2.row _ (by omega), r0]
  have n2 := hup2.next
  try simp (disch := first | omega | (simp only [ints_length, List.length_replicate, cround_length, cmid_length, cset_length]; done) | (simp only [ints_length, List.length_replicate, cround_length, cmid_length, cset_length]; omega)) only [Sall,evalOp,init,binE,binI,unE,convE,okNil,builtE,gv,TD.isAgg,resV,↓reduceIte,Nat.reduceEqDiff,reduceCtorEq,Nat.reduceAdd,Nat.reduceMul,Nat.reduceLeDiff,quietOp,blindOp,Int.reduceEq,Int.reduceLT,Int.reduceLE,Nat.reduceLT,ti2,ti3,ti4,ti94,ti95,ti22,ti46,ti28,ti37,ti30,ti39,ti36,ti114,ti32,ti41, r2]
  refine ⟨(u, u', H1.next), rfl, ?_⟩
  dsimp only
  refine ⟨⟨by rw [AH.setCells_next]; omega, fun i hi => ?_⟩, by omega, by rw [AH.setCells_next]; omega, ?_, ?_⟩
  · rw [AH.setCells_row, if_neg (by omega), hup2.row i (by omega), hup.row i (by rw [AH.push_next]; omega), AH.push_row, if_neg (by omega)]
  · refine (Fr.wide hfr (lo' := H.next + 1) (hi' := H1.next) (by omega) (by omega)).same ?_ |>.wide (by omega) (by omega)
    intro i hi hi2
    rw [AH.setCells_row, if_neg (by omega), hup2.row i (by omega)]
  · refine (Fr.same hfr2 ?_).wide (by omega) (by rw [AH.setCells_next]; omega)
    intro i hi hi2
    rw [AH.setCells_row, if_neg (by omega)]

theorem newDesk_c (H : AH) : ACalls Try.prog 21 [] H (FrD 4 4 3 3 (circleL 4 3) (circleL 4 3) H) := by
  refine acalls_of_awp [.cell 0 32] Try.func21 (by kernel_rfl) rfl rfl (Nat.le_of_ble_eq_true rfl) (by kernel_rfl) ?_
  try simp (disch := first | omega | (simp only [ints_length, List.length_replicate, cround_length, cmid_length, cset_length]; done) | (simp only [ints_length, List.length_replicate, cround_length, cmid_length, cset_length]; omega)) only [Sall,evalOp,init,binE,binI,unE,convE,okNil,builtE,gv,TD.isAgg,resV,↓reduceIte,Nat.reduceEqDiff,reduceCtorEq,Nat.reduceAdd,Nat.reduceMul,Nat.reduceLeDiff,quietOp,blindOp,Int.reduceEq,Int.reduceLT,Int.reduceLE,Nat.reduceLT,ti2,ti3,ti4,ti94,ti95,ti22,ti46,ti28,ti37,ti30,ti39,ti36,ti114,ti32,ti41, true_and]
  refine (circle_c 4 (by omega) _).ex ?_
  rintro u H1 ⟨hup, hfr⟩
  have r0 : H1.row H.next = some ⟨32, true, [.int .i64 0, .slice none 0 0, .int .i64 0, .slice none 0 0]⟩ := by rw [hup.row _ (by rw [AH.push_next]; omega), AH.push_row, if_pos rfl]
  have n1 := hup.next
  rw [AH.push_next] at hfr n1
  try simp (disch := first | omega | (simp only [ints_length, List.length_replicate, cround_length, cmid_length, cset_length]; done) | (simp only [ints_length, List.length_replicate, cround_length, cmid_length, cset_length]; omega)) only [Sall,evalOp,init,binE,binI,unE,convE,okNil,builtE,gv,TD.isAgg,resV,↓reduceIte,Nat.reduceEqDiff,reduceCtorEq,Nat.reduceAdd,Nat.reduceMul,Nat.reduceLeDiff,quietOp,blindOp,Int.reduceEq,Int.reduceLT,Int.reduceLE,Nat.reduceLT,ti2,ti3,ti4,ti94,ti95,ti22,ti46,ti28,ti37,ti30,ti39,ti36,ti114,ti32,ti41, true_and]
  refine (circle_c 4 (by omega) _).ex ?_
  rintro u' H2 ⟨hup2, hfr2⟩
  have r2 : H2.row H.next = some ⟨32, true, [.int .i64 0, .slice none 0 0, .int .i64 0, .slice none 0 0]⟩ := by rw [hup2.row _ (by omega), r0]
  have n2 := hup2.next
  try simp (disch := first | omega | (simp only [ints_length, List.length_replicate, cround_length, cmid_length, cset_length]; done) | (simp only [ints_length, List.length_replicate, cround_length, cmid_length, cset_length]; omega)) only [Sall,evalOp,init,binE,binI,unE,convE,okNil,builtE,gv,TD.isAgg,resV,↓reduceIte,Nat.reduceEqDiff,reduceCtorEq,Nat.reduceAdd,Nat.reduceMul,Nat.reduceLeDiff,quietOp,blindOp,Int.reduceEq,Int.reduceLT,Int.reduceLE,Nat.reduceLT,ti2,ti3,ti4,ti94,ti95,ti22,ti46,ti28,ti37,ti30,ti39,ti36,ti114,ti32,ti41, r2]
  refine ⟨(u, u', H1.next), rfl, ?_⟩
  dsimp only
  refine ⟨⟨by rw [AH.setCells_next]; omega, fun i hi => ?_⟩, by omega, by rw [AH.setCells_next]; omega, ?_, ?_⟩
  · rw [AH.setCells_row, if_neg (by omega), hup2.row i (by omega), hup.row i (by rw [AH.push_next]; omega), AH.push_row, if_neg (by omega)]
  · refine (Fr.wide hfr (lo' := H.next + 1) (hi' := H1.next) (by omega) (by omega)).same ?_ |>.wide (by omega) (by omega)
    intro i hi hi2
    rw [AH.setCells_row, if_neg (by omega), hup2.row i (by omega)]
  · refine (Fr.same hfr2 ?_).wide (by omega) (by rw [AH.setCells_next]; omega)
    intro i hi hi2
    rw [AH.setCells_row, if_neg (by omega)]

theorem specNewDesk_c (H : AH) : ACalls Try.prog 20 [] H (FrD 4 4 3 3 (circleL 4 3) (circleL 4 3) H) := by
  refine acalls_of_awp [.cell 0 32] Try.func20 (by kernel_rfl) rfl rfl (Nat.le_of_ble_eq_true rfl) (by kernel_rfl) ?_
  try simp (disch := first | omega | (simp only [ints_length, List.length_replicate, cround_length, cmid_length, cset_length]; done) | (simp only [ints_length, List.length_replicate, cround_length, cmid_length, cset_length]; omega)) only [Sall,evalOp,init,binE,binI,unE,convE,okNil,builtE,gv,TD.isAgg,resV,↓reduceIte,Nat.reduceEqDiff,reduceCtorEq,Nat.reduceAdd,Nat.reduceMul,Nat.reduceLeDiff,quietOp,blindOp,Int.reduceEq,Int.reduceLT,Int.reduceLE,Nat.reduceLT,ti2,ti3,ti4,ti94,ti95,ti22,ti46,ti28,ti37,ti30,ti39,ti36,ti114,ti32,ti41, true_and]
  refine (l11New_c _).ex ?_
  rintro ⟨u, u', k⟩ H1 ⟨hup, a1, a2, hfr, hfr2⟩
  have r0 : H1.row H.next = some ⟨32, true, [.int .i64 0, .slice none 0 0, .int .i64 0, .slice none 0 0]⟩ := by rw [hup.row _ (by rw [AH.push_next]; omega), AH.push_row, if_pos rfl]
  have n1 := hup.next
  rw [AH.push_next] at n1 a1
  simp only at a1 a2 hfr hfr2
  rw [AH.push_next] at hfr
  try simp (disch := first | omega | (simp only [ints_length, List.length_replicate, cround_length, cmid_length, cset_length]; done) | (simp only [ints_length, List.length_replicate, cround_length, cmid_length, cset_length]; omega)) only [Sall,evalOp,init,binE,binI,unE,convE,okNil,builtE,gv,TD.isAgg,resV,↓reduceIte,Nat.reduceEqDiff,reduceCtorEq,Nat.reduceAdd,Nat.reduceMul,Nat.reduceLeDiff,quietOp,blindOp,Int.reduceEq,Int.reduceLT,Int.reduceLE,Nat.reduceLT,ti2,ti3,ti4,ti94,ti95,ti22,ti46,ti28,ti37,ti30,ti39,ti36,ti114,ti32,ti41, r0]
  refine ⟨(u, u', k), rfl, ?_⟩
  dsimp only
  refine ⟨⟨by rw [AH.setCells_next]; omega, fun i hi => ?_⟩, by omega, by rw [AH.setCells_next]; omega, ?_, ?_⟩
  · rw [AH.setCells_row, if_neg (by omega), hup.row i (by rw [AH.push_next]; omega), AH.push_row, if_neg (by omega)]
  · refine (Fr.same hfr ?_).wide (by omega) (by omega)
    intro i hi hi2
    rw [AH.setCells_row, if_neg (by omega)]
  · refine (Fr.same hfr2 ?_).wide (by omega) (by rw [AH.setCells_next]; omega)
    intro i hi hi2
    rw [AH.setCells_row, if_neg (by omega)]
end Go.Proofs.Ythabnjaapickiaa.A
