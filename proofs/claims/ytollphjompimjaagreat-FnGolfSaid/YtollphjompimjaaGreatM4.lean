/- Contracts: who meets whom at golfs. And what follows. -/
import Derived.Test.YtollphjompimjaaGreatM3
set_option linter.unusedSimpArgs false
set_option linter.unusedVariables false
section
set_option maxRecDepth 100000
set_option maxHeartbeats 2000000
namespace Go.Proofs.YtollphjompimjaaGreat.A
open Go Go.Abs Go.RowKit
theorem gMeetings_c (n g c : Nat) (hg : 2 ≤ g) (hn : n = g * c) (hn25 : n ≤ 25) (hgn : g ≤ n) (v : Value) (R : List (List Int)) (H : AH) (hv : Rg H v R) (hl : R.length ≤ 12) (hR : ∀ i, i < R.length → ordB n (R.getD i []) = true) :
    ACalls Tryz.prog 38 [.agg #[.int .i64 n, .int .i64 g, v]] H (fun w H' => Ow H H' [.sl2 (Value.int .i64) 28 2 w (gmM n g R)]) := by
  refine ACalls.wf (by kernel_rfl) fun hs => acalls_of_awp [.tmp 2] Tryz.func38 (by kernel_rfl) rfl rfl (Nat.le_of_ble_eq_true rfl) (by kernel_rfl) ?_
  have hone := hv.one
  have o1 := golf_push hs n g v
  try simp (disch := first | omega | (simp only [L3] <;> omega)) only [Sall,evalOp,init,binA_s,binE,binI,unE,convE,okNil,builtE,gv,TD.isAgg,resV,↓reduceIte,Nat.reduceEqDiff,reduceCtorEq,Nat.reduceAdd,Nat.reduceMul,Nat.reduceLeDiff,quietOp,blindOp,Int.reduceEq,Int.reduceLT,Int.reduceLE,Nat.reduceLT,tiA,tiXA, hone]
  obtain ⟨pi, epi⟩ : ∃ pi, pi = H.next := ⟨_, rfl⟩
  rw [← epi] at o1 ⊢
  generalize H.push ⟨26, true, [.int .i64 n, .int .i64 g, v]⟩ = H1 at o1 ⊢
  have e1 := (o1.rowAt 0 rfl).1
  try simp (disch := first | omega | (simp only [L3] <;> omega)) only [Sall,evalOp,init,binA_s,binE,binI,unE,convE,okNil,builtE,gv,TD.isAgg,resV,↓reduceIte,Nat.reduceEqDiff,reduceCtorEq,Nat.reduceAdd,Nat.reduceMul,Nat.reduceLeDiff,quietOp,blindOp,Int.reduceEq,Int.reduceLT,Int.reduceLE,Nat.reduceLT,tiA,tiXA, e1]
  refine ACalls.mono (square_c n (by omega) H1).sc ?_
  rintro w H2 ⟨⟨up2, f2⟩, sc2⟩
  have o2 := o1.call (Ow.of_fr2 up2 sc2 f2)
  rw [← cntMx_nil] at o2
  have hw := (o2.rd2 1 rfl).one
  have e2 := (o2.rowAt 0 rfl).1
  have hvl := hv.len
  rw [← gmM_I (by omega) hn R]
  refine Holds.mp ?_
  try simp (disch := first | omega | (simp only [L3] <;> omega)) only [Sall,evalOp,init,binA_s,binE,binI,unE,convE,okNil,builtE,gv,TD.isAgg,resV,↓reduceIte,Nat.reduceEqDiff,reduceCtorEq,Nat.reduceAdd,Nat.reduceMul,Nat.reduceLeDiff,quietOp,blindOp,Int.reduceEq,Int.reduceLT,Int.reduceLE,Nat.reduceLT,tiA,tiXA, hw, e2, builtE, hvl]
  refine awp_loop (fun m t H' => ∃ r : Nat, m = R.length - r ∧ r ≤ R.length ∧ t 16 = .int .i64 r ∧ t 15 = .int .i64 R.length ∧ t 14 = v ∧ t 3 = w ∧ t 1 = .pointer (some ⟨pi, 0, none⟩) ∧ Ow H H' [.row pi ⟨26, true, [.int .i64 n, .int .i64 g, v]⟩, .sl2 (Value.int .i64) 28 2 w (cntMx n (gxI n g R r))]) R.length ?_ ?_
  · refine ⟨0, by omega, by omega, ?_⟩
    try simp (disch := first | omega | (simp only [L3] <;> omega)) only [Sall,evalOp,init,binA_s,binE,binI,unE,convE,okNil,builtE,gv,TD.isAgg,resV,↓reduceIte,Nat.reduceEqDiff,reduceCtorEq,Nat.reduceAdd,Nat.reduceMul,Nat.reduceLeDiff,quietOp,blindOp,Int.reduceEq,Int.reduceLT,Int.reduceLE,Nat.reduceLT,tiA,tiXA, Int.natCast_zero]
    exact o2
  · rintro m t H3 ⟨r, hm, hr, h16, h15, h14, h3, h1, o3⟩
    try simp (disch := first | omega | (simp only [L3] <;> omega)) only [Sall,evalOp,init,binA_s,binE,binI,unE,convE,okNil,builtE,gv,TD.isAgg,resV,↓reduceIte,Nat.reduceEqDiff,reduceCtorEq,Nat.reduceAdd,Nat.reduceMul,Nat.reduceLeDiff,quietOp,blindOp,Int.reduceEq,Int.reduceLT,Int.reduceLE,Nat.reduceLT,tiA,tiXA, h16, h15]
    refine condC_dec (fun hh => ?_) (fun hh => ?_)
    · obtain ⟨vi, vo, vu, vc, vr, y, ev, v1, v2, v3, v4⟩ := (hv.same (o3.old hs)).get (j := r) (by omega)
      have hy := v3.rd.one
      obtain ⟨y1, y2, y3⟩ := (ordB_iff n _).1 (hR r (by omega))
      have hyl := v3.rd.len
      rw [y1] at v3 hyl
      have hy0 : Rs 1 H y n (R.getD r []) := by
        obtain ⟨vi', vo', vu', vc', vr', y', ev', v1', v2', v3', v4'⟩ := hv.get (j := r) (by omega)
        have q := (o3.old hs) _ _ v1'
        rw [ev] at ev'
        cases ev'
        rw [v1] at q
        cases q
        rw [v2] at v2'
        cases v2'
        rw [y1] at v3'
        exact v3'
      have hgl : (gxI n g R r).length ≤ 12 * (25 * 50) := by
        refine Nat.le_trans (gxI_length R r) ?_
        exact Nat.mul_le_mul (by omega) (Nat.mul_le_mul hn25 (by omega))
      have hgs := gxI_succ n g R r
      generalize R.getD r [] = l at *
      obtain ⟨E, eE⟩ : ∃ E, E = gxI n g R r := ⟨_, rfl⟩
      rw [← eE] at o3 hgl hgs
      try simp (disch := first | omega | (simp only [L3] <;> omega)) only [Sall,evalOp,init,binA_s,binE,binI,unE,convE,okNil,builtE,gv,TD.isAgg,resV,↓reduceIte,Nat.reduceEqDiff,reduceCtorEq,Nat.reduceAdd,Nat.reduceMul,Nat.reduceLeDiff,quietOp,blindOp,Int.reduceEq,Int.reduceLT,Int.reduceLE,Nat.reduceLT,tiA,tiXA, h16, h15, h14, ev, v1, v2, v4, hy]
      (repeat refine And.intro (by omega) ?_)
      try simp (disch := first | omega | (simp only [L3] <;> omega)) only [Sall,evalOp,init,binA_s,binE,binI,unE,convE,okNil,builtE,gv,TD.isAgg,resV,↓reduceIte,Nat.reduceEqDiff,reduceCtorEq,Nat.reduceAdd,Nat.reduceMul,Nat.reduceLeDiff,quietOp,blindOp,Int.reduceEq,Int.reduceLT,Int.reduceLE,Nat.reduceLT,tiA,tiXA, h16, h15, h14, h3, h1, hy, builtE, hyl]
      refine awp_loop (fun m' t H' => ∃ i : Nat, m' = n - i ∧ i ≤ n ∧ t 22 = .int .i64 i ∧ t 21 = .int .i64 n ∧ t 20 = y ∧ t 5 = y ∧ t 16 = .int .i64 r ∧ t 15 = .int .i64 R.length ∧ t 14 = v ∧ t 3 = w ∧ t 1 = .pointer (some ⟨pi, 0, none⟩) ∧ Ow H H' [.row pi ⟨26, true, [.int .i64 n, .int .i64 g, v]⟩, .sl2 (Value.int .i64) 28 2 w (cntMx n (E ++ gxL n l (pgI g i)))]) n ?_ ?_
      · refine ⟨0, by omega, by omega, ?_⟩
        try simp (disch := first | omega | (simp only [L3] <;> omega)) only [Sall,evalOp,init,binA_s,binE,binI,unE,convE,okNil,builtE,gv,TD.isAgg,resV,↓reduceIte,Nat.reduceEqDiff,reduceCtorEq,Nat.reduceAdd,Nat.reduceMul,Nat.reduceLeDiff,quietOp,blindOp,Int.reduceEq,Int.reduceLT,Int.reduceLE,Nat.reduceLT,tiA,tiXA, Int.natCast_zero, h16, h15, h14, h3, h1]
        rw [show gxL n l (pgI g 0) = [] from rfl, List.append_nil]
        exact o3
      · rintro m' t H4 ⟨i, hm', hi, h22, h21, h20, h5, h16, h15, h14, h3, h1, o4⟩
        try simp (disch := first | omega | (simp only [L3] <;> omega)) only [Sall,evalOp,init,binA_s,binE,binI,unE,convE,okNil,builtE,gv,TD.isAgg,resV,↓reduceIte,Nat.reduceEqDiff,reduceCtorEq,Nat.reduceAdd,Nat.reduceMul,Nat.reduceLeDiff,quietOp,blindOp,Int.reduceEq,Int.reduceLT,Int.reduceLE,Nat.reduceLT,tiA,tiXA, h22, h21]
        refine condC_dec (fun hh2 => ?_) (fun hh2 => ?_)
        · have hy4 := hy0.same (o4.old hs)
          obtain ⟨ys, hcut, rys⟩ := hy0.cut (lo := none) (hi := some (i : Int)) (a := 0) (b := i) rfl rfl (by omega) hi
          rw [Nat.zero_mul, Nat.mul_one, Nat.sub_zero, List.drop_zero] at rys
          have hysl := rys.rd.len
          have hyso := rys.rd.one
          obtain ⟨yi, yo, yu, yc, yr, ey, w1, w2, w3, _⟩ := hy4.rd.get (by omega)
          have w4 := w3 i (by omega)
          have hin : ∀ j, j < n → ∃ p : Nat, l.getD j 0 = p ∧ p < n := fun j hj => ⟨(l.getD j 0).toNat, by have := y2 _ (getD_memI (l := l) (i := j) (by omega)); omega, by have := y2 _ (getD_memI (l := l) (i := j) (by omega)); omega⟩
          obtain ⟨p, hp, hpn⟩ := hin i (by omega)
          rw [hp] at w4
          try simp (disch := first | omega | (simp only [L3] <;> omega)) only [Sall,evalOp,init,binA_s,binE,binI,unE,convE,okNil,builtE,gv,TD.isAgg,resV,↓reduceIte,Nat.reduceEqDiff,reduceCtorEq,Nat.reduceAdd,Nat.reduceMul,Nat.reduceLeDiff,quietOp,blindOp,Int.reduceEq,Int.reduceLT,Int.reduceLE,Nat.reduceLT,tiA,tiXA, h22, h20, ey, w1, w4]
          (repeat refine And.intro (by omega) ?_)
          try simp (disch := first | omega | (simp only [L3] <;> omega)) only [Sall,evalOp,init,binA_s,binE,binI,unE,convE,okNil,builtE,gv,TD.isAgg,resV,↓reduceIte,Nat.reduceEqDiff,reduceCtorEq,Nat.reduceAdd,Nat.reduceMul,Nat.reduceLeDiff,quietOp,blindOp,Int.reduceEq,Int.reduceLT,Int.reduceLE,Nat.reduceLT,tiA,tiXA, h5]
          refine hcut _ _ _ _ rfl ?_
          try simp (disch := first | omega | (simp only [L3] <;> omega)) only [Sall,evalOp,init,binA_s,binE,binI,unE,convE,okNil,builtE,gv,TD.isAgg,resV,↓reduceIte,Nat.reduceEqDiff,reduceCtorEq,Nat.reduceAdd,Nat.reduceMul,Nat.reduceLeDiff,quietOp,blindOp,Int.reduceEq,Int.reduceLT,Int.reduceLE,Nat.reduceLT,tiA,tiXA, builtE, hysl, hyso]
          refine awp_loop (fun m2 t H' => ∃ k : Nat, m2 = i - k ∧ k ≤ i ∧ t 31 = .int .i64 k ∧ t 30 = .int .i64 i ∧ t 29 = ys ∧ t 6 = .int .i64 i ∧ t 7 = .int .i64 p ∧ t 22 = .int .i64 i ∧ t 21 = .int .i64 n ∧ t 20 = y ∧ t 5 = y ∧ t 16 = .int .i64 r ∧ t 15 = .int .i64 R.length ∧ t 14 = v ∧ t 3 = w ∧ t 1 = .pointer (some ⟨pi, 0, none⟩) ∧ Ow H H' [.row pi ⟨26, true, [.int .i64 n, .int .i64 g, v]⟩, .sl2 (Value.int .i64) 28 2 w (cntMx n (E ++ gxL n l (pgI g i ++ pgQ g i k)))]) i ?_ ?_
          · refine ⟨0, by omega, by omega, ?_⟩
            try simp (disch := first | omega | (simp only [L3] <;> omega)) only [Sall,evalOp,init,binA_s,binE,binI,unE,convE,okNil,builtE,gv,TD.isAgg,resV,↓reduceIte,Nat.reduceEqDiff,reduceCtorEq,Nat.reduceAdd,Nat.reduceMul,Nat.reduceLeDiff,quietOp,blindOp,Int.reduceEq,Int.reduceLT,Int.reduceLE,Nat.reduceLT,tiA,tiXA, Int.natCast_zero, h22, h21, h20, h5, h16, h15, h14, h3, h1]
            rw [show pgQ g i 0 = [] from rfl, List.append_nil]
            exact o4
          · rintro m2 t H5 ⟨k, hm2, hk, h31, h30, h29, h6, h7, h22, h21, h20, h5, h16, h15, h14, h3, h1, o5⟩
            try simp (disch := first | omega | (simp only [L3] <;> omega)) only [Sall,evalOp,init,binA_s,binE,binI,unE,convE,okNil,builtE,gv,TD.isAgg,resV,↓reduceIte,Nat.reduceEqDiff,reduceCtorEq,Nat.reduceAdd,Nat.reduceMul,Nat.reduceLeDiff,quietOp,blindOp,Int.reduceEq,Int.reduceLT,Int.reduceLE,Nat.reduceLT,tiA,tiXA, h31, h30]
            refine condC_dec (fun hh3 => ?_) (fun hh3 => ?_)
            · have hk1 : k < i := by omega
              skip
              obtain ⟨zi, zo, zu, zc, zr, ez, z1, z2, z3, _⟩ := (rys.rd.same (o5.old hs)).get (by omega)
              have z4 := z3 k (by omega)
              obtain ⟨q, hq, hqn⟩ := hin k (by omega)
              have e5 : (l.take i).getD k 0 = q := by
                rw [List.getD_eq_getElem?_getD, List.getElem?_take_of_lt hk1, ← List.getD_eq_getElem?_getD]; exact hq
              rw [e5] at z4
              have e3 := (o5.rowAt 0 rfl).1
              have di : Int.tdiv (i : Int) (g : Int) = ((i / g : Nat) : Int) := rfl
              have dk : Int.tdiv (k : Int) (g : Int) = ((k / g : Nat) : Int) := rfl
              have hg0 : ¬ (g : Int) = 0 := by omega
              have li := Nat.div_le_self i g
              have lk := Nat.div_le_self k g
              try simp (disch := first | omega | (simp only [L3] <;> omega)) only [Sall,evalOp,init,binA_s,binE,binI,unE,convE,okNil,builtE,gv,TD.isAgg,resV,↓reduceIte,Nat.reduceEqDiff,reduceCtorEq,Nat.reduceAdd,Nat.reduceMul,Nat.reduceLeDiff,quietOp,blindOp,Int.reduceEq,Int.reduceLT,Int.reduceLE,Nat.reduceLT,tiA,tiXA, h31, h29, ez, z1, z4]
              (repeat refine And.intro (by omega) ?_)
              try simp (disch := first | omega | (simp only [L3] <;> omega)) only [Sall,evalOp,init,binA_s,binE,binI,unE,convE,okNil,builtE,gv,TD.isAgg,resV,↓reduceIte,Nat.reduceEqDiff,reduceCtorEq,Nat.reduceAdd,Nat.reduceMul,Nat.reduceLeDiff,quietOp,blindOp,Int.reduceEq,Int.reduceLT,Int.reduceLE,Nat.reduceLT,tiA,tiXA, h31, h29, ez, z1, z4]
              refine draw_id (by kernel_rfl) (by kernel_rfl) ?_
              try simp (disch := first | omega | (simp only [L3] <;> omega)) only [Sall,evalOp,init,binA_s,binE,binI,unE,convE,okNil,builtE,gv,TD.isAgg,resV,↓reduceIte,Nat.reduceEqDiff,reduceCtorEq,Nat.reduceAdd,Nat.reduceMul,Nat.reduceLeDiff,quietOp,blindOp,Int.reduceEq,Int.reduceLT,Int.reduceLE,Nat.reduceLT,tiA,tiXA, h6, h1, e3, di, dk, hg0, w64]
              (repeat refine And.intro (by omega) ?_)
              try simp (disch := first | omega | (simp only [L3] <;> omega)) only [Sall,evalOp,init,binA_s,binE,binI,unE,convE,okNil,builtE,gv,TD.isAgg,resV,↓reduceIte,Nat.reduceEqDiff,reduceCtorEq,Nat.reduceAdd,Nat.reduceMul,Nat.reduceLeDiff,quietOp,blindOp,Int.reduceEq,Int.reduceLT,Int.reduceLE,Nat.reduceLT,tiA,tiXA, h6, h1, e3, di, dk, hg0, w64]
              have wd : ∀ A : Nat, A ≤ 25 → IntKind.i64.wrap (A : Int) = A := fun A hA => w64 ⟨by omega, by omega⟩
              rw [wd _ (by omega), wd _ (by omega)]
              have hEl : (E ++ gxL n l (pgI g i ++ pgQ g i k)).length ≤ 100000 := by
                rw [List.length_append, gxL_length, List.length_append]
                have := pgQ_length g i k
                have h2 := pgI_length g 25 i (by omega)
                have h3 : i * (2 * 25) ≤ 25 * 50 := Nat.mul_le_mul (by omega) (by omega)
                omega
              by_cases e : i / g = k / g
              · have eb : (((i / g : Nat) : Int) == ((k / g : Nat) : Int)) = true := by rw [e]; exact beq_self_eq_true _
                rw [eb, condC_true, awp_seq]
                refine awp_cutQ (fun t H' => t 31 = .int .i64 k ∧ t 30 = .int .i64 i ∧ t 29 = ys ∧ t 6 = .int .i64 i ∧ t 7 = .int .i64 p ∧ t 9 = .int .i64 q ∧ t 22 = .int .i64 i ∧ t 21 = .int .i64 n ∧ t 20 = y ∧ t 5 = y ∧ t 16 = .int .i64 r ∧ t 15 = .int .i64 R.length ∧ t 14 = v ∧ t 3 = w ∧ t 1 = .pointer (some ⟨pi, 0, none⟩) ∧ Ow H H' [.row pi ⟨26, true, [.int .i64 n, .int .i64 g, v]⟩, .sl2 (Value.int .i64) 28 2 w (cntMx n (E ++ gxL n l (pgI g i ++ pgQ g i k) ++ [ixN n p q]))]) ?_ ?_
                · obtain ⟨ai, vs, aq, row, x, ew, a1, a2, a3, a4, a5, a6, a7, a8, o6⟩ := o5.inc 1 rfl hpn hqn (by omega)
                  have ix1 : 0 ≤ (p : Int) ∧ (p : Int) < n := by omega
                  have ix2 : 0 ≤ (q : Int) ∧ (q : Int) < n := by omega
                  try simp (disch := first | omega | (simp only [L3] <;> omega)) only [Sall,evalOp,init,binA_s,binE,binI,unE,convE,okNil,builtE,gv,TD.isAgg,resV,↓reduceIte,Nat.reduceEqDiff,reduceCtorEq,Nat.reduceAdd,Nat.reduceMul,Nat.reduceLeDiff,quietOp,blindOp,Int.reduceEq,Int.reduceLT,Int.reduceLE,Nat.reduceLT,tiA,tiXA, h31, h30, h29, h6, h7, h22, h21, h20, h5, h16, h15, h14, h3, h1, ew, a1, a2, a3, a4, a5, a6, ints_set, w64]
                  rw [ew] at o6
                  exact ⟨⟨by omega, by omega⟩, ⟨by omega, by omega⟩, ⟨by omega, by omega⟩, hqn, o6⟩
                · rintro t H6 ⟨h31, h30, h29, h6, h7, h9, h22, h21, h20, h5, h16, h15, h14, h3, h1, o6⟩
                  obtain ⟨ai, vs, aq, row, x, ew, a1, a2, a3, a4, a5, a6, a7, a8, o7⟩ := o6.inc 1 rfl hqn hpn (by rw [List.length_append, List.length_singleton]; omega)
                  try simp (disch := first | omega | (simp only [L3] <;> omega)) only [Sall,evalOp,init,binA_s,binE,binI,unE,convE,okNil,builtE,gv,TD.isAgg,resV,↓reduceIte,Nat.reduceEqDiff,reduceCtorEq,Nat.reduceAdd,Nat.reduceMul,Nat.reduceLeDiff,quietOp,blindOp,Int.reduceEq,Int.reduceLT,Int.reduceLE,Nat.reduceLT,tiA,tiXA, h31, h30, h29, h6, h7, h9, h22, h21, h20, h5, h16, h15, h14, h3, h1, ew, a1, a2, a3, a4, a5, a6, ints_set, w64]
                  rw [ew] at o7
                  refine ⟨⟨by omega, by omega⟩, ⟨by omega, by omega⟩, ⟨by omega, by omega⟩, hpn, i - (k + 1), by omega, k + 1, by omega, by omega, rfl, ?_⟩
                  have eg : E ++ gxL n l (pgI g i ++ pgQ g i (k + 1)) = E ++ gxL n l (pgI g i ++ pgQ g i k) ++ [ixN n p q] ++ [ixN n q p] := by
                    rw [pgQ_succ, if_pos e, ← List.append_assoc, gxL_app n l (pgI g i ++ pgQ g i k), ← List.append_assoc]
                    have e8 : gxL n l [(i, k), (k, i)] = [ixN n p q, ixN n q p] := by
                      unfold gxL
                      simp only [List.map_cons, List.map_nil, hp, hq, Int.toNat_natCast]
                    rw [e8]
                    simp
                  rw [eg]
                  exact o7
              · have eb : (((i / g : Nat) : Int) == ((k / g : Nat) : Int)) = false := beq_eq_false_iff_ne.2 (by omega)
                rw [eb]
                try simp (disch := first | omega | (simp only [L3] <;> omega)) only [Sall,evalOp,init,binA_s,binE,binI,unE,convE,okNil,builtE,gv,TD.isAgg,resV,↓reduceIte,Nat.reduceEqDiff,reduceCtorEq,Nat.reduceAdd,Nat.reduceMul,Nat.reduceLeDiff,quietOp,blindOp,Int.reduceEq,Int.reduceLT,Int.reduceLE,Nat.reduceLT,tiA,tiXA, h31, h30, h29, h6, h7, h22, h21, h20, h5, h16, h15, h14, h3, h1, w64]
                refine ⟨i - (k + 1), by omega, k + 1, by omega, by omega, rfl, ?_⟩
                rw [pgQ_succ, if_neg e, List.append_nil]
                exact o5
            · have hke : k = i := by omega
              subst hke
              try simp (disch := first | omega | (simp only [L3] <;> omega)) only [Sall,evalOp,init,binA_s,binE,binI,unE,convE,okNil,builtE,gv,TD.isAgg,resV,↓reduceIte,Nat.reduceEqDiff,reduceCtorEq,Nat.reduceAdd,Nat.reduceMul,Nat.reduceLeDiff,quietOp,blindOp,Int.reduceEq,Int.reduceLT,Int.reduceLE,Nat.reduceLT,tiA,tiXA, h22, h21, h20, h5, h16, h15, h14, h3, h1, w64]
              refine ⟨n - (k + 1), by omega, k + 1, by omega, by omega, ?_⟩
              rw [pgI_succ]
              exact ⟨rfl, o5⟩
        · have hie : i = n := by omega
          subst hie
          try simp (disch := first | omega | (simp only [L3] <;> omega)) only [Sall,evalOp,init,binA_s,binE,binI,unE,convE,okNil,builtE,gv,TD.isAgg,resV,↓reduceIte,Nat.reduceEqDiff,reduceCtorEq,Nat.reduceAdd,Nat.reduceMul,Nat.reduceLeDiff,quietOp,blindOp,Int.reduceEq,Int.reduceLT,Int.reduceLE,Nat.reduceLT,tiA,tiXA, h16, h15, h14, h3, h1, w64]
          refine ⟨R.length - (r + 1), by omega, r + 1, by omega, by omega, ?_⟩
          rw [hgs]
          exact ⟨rfl, o4⟩
    · have hre : r = R.length := by omega
      subst hre
      try simp (disch := first | omega | (simp only [L3] <;> omega)) only [Sall,evalOp,init,binA_s,binE,binI,unE,convE,okNil,builtE,gv,TD.isAgg,resV,↓reduceIte,Nat.reduceEqDiff,reduceCtorEq,Nat.reduceAdd,Nat.reduceMul,Nat.reduceLeDiff,quietOp,blindOp,Int.reduceEq,Int.reduceLT,Int.reduceLE,Nat.reduceLT,tiA,tiXA, h3]
      exact o3.only 1 rfl
theorem l08Meetings_c (n g c : Nat) (hg : 2 ≤ g) (hn : n = g * c) (hn25 : n ≤ 25) (hgn : g ≤ n) (v : Value) (R : List (List Int)) (H : AH) (hv : Rd2 1 H v R) (hl : R.length ≤ 12) (hR : ∀ i, i < R.length → ordB n (R.getD i []) = true) :
    ACalls Tryz.prog 35 [.agg #[.int .i64 n, .int .i64 g, v]] H (fun w H' => Ow H H' [.sl2 (Value.int .i64) 28 2 w (gmM n g R)]) := by
  refine ACalls.wf (by kernel_rfl) fun hs => acalls_of_awp [.tmp 2] Tryz.func35 (by kernel_rfl) rfl rfl (Nat.le_of_ble_eq_true rfl) (by kernel_rfl) ?_
  have hone := hv.one
  have o1 := (golf_push hs n g v).pushSl2 (Value.int .i64) 28 2
  try simp (disch := first | omega | (simp only [L3] <;> omega)) only [Sall,evalOp,init,binA_s,binE,binI,unE,convE,okNil,builtE,gv,TD.isAgg,resV,↓reduceIte,Nat.reduceEqDiff,reduceCtorEq,Nat.reduceAdd,Nat.reduceMul,Nat.reduceLeDiff,quietOp,blindOp,Int.reduceEq,Int.reduceLT,Int.reduceLE,Nat.reduceLT,tiA,tiXA, hone]
  (repeat refine And.intro (by omega) ?_)
  have hvl := hv.len
  refine awp_loop (fun m t H' => ∃ (a : Nat) (w : Value), m = n - a ∧ a ≤ n ∧ t 4 = .int .i64 a ∧ t 3 = w ∧ t 1 = .pointer (some ⟨H.next, 0, none⟩) ∧ Ow H H' [.row H.next ⟨26, true, [.int .i64 n, .int .i64 g, v]⟩, .sl2 (Value.int .i64) 28 2 w (List.replicate a (List.replicate n 0))]) n ?_ ?_
  · refine ⟨0, .slice (some ⟨H.next + 1, 0, some 1⟩) 0 0, by omega, by omega, ?_⟩
    try simp (disch := first | omega | (simp only [L3] <;> omega)) only [Sall,evalOp,init,binA_s,binE,binI,unE,convE,okNil,builtE,gv,TD.isAgg,resV,↓reduceIte,Nat.reduceEqDiff,reduceCtorEq,Nat.reduceAdd,Nat.reduceMul,Nat.reduceLeDiff,quietOp,blindOp,Int.reduceEq,Int.reduceLT,Int.reduceLE,Nat.reduceLT,tiA,tiXA, Int.natCast_zero]
    exact o1
  · rintro m t H1 ⟨a, w, hm, ha, h4, h3, h1, o2⟩
    have e1 := (o2.rowAt 0 rfl).1
    have hw := (o2.rd2 1 rfl).one
    try simp (disch := first | omega | (simp only [L3] <;> omega)) only [Sall,evalOp,init,binA_s,binE,binI,unE,convE,okNil,builtE,gv,TD.isAgg,resV,↓reduceIte,Nat.reduceEqDiff,reduceCtorEq,Nat.reduceAdd,Nat.reduceMul,Nat.reduceLeDiff,quietOp,blindOp,Int.reduceEq,Int.reduceLT,Int.reduceLE,Nat.reduceLT,tiA,tiXA, h4, h1, e1]
    refine condC_dec (fun hh => ?_) (fun hh => ?_)
    · have zz : zeros 1 [.slice none 0 0] = [.slice none 0 0] := rfl
      have zn : zeros n [.int .i64 0] = ints (List.replicate n 0) := by simp [zeros, ints]
      have ob := (o2.pushSl (k := 1) (n := n) (ty := 2) (vs := ints (List.replicate n 0)) (by simp [ints])).tmp ⟨28, true, [.slice (some ⟨H1.next, 0, some 1⟩) n n]⟩
      have np : ¬ H.next = H1.next := by have := (o2.rowAt 0 rfl).2.2; omega
      try simp (disch := first | omega | (simp only [L3] <;> omega)) only [Sall,evalOp,init,binA_s,binE,binI,unE,convE,okNil,builtE,gv,TD.isAgg,resV,↓reduceIte,Nat.reduceEqDiff,reduceCtorEq,Nat.reduceAdd,Nat.reduceMul,Nat.reduceLeDiff,quietOp,blindOp,Int.reduceEq,Int.reduceLT,Int.reduceLE,Nat.reduceLT,tiA,tiXA, h4, h3, h1, e1, hw, np, zn, zz, slCells, w64]
      (repeat refine And.intro (by omega) ?_)
      refine ob.app2 (l := List.replicate n 0) 1 2 rfl rfl (by omega) rfl (by decide) (by rw [List.length_replicate]; omega) ?_
      intro v' H2 n2 oc
      try simp (disch := first | omega | (simp only [L3] <;> omega)) only [Sall,evalOp,init,binA_s,binE,binI,unE,convE,okNil,builtE,gv,TD.isAgg,resV,↓reduceIte,Nat.reduceEqDiff,reduceCtorEq,Nat.reduceAdd,Nat.reduceMul,Nat.reduceLeDiff,quietOp,blindOp,Int.reduceEq,Int.reduceLT,Int.reduceLE,Nat.reduceLT,tiA,tiXA, h4, h1, w64]
      refine ⟨n - (a + 1), by omega, a + 1, v', rfl, by omega, by omega, rfl, ?_⟩
      have oc2 : Ow H H2 ([.row H.next ⟨26, true, [.int .i64 n, .int .i64 g, v]⟩, .sl2 (Value.int .i64) 28 2 v' (List.replicate a (List.replicate n 0) ++ [List.replicate n 0])] ++ [.no]) := oc
      rw [List.replicate_succ']
      exact oc2.left
    · have hae : a = n := by omega
      rw [hae] at o2
      have o2 : Ow H H1 [.row H.next ⟨26, true, [.int .i64 n, .int .i64 g, v]⟩, .sl2 (Value.int .i64) 28 2 w (zeroM n)] := o2
      rw [← cntMx_nil] at o2
      try simp (disch := first | omega | (simp only [L3] <;> omega)) only [Sall,evalOp,init,binA_s,binE,binI,unE,convE,okNil,builtE,gv,TD.isAgg,resV,↓reduceIte,Nat.reduceEqDiff,reduceCtorEq,Nat.reduceAdd,Nat.reduceMul,Nat.reduceLeDiff,quietOp,blindOp,Int.reduceEq,Int.reduceLT,Int.reduceLE,Nat.reduceLT,tiA,tiXA, h3, h1]
      refine awp_loop (fun m t H' => ∃ r : Nat, m = R.length - r ∧ r ≤ R.length ∧ t 5 = .int .i64 r ∧ t 3 = w ∧ t 1 = .pointer (some ⟨H.next, 0, none⟩) ∧ Ow H H' [.row H.next ⟨26, true, [.int .i64 n, .int .i64 g, v]⟩, .sl2 (Value.int .i64) 28 2 w (cntMx n (gxS n g R r))]) R.length ?_ ?_
      · refine ⟨0, by omega, by omega, ?_⟩
        try simp (disch := first | omega | (simp only [L3] <;> omega)) only [Sall,evalOp,init,binA_s,binE,binI,unE,convE,okNil,builtE,gv,TD.isAgg,resV,↓reduceIte,Nat.reduceEqDiff,reduceCtorEq,Nat.reduceAdd,Nat.reduceMul,Nat.reduceLeDiff,quietOp,blindOp,Int.reduceEq,Int.reduceLT,Int.reduceLE,Nat.reduceLT,tiA,tiXA, Int.natCast_zero, h3, h1]
        exact o2
      · rintro m t H3 ⟨r, hm, hr, h5, h3, h1, o3⟩
        have e1 := (o3.rowAt 0 rfl).1
        try simp (disch := first | omega | (simp only [L3] <;> omega)) only [Sall,evalOp,init,binA_s,binE,binI,unE,convE,okNil,builtE,gv,TD.isAgg,resV,↓reduceIte,Nat.reduceEqDiff,reduceCtorEq,Nat.reduceAdd,Nat.reduceMul,Nat.reduceLeDiff,quietOp,blindOp,Int.reduceEq,Int.reduceLT,Int.reduceLE,Nat.reduceLT,tiA,tiXA, h5, h1, e1, builtE, hvl]
        refine condC_dec (fun hh => ?_) (fun hh => ?_)
        · obtain ⟨vi, vo, vu, vc, vr, y, my, ev, v1, v2, v3, v4⟩ := hv.get (j := r) (by omega)
          have hmm := v3.lenK1
          subst hmm
          have hy := v3.one
          obtain ⟨y1, y2, y3⟩ := (ordB_iff n _).1 (hR r (by omega))
          rw [y1] at v3
          have hgl : (gxS n g R r).length ≤ 12 * (25 * 25) := by
            refine Nat.le_trans (gxS_length R r) ?_
            exact Nat.mul_le_mul (by omega) (Nat.mul_le_mul hn25 (by omega))
          have hgs := gxS_succ n g R r
          generalize R.getD r [] = l at *
          obtain ⟨E, eE⟩ : ∃ E, E = gxS n g R r := ⟨_, rfl⟩
          rw [← eE] at o3 hgl hgs
          have v1' := o3.old hs _ _ v1
          have hin : ∀ j, j < n → ∃ p : Nat, l.getD j 0 = p ∧ p < n := fun j hj => ⟨(l.getD j 0).toNat, by have := y2 _ (getD_memI (l := l) (i := j) (by omega)); omega, by have := y2 _ (getD_memI (l := l) (i := j) (by omega)); omega⟩
          try simp (disch := first | omega | (simp only [L3] <;> omega)) only [Sall,evalOp,init,binA_s,binE,binI,unE,convE,okNil,builtE,gv,TD.isAgg,resV,↓reduceIte,Nat.reduceEqDiff,reduceCtorEq,Nat.reduceAdd,Nat.reduceMul,Nat.reduceLeDiff,quietOp,blindOp,Int.reduceEq,Int.reduceLT,Int.reduceLE,Nat.reduceLT,tiA,tiXA, h5, h3, h1, e1, ev, v1', v2, v4, hy]
          (repeat refine And.intro (by omega) ?_)
          try simp (disch := first | omega | (simp only [L3] <;> omega)) only [Sall,evalOp,init,binA_s,binE,binI,unE,convE,okNil,builtE,gv,TD.isAgg,resV,↓reduceIte,Nat.reduceEqDiff,reduceCtorEq,Nat.reduceAdd,Nat.reduceMul,Nat.reduceLeDiff,quietOp,blindOp,Int.reduceEq,Int.reduceLT,Int.reduceLE,Nat.reduceLT,tiA,tiXA, h5, h3, h1, e1, ev, v1', v2, v4, hy]
          refine awp_loop (fun m' t H' => ∃ k : Nat, m' = n - k ∧ k ≤ n ∧ t 7 = .int .i64 k ∧ t 6 = y ∧ t 5 = .int .i64 r ∧ t 3 = w ∧ t 1 = .pointer (some ⟨H.next, 0, none⟩) ∧ Ow H H' [.row H.next ⟨26, true, [.int .i64 n, .int .i64 g, v]⟩, .sl2 (Value.int .i64) 28 2 w (cntMx n (E ++ gxL n l (pgS g k)))]) n ?_ ?_
          · refine ⟨0, by omega, by omega, ?_⟩
            try simp (disch := first | omega | (simp only [L3] <;> omega)) only [Sall,evalOp,init,binA_s,binE,binI,unE,convE,okNil,builtE,gv,TD.isAgg,resV,↓reduceIte,Nat.reduceEqDiff,reduceCtorEq,Nat.reduceAdd,Nat.reduceMul,Nat.reduceLeDiff,quietOp,blindOp,Int.reduceEq,Int.reduceLT,Int.reduceLE,Nat.reduceLT,tiA,tiXA, Int.natCast_zero, h5, h3, h1]
            rw [show gxL n l (pgS g 0) = [] from rfl, List.append_nil]
            exact o3
          · rintro m' t H4 ⟨k, hm', hk, h7, h6, h5, h3, h1, o4⟩
            have e1 := (o4.rowAt 0 rfl).1
            try simp (disch := first | omega | (simp only [L3] <;> omega)) only [Sall,evalOp,init,binA_s,binE,binI,unE,convE,okNil,builtE,gv,TD.isAgg,resV,↓reduceIte,Nat.reduceEqDiff,reduceCtorEq,Nat.reduceAdd,Nat.reduceMul,Nat.reduceLeDiff,quietOp,blindOp,Int.reduceEq,Int.reduceLT,Int.reduceLE,Nat.reduceLT,tiA,tiXA, h7, h1, e1]
            refine condC_dec (fun hh2 => ?_) (fun hh2 => ?_)
            · have hkn : k < n := by omega
              obtain ⟨yi, yo, yu, yc, yr, ey, w1, w2, w3, _⟩ := (v3.same (o4.old hs)).get (by omega)
              have w4 := w3 k (by omega)
              obtain ⟨p, hp, hpn⟩ := hin k hkn
              rw [hp] at w4
              have hEl0 : (E ++ gxL n l (pgS g k)).length ≤ 100000 := by
                rw [List.length_append, gxL_length]
                have := pgS_length g k
                have h3 : k * g ≤ 25 * 25 := Nat.mul_le_mul (by omega) (by omega)
                omega
              obtain ⟨ai, vs, aq, row0, x0, ew, a1, a2, a3, _, _, _, _, a8, _⟩ := o4.inc 1 rfl hpn hpn (by omega)
              have di : Int.tdiv (k : Int) (g : Int) = ((k / g : Nat) : Int) := rfl
              have hg0 : ¬ (g : Int) = 0 := by omega
              have em : ((k / g : Nat) : Int) * (g : Int) = ((k / g * g : Nat) : Int) := (Int.natCast_mul _ _).symm
              have lA := Nat.div_mul_le_self k g
              have ld := Nat.div_le_self k g
              have hA : k / g * g + g ≤ n := by
                have h1 : k / g < c := by rw [Nat.div_lt_iff_lt_mul (by omega), Nat.mul_comm, ← hn]; exact hkn
                have h2 : (k / g + 1) * g ≤ c * g := Nat.mul_le_mul_right g h1
                rw [Nat.succ_mul, Nat.mul_comm c g, ← hn] at h2
                exact h2
              have wd : ∀ A : Nat, A ≤ 100 → IntKind.i64.wrap (A : Int) = A := fun A hA => w64 ⟨by omega, by omega⟩
              have wd1 := wd (k / g) (by omega)
              have wd2 := wd (k / g * g) (by omega)
              try simp (disch := first | omega | (simp only [L3] <;> omega)) only [Sall,evalOp,init,binA_s,binE,binI,unE,convE,okNil,builtE,gv,TD.isAgg,resV,↓reduceIte,Nat.reduceEqDiff,reduceCtorEq,Nat.reduceAdd,Nat.reduceMul,Nat.reduceLeDiff,quietOp,blindOp,Int.reduceEq,Int.reduceLT,Int.reduceLE,Nat.reduceLT,tiA,tiXA, h7, h6, h5, h3, h1, ey, w1, w4, ew, a1, a3]
              (repeat refine And.intro (by omega) ?_)
              have hix : 0 ≤ (p : Int) ∧ (p : Int) < n := by omega
              try simp (disch := first | omega | (simp only [L3] <;> omega)) only [Sall,evalOp,init,binA_s,binE,binI,unE,convE,okNil,builtE,gv,TD.isAgg,resV,↓reduceIte,Nat.reduceEqDiff,reduceCtorEq,Nat.reduceAdd,Nat.reduceMul,Nat.reduceLeDiff,quietOp,blindOp,Int.reduceEq,Int.reduceLT,Int.reduceLE,Nat.reduceLT,tiA,tiXA, h7, h6, h5, h3, h1, ey, w1, w4, ew, a1, a3, a2, hpn]
              refine draw_id (by kernel_rfl) (by kernel_rfl) ?_
              try simp (disch := first | omega | (simp only [L3] <;> omega)) only [Sall,evalOp,init,binA_s,binE,binI,unE,convE,okNil,builtE,gv,TD.isAgg,resV,↓reduceIte,Nat.reduceEqDiff,reduceCtorEq,Nat.reduceAdd,Nat.reduceMul,Nat.reduceLeDiff,quietOp,blindOp,Int.reduceEq,Int.reduceLT,Int.reduceLE,Nat.reduceLT,tiA,tiXA, h7, h1, e1, di, hg0, wd1, em, wd2, h6, h5, h3]
              (repeat refine And.intro (by omega) ?_)
              try simp (disch := first | omega | (simp only [L3] <;> omega)) only [Sall,evalOp,init,binA_s,binE,binI,unE,convE,okNil,builtE,gv,TD.isAgg,resV,↓reduceIte,Nat.reduceEqDiff,reduceCtorEq,Nat.reduceAdd,Nat.reduceMul,Nat.reduceLeDiff,quietOp,blindOp,Int.reduceEq,Int.reduceLT,Int.reduceLE,Nat.reduceLT,tiA,tiXA, h7, h1, e1, di, hg0, wd1, em, wd2, h6, h5, h3]
              rw [← ew]
              refine awp_loop (fun m2 t H' => ∃ j : Nat, m2 = g - j ∧ j ≤ g ∧ t 9 = .int .i64 ((k / g * g + j : Nat) : Int) ∧ t 8 = .slice (some ⟨aq, 0, some 1⟩) n n ∧ t 7 = .int .i64 k ∧ t 6 = y ∧ t 5 = .int .i64 r ∧ t 3 = w ∧ t 1 = .pointer (some ⟨H.next, 0, none⟩) ∧ H'.row ai = some ⟨28, true, vs⟩ ∧ Ow H H' [.row H.next ⟨26, true, [.int .i64 n, .int .i64 g, v]⟩, .sl2 (Value.int .i64) 28 2 w (cntMx n (E ++ gxL n l (pgS g k ++ pgT g k j)))]) g ?_ ?_
              · refine ⟨0, by omega, by omega, ?_⟩
                try simp (disch := first | omega | (simp only [L3] <;> omega)) only [Sall,evalOp,init,binA_s,binE,binI,unE,convE,okNil,builtE,gv,TD.isAgg,resV,↓reduceIte,Nat.reduceEqDiff,reduceCtorEq,Nat.reduceAdd,Nat.reduceMul,Nat.reduceLeDiff,quietOp,blindOp,Int.reduceEq,Int.reduceLT,Int.reduceLE,Nat.reduceLT,tiA,tiXA, Nat.add_zero, h7, h6, h5, h3, h1]
                rw [show pgT g k 0 = [] from rfl, List.append_nil]
                exact ⟨a1, o4⟩
              · rintro m2 t H5 ⟨j, hm2, hj, h9, h8, h7, h6, h5, h3, h1, hai, o5⟩
                have e1 := (o5.rowAt 0 rfl).1
                have eg2 : ((k / g * g : Nat) : Int) + (g : Int) = ((k / g * g + g : Nat) : Int) := by omega
                have wd3 := wd (k / g * g + g) (by omega)
                refine draw_id (by kernel_rfl) (by kernel_rfl) ?_
                try simp (disch := first | omega | (simp only [L3] <;> omega)) only [Sall,evalOp,init,binA_s,binE,binI,unE,convE,okNil,builtE,gv,TD.isAgg,resV,↓reduceIte,Nat.reduceEqDiff,reduceCtorEq,Nat.reduceAdd,Nat.reduceMul,Nat.reduceLeDiff,quietOp,blindOp,Int.reduceEq,Int.reduceLT,Int.reduceLE,Nat.reduceLT,tiA,tiXA, h9, h7, h1, e1, di, hg0, wd1, em, wd2, eg2, wd3]
                (repeat refine And.intro (by omega) ?_)
                try simp (disch := first | omega | (simp only [L3] <;> omega)) only [Sall,evalOp,init,binA_s,binE,binI,unE,convE,okNil,builtE,gv,TD.isAgg,resV,↓reduceIte,Nat.reduceEqDiff,reduceCtorEq,Nat.reduceAdd,Nat.reduceMul,Nat.reduceLeDiff,quietOp,blindOp,Int.reduceEq,Int.reduceLT,Int.reduceLE,Nat.reduceLT,tiA,tiXA, h9, h7, h1, e1, di, hg0, wd1, em, wd2, eg2, wd3]
                refine condC_dec (fun hh3 => ?_) (fun hh3 => ?_)
                · have hjg : j < g := by omega
                  obtain ⟨yi', yo', yu', yc', yr', ey', w1', w2', w3', _⟩ := (v3.same (o5.old hs)).get (by omega)
                  have w4' := w3' (k / g * g + j) (by omega)
                  obtain ⟨q, hq, hqn⟩ := hin (k / g * g + j) (by omega)
                  rw [hq] at w4'
                  have hEl : (E ++ gxL n l (pgS g k ++ pgT g k j)).length ≤ 100000 := by
                    rw [List.length_append, gxL_length, List.length_append]
                    have := pgS_length g k
                    have := pgT_length g k j
                    have h3 : k * g ≤ 25 * 25 := Nat.mul_le_mul (by omega) (by omega)
                    omega
                  have ecast : ((k / g * g + j : Nat) : Int) + 1 = ((k / g * g + (j + 1) : Nat) : Int) := by omega
                  have wd4 := wd (k / g * g + (j + 1)) (by omega)
                  by_cases e : k / g * g + j = k
                  · have eb : (((k / g * g + j : Nat) : Int) != (k : Int)) = false := by rw [e]; exact bne_self_eq_false _
                    try simp (disch := first | omega | (simp only [L3] <;> omega)) only [Sall,evalOp,init,binA_s,binE,binI,unE,convE,okNil,builtE,gv,TD.isAgg,resV,↓reduceIte,Nat.reduceEqDiff,reduceCtorEq,Nat.reduceAdd,Nat.reduceMul,Nat.reduceLeDiff,quietOp,blindOp,Int.reduceEq,Int.reduceLT,Int.reduceLE,Nat.reduceLT,tiA,tiXA, h9, h7, eb, ecast, wd4, h8, h6, h5, h3, h1]
                    refine ⟨g - (j + 1), by omega, j + 1, by omega, by omega, ?_⟩
                    rw [pgT_succ, if_pos e, List.append_nil]
                    exact ⟨rfl, hai, o5⟩
                  · have eb : (((k / g * g + j : Nat) : Int) != (k : Int)) = true := bne_iff_ne.2 (by omega)
                    obtain ⟨ai', vs', aq', row, x, ew', a1', a2', a3', a4', a5', a6', a7', a8', o6⟩ := o5.inc 1 rfl hpn hqn (by omega)
                    obtain rfl : ai = ai' := by rw [ew] at ew'; cases ew'; rfl
                    obtain rfl : vs = vs' := by rw [hai] at a1'; cases a1'; rfl
                    obtain rfl : aq = aq' := by rw [a3] at a3'; cases a3'; rfl
                    try simp (disch := first | omega | (simp only [L3] <;> omega)) only [Sall,evalOp,init,binA_s,binE,binI,unE,convE,okNil,builtE,gv,TD.isAgg,resV,↓reduceIte,Nat.reduceEqDiff,reduceCtorEq,Nat.reduceAdd,Nat.reduceMul,Nat.reduceLeDiff,quietOp,blindOp,Int.reduceEq,Int.reduceLT,Int.reduceLE,Nat.reduceLT,tiA,tiXA, h9, h7, eb, ecast, wd4, h8, h6, h5, h3, h1, ey', w1', w4', a4', a5', a6', ints_set, w64]
                    (repeat refine And.intro (by omega) ?_)
                    try simp (disch := first | omega | (simp only [L3] <;> omega)) only [Sall,evalOp,init,binA_s,binE,binI,unE,convE,okNil,builtE,gv,TD.isAgg,resV,↓reduceIte,Nat.reduceEqDiff,reduceCtorEq,Nat.reduceAdd,Nat.reduceMul,Nat.reduceLeDiff,quietOp,blindOp,Int.reduceEq,Int.reduceLT,Int.reduceLE,Nat.reduceLT,tiA,tiXA, h9, h7, eb, ecast, wd4, h8, h6, h5, h3, h1, ey', w1', w4', a4', a5', a6', ints_set, w64]
                    refine ⟨g - (j + 1), by omega, j + 1, by omega, by omega, rfl, by rw [if_neg (fun e => a8 e.symm)]; exact hai, ?_⟩
                    have eg : E ++ gxL n l (pgS g k ++ pgT g k (j + 1)) = E ++ gxL n l (pgS g k ++ pgT g k j) ++ [ixN n p q] := by
                      rw [pgT_succ, if_neg e, ← List.append_assoc, gxL_app n l (pgS g k ++ pgT g k j), ← List.append_assoc]
                      have e8 : gxL n l [(k, k / g * g + j)] = [ixN n p q] := by
                        unfold gxL
                        simp only [List.map_cons, List.map_nil, hp, hq, Int.toNat_natCast]
                      rw [e8]
                    rw [eg]
                    exact o6
                · have hje : j = g := by omega
                  subst hje
                  try simp (disch := first | omega | (simp only [L3] <;> omega)) only [Sall,evalOp,init,binA_s,binE,binI,unE,convE,okNil,builtE,gv,TD.isAgg,resV,↓reduceIte,Nat.reduceEqDiff,reduceCtorEq,Nat.reduceAdd,Nat.reduceMul,Nat.reduceLeDiff,quietOp,blindOp,Int.reduceEq,Int.reduceLT,Int.reduceLE,Nat.reduceLT,tiA,tiXA, h7, h6, h5, h3, h1, w64]
                  refine ⟨n - (k + 1), by omega, k + 1, by omega, by omega, ?_⟩
                  rw [pgS_succ]
                  exact ⟨rfl, o5⟩
            · have hke : k = n := by omega
              subst hke
              try simp (disch := first | omega | (simp only [L3] <;> omega)) only [Sall,evalOp,init,binA_s,binE,binI,unE,convE,okNil,builtE,gv,TD.isAgg,resV,↓reduceIte,Nat.reduceEqDiff,reduceCtorEq,Nat.reduceAdd,Nat.reduceMul,Nat.reduceLeDiff,quietOp,blindOp,Int.reduceEq,Int.reduceLT,Int.reduceLE,Nat.reduceLT,tiA,tiXA, h5, h3, h1, w64]
              refine ⟨R.length - (r + 1), by omega, r + 1, by omega, by omega, ?_⟩
              rw [hgs]
              exact ⟨rfl, o4⟩
        · have hre : r = R.length := by omega
          subst hre
          try simp (disch := first | omega | (simp only [L3] <;> omega)) only [Sall,evalOp,init,binA_s,binE,binI,unE,convE,okNil,builtE,gv,TD.isAgg,resV,↓reduceIte,Nat.reduceEqDiff,reduceCtorEq,Nat.reduceAdd,Nat.reduceMul,Nat.reduceLeDiff,quietOp,blindOp,Int.reduceEq,Int.reduceLT,Int.reduceLE,Nat.reduceLT,tiA,tiXA, h3]
          exact o3.only 1 rfl
end Go.Proofs.YtollphjompimjaaGreat.A
end

section
set_option maxRecDepth 100000
set_option maxHeartbeats 2000000
namespace Go.Proofs.YtollphjompimjaaGreat.A
open Go Go.Abs Go.RowKit
end Go.Proofs.YtollphjompimjaaGreat.A
end

section
set_option maxRecDepth 100000
set_option maxHeartbeats 2000000
namespace Go.Proofs.YtollphjompimjaaGreat.A
open Go Go.Abs Go.RowKit
end Go.Proofs.YtollphjompimjaaGreat.A
end

section
set_option maxRecDepth 100000
set_option maxHeartbeats 2000000
namespace Go.Proofs.YtollphjompimjaaGreat.A
open Go Go.Abs Go.RowKit
end Go.Proofs.YtollphjompimjaaGreat.A
end

section
set_option maxRecDepth 100000
set_option maxHeartbeats 2000000
namespace Go.Proofs.YtollphjompimjaaGreat.A
open Go Go.Abs Go.RowKit
end Go.Proofs.YtollphjompimjaaGreat.A
end

section
set_option maxRecDepth 100000
set_option maxHeartbeats 2000000
namespace Go.Proofs.YtollphjompimjaaGreat.A
open Go Go.Abs Go.RowKit
theorem areAll_c (g : FuncId) (p : Int → Bool) (hp : ∀ (x : Int) (H : AH), ACalls Tryz.prog g [.int .i64 x] H (is (.bool (p x)) H)) (v : Value) (n : Nat) (M : List (List Int)) (H : AH) (hv : Rd2 1 H v M) (hM : SqM n M) (hn : n ≤ 1024) : ACalls Tryz.prog 37 [v, .func (.func g) #[] #[]] H (is (.bool (eachB p M)) H) := by
  refine acalls_up rfl (acalls_of_awp [.tmp 4] Tryz.func37 (by kernel_rfl) rfl rfl (Nat.le_of_ble_eq_true rfl) (by kernel_rfl) ?_)
  have hlen := hv.len
  rw [hM.1] at hlen
  try simp (disch := first | omega | (simp only [L3] <;> omega)) only [Sall,evalOp,init,binA_s,binE,binI,unE,convE,okNil,builtE,gv,TD.isAgg,resV,↓reduceIte,Nat.reduceEqDiff,reduceCtorEq,Nat.reduceAdd,Nat.reduceMul,Nat.reduceLeDiff,quietOp,blindOp,Int.reduceEq,Int.reduceLT,Int.reduceLE,Nat.reduceLT,tiA, builtE, hlen]
  refine awp_loop (fun m t H' => ∃ a : Nat, m = n - a ∧ a ≤ n ∧ t 11 = .int .i64 a ∧ t 10 = .int .i64 n ∧ t 9 = v ∧ t 1 = .func (.func g) #[] #[] ∧ H' = H ∧ (∀ i, i < a → ∀ j, j < n → eachAt p M i j = true)) n ?_ ?_
  · refine ⟨0, by omega, by omega, ?_⟩
    try simp (disch := first | omega | (simp only [L3] <;> omega)) only [Sall,evalOp,init,binA_s,binE,binI,unE,convE,okNil,builtE,gv,TD.isAgg,resV,↓reduceIte,Nat.reduceEqDiff,reduceCtorEq,Nat.reduceAdd,Nat.reduceMul,Nat.reduceLeDiff,quietOp,blindOp,Int.reduceEq,Int.reduceLT,Int.reduceLE,Nat.reduceLT,tiA, Int.natCast_zero, Nat.not_lt_zero, false_implies]
  · rintro m t H' ⟨a, hm, han, h11, h10, h9, h1, rfl, hall⟩
    try simp (disch := first | omega | (simp only [L3] <;> omega)) only [Sall,evalOp,init,binA_s,binE,binI,unE,convE,okNil,builtE,gv,TD.isAgg,resV,↓reduceIte,Nat.reduceEqDiff,reduceCtorEq,Nat.reduceAdd,Nat.reduceMul,Nat.reduceLeDiff,quietOp,blindOp,Int.reduceEq,Int.reduceLT,Int.reduceLE,Nat.reduceLT,tiA, h11, h10]
    refine condC_dec (fun h => ?_) (fun h => ?_)
    · obtain ⟨i, o, u, c, r, y, my, rfl, hr, hy, hsx, hok⟩ := hv.get (j := a) (by rw [hM.1]; omega)
      have hmy := hsx.lenK1
      have hrow := hM.2 a (by omega)
      have hMl := hM.1
      rw [hrow] at hmy
      subst hmy
      try simp (disch := first | omega | (simp only [L3] <;> omega)) only [Sall,evalOp,init,binA_s,binE,binI,unE,convE,okNil,builtE,gv,TD.isAgg,resV,↓reduceIte,Nat.reduceEqDiff,reduceCtorEq,Nat.reduceAdd,Nat.reduceMul,Nat.reduceLeDiff,quietOp,blindOp,Int.reduceEq,Int.reduceLT,Int.reduceLE,Nat.reduceLT,tiA, h11, h10, h9, h1, hr, hy, hok, builtE, hsx.len]
      rw [hMl]
      (repeat refine And.intro (by omega) ?_)
      refine awp_loop (fun z t H7 => ∃ b : Nat, z = my - b ∧ b ≤ my ∧ t 18 = .int .i64 b ∧ t 17 = .int .i64 my ∧ t 16 = y ∧ t 5 = .int .i64 a ∧ t 11 = .int .i64 a ∧ t 10 = .int .i64 my ∧ t 9 = .slice (some ⟨i, o, u⟩) M.length c ∧ t 1 = .func (.func g) #[] #[] ∧ H7 = H' ∧ (∀ j, j < b → eachAt p M a j = true)) my ?_ ?_
      · refine ⟨0, by omega, by omega, ?_⟩
        try simp (disch := first | omega | (simp only [L3] <;> omega)) only [Sall,evalOp,init,binA_s,binE,binI,unE,convE,okNil,builtE,gv,TD.isAgg,resV,↓reduceIte,Nat.reduceEqDiff,reduceCtorEq,Nat.reduceAdd,Nat.reduceMul,Nat.reduceLeDiff,quietOp,blindOp,Int.reduceEq,Int.reduceLT,Int.reduceLE,Nat.reduceLT,tiA, Int.natCast_zero, Nat.not_lt_zero, false_implies, h11, h10, h9, h1]
        try rw [hMl]
      · rintro z t H7 ⟨b, hz, hbn, h18, h17, h16, h5, h11, h10, h9, h1, rfl, hin⟩
        try simp (disch := first | omega | (simp only [L3] <;> omega)) only [Sall,evalOp,init,binA_s,binE,binI,unE,convE,okNil,builtE,gv,TD.isAgg,resV,↓reduceIte,Nat.reduceEqDiff,reduceCtorEq,Nat.reduceAdd,Nat.reduceMul,Nat.reduceLeDiff,quietOp,blindOp,Int.reduceEq,Int.reduceLT,Int.reduceLE,Nat.reduceLT,tiA, h18, h17]
        refine condC_dec (fun hh => ?_) (fun hh => ?_)
        · obtain ⟨i7, o7, u7, c7, r7, rfl, hr7, hc7, hs7, hg7⟩ := hsx.get (by omega)
          have g1 := hs7 b (by omega)
          by_cases hab : a = b
          · have e2 : ((a : Int) != (b : Int)) = false := by rw [hab]; exact bne_self_eq_false _
            have hbal : eachAt p M a b = true := by unfold eachAt; rw [decide_eq_true hab]; rfl
            try simp (disch := first | omega | (simp only [L3] <;> omega)) only [Sall,evalOp,init,binA_s,binE,binI,unE,convE,okNil,builtE,gv,TD.isAgg,resV,↓reduceIte,Nat.reduceEqDiff,reduceCtorEq,Nat.reduceAdd,Nat.reduceMul,Nat.reduceLeDiff,quietOp,blindOp,Int.reduceEq,Int.reduceLT,Int.reduceLE,Nat.reduceLT,tiA, h18, h17, h16, h5, h11, h10, h9, h1, hr7, g1, e2, w64]
            (repeat refine And.intro (by omega) ?_)
            refine ⟨my - (b + 1), by omega, b + 1, rfl, by omega, rfl, fun j hj => ?_⟩
            by_cases e : j = b
            · rw [e]; exact hbal
            · exact hin j (by omega)
          · have e2 : ((a : Int) != (b : Int)) = true := by rw [bne_iff_ne]; omega
            try simp (disch := first | omega | (simp only [L3] <;> omega)) only [Sall,evalOp,init,binA_s,binE,binI,unE,convE,okNil,builtE,gv,TD.isAgg,resV,↓reduceIte,Nat.reduceEqDiff,reduceCtorEq,Nat.reduceAdd,Nat.reduceMul,Nat.reduceLeDiff,quietOp,blindOp,Int.reduceEq,Int.reduceLT,Int.reduceLE,Nat.reduceLT,tiA, h18, h17, h16, h5, h11, h10, h9, h1, hr7, g1, e2]
            (repeat refine And.intro (by omega) ?_)
            refine (hp _ _).to ?_
            cases hx1 : p ((M.getD a []).getD b 0) with
            | true =>
              have hbal : eachAt p M a b = true := by unfold eachAt; rw [hx1]; simp
              try simp (disch := first | omega | (simp only [L3] <;> omega)) only [Sall,evalOp,init,binA_s,binE,binI,unE,convE,okNil,builtE,gv,TD.isAgg,resV,↓reduceIte,Nat.reduceEqDiff,reduceCtorEq,Nat.reduceAdd,Nat.reduceMul,Nat.reduceLeDiff,quietOp,blindOp,Int.reduceEq,Int.reduceLT,Int.reduceLE,Nat.reduceLT,tiA, Bool.not_true, h18, h17, h16, h5, h11, h10, h9, h1, w64]
              refine ⟨my - (b + 1), by omega, b + 1, rfl, by omega, rfl, fun j hj => ?_⟩
              by_cases e : j = b
              · rw [e]; exact hbal
              · exact hin j (by omega)
            | false =>
              have hbal : eachAt p M a b = false := by
                unfold eachAt
                rw [decide_eq_false hab, hx1]; rfl
              try simp (disch := first | omega | (simp only [L3] <;> omega)) only [Sall,evalOp,init,binA_s,binE,binI,unE,convE,okNil,builtE,gv,TD.isAgg,resV,↓reduceIte,Nat.reduceEqDiff,reduceCtorEq,Nat.reduceAdd,Nat.reduceMul,Nat.reduceLeDiff,quietOp,blindOp,Int.reduceEq,Int.reduceLT,Int.reduceLE,Nat.reduceLT,tiA, Bool.not_false]
              rw [eachB_bad (i := a) (j := b) (by rw [hMl]; omega) (by omega) hbal]
              exact ⟨rfl, Up.refl _ _⟩
        · try simp (disch := first | omega | (simp only [L3] <;> omega)) only [Sall,evalOp,init,binA_s,binE,binI,unE,convE,okNil,builtE,gv,TD.isAgg,resV,↓reduceIte,Nat.reduceEqDiff,reduceCtorEq,Nat.reduceAdd,Nat.reduceMul,Nat.reduceLeDiff,quietOp,blindOp,Int.reduceEq,Int.reduceLT,Int.reduceLE,Nat.reduceLT,tiA, h11, h10, h9, h1, w64]
          refine ⟨my - (a + 1), by omega, a + 1, rfl, by omega, rfl, by first | rfl | rw [hMl], fun i hi j hj => ?_⟩
          by_cases e : i = a
          · rw [e]; exact hin j (by omega)
          · exact hall i (by omega) j hj
    · try simp (disch := first | omega | (simp only [L3] <;> omega)) only [Sall,evalOp,init,binA_s,binE,binI,unE,convE,okNil,builtE,gv,TD.isAgg,resV,↓reduceIte,Nat.reduceEqDiff,reduceCtorEq,Nat.reduceAdd,Nat.reduceMul,Nat.reduceLeDiff,quietOp,blindOp,Int.reduceEq,Int.reduceLT,Int.reduceLE,Nat.reduceLT,tiA, true_and]
      rw [eachB_good (fun i hi j hj => hall i (by rw [hM.1] at hi; omega) j (by rw [hM.1] at hi; rw [hM.2 i hi] at hj; exact hj))]
      exact ⟨rfl, Up.refl _ _⟩
end Go.Proofs.YtollphjompimjaaGreat.A
end

section
namespace Go.Abs
def sumG (f : Nat → Nat) : Nat → Nat
  | 0 => 0
  | n + 1 => sumG f n + f n
theorem sumG_range (f : Nat → Nat) : ∀ n, ((List.range n).map f).sum = sumG f n
  | 0 => rfl
  | n + 1 => by rw [List.range_succ, List.map_append, List.sum_append, sumG_range f n]; simp [sumG]
theorem sumG_add (f h : Nat → Nat) : ∀ n, sumG (fun i => f i + h i) n = sumG f n + sumG h n
  | 0 => rfl
  | n + 1 => by show sumG (fun i => f i + h i) n + (f n + h n) = sumG f n + f n + (sumG h n + h n); rw [sumG_add f h n]; omega
theorem sumG_congr {f h : Nat → Nat} : ∀ n, (∀ i, i < n → f i = h i) → sumG f n = sumG h n
  | 0, _ => rfl
  | n + 1, e => by show sumG f n + f n = sumG h n + h n; rw [sumG_congr n fun i hi => e i (by omega), e n (by omega)]
theorem sumG_zero {f : Nat → Nat} : ∀ n, (∀ i, i < n → f i = 0) → sumG f n = 0
  | 0, _ => rfl
  | n + 1, e => by show sumG f n + f n = 0; rw [sumG_zero n fun i hi => e i (by omega), e n (by omega)]
theorem sumG_perm (f : Nat → Nat) {n : Nat} {L : List Nat} (h : L.Perm (List.range n)) : (L.map f).sum = sumG f n := by
  rw [← sumG_range]
  exact (h.map f).sum_nat
theorem sum_int (f : Nat → Nat) : ∀ n, ((List.range n).map fun b => ((f b : Nat) : Int)).sum = ((sumG f n : Nat) : Int)
  | 0 => rfl
  | n + 1 => by rw [List.range_succ, List.map_append, List.sum_append, sum_int f n]; simp [sumG]
theorem count_map_onG {α β : Type} [BEq α] [LawfulBEq α] [BEq β] [LawfulBEq β] {f : α → β} {P : α → Prop} (hf : ∀ x z, P x → P z → f x = f z → x = z) {a : α} (ha : P a) : ∀ (L : List α), (∀ x ∈ L, P x) → (L.map f).count (f a) = L.count a
  | [], _ => rfl
  | x :: L, h => by
    rw [List.map_cons, List.count_cons, List.count_cons, count_map_onG hf ha L fun z hz => h z (List.mem_cons_of_mem _ hz)]
    congr 1
    by_cases e : x = a
    · subst e; simp
    · have : ¬ f x = f a := fun e2 => e (hf x a (h x List.mem_cons_self) ha e2)
      simp [e, this]
theorem pgS_lt {g c n : Nat} (hg : 0 < g) (hn : n = g * c) : ∀ p ∈ pgS g n, p.1 < n ∧ p.2 < n := by
  rintro ⟨x, y⟩ hp
  have h := List.count_pos_iff.2 hp
  rw [cntPS] at h
  split at h
  · rename_i h1
    obtain ⟨h2, h3, h4, h5⟩ := h1
    have h6 := (div_block hg).1 ⟨h4, h5⟩
    refine ⟨h2, ?_⟩
    have hlt : ∀ z, z < n ↔ z / g < c := fun z => by rw [hn, Nat.div_lt_iff_lt_mul hg, Nat.mul_comm]
    show y < n
    rw [hlt, h6, ← hlt]; exact h2
  · omega
theorem round_cnt {n g c : Nat} (hg : 0 < g) (hn : n = g * c) {l : List Int} (ho : ordB n l = true) {a b : Nat} (ha : a < n) (hb : b < n) : (gxL n l (pgS g n)).count (ixN n (l.getD a 0).toNat (l.getD b 0).toNat) = if b ≠ a ∧ b / g = a / g then 1 else 0 := by
  obtain ⟨l1, l2, l3⟩ := (ordB_iff n l).1 ho
  have hlt : ∀ i, i < n → 0 ≤ l.getD i 0 ∧ l.getD i 0 < n := fun i hi => l2 _ (getD_memI (by omega))
  have hinj : ∀ i j, i < n → j < n → (l.getD i 0).toNat = (l.getD j 0).toNat → i = j := fun i j hi hj e => by
    apply Classical.byContradiction
    intro hne
    have h1 := hlt i hi
    have h2 := hlt j hj
    exact getD_ne l3 (by omega) (by omega) hne (by omega)
  unfold gxL
  rw [show ixN n (l.getD a 0).toNat (l.getD b 0).toNat = (fun p : Nat × Nat => ixN n (l.getD p.1 0).toNat (l.getD p.2 0).toNat) (a, b) from rfl]
  rw [count_map_onG (f := fun p : Nat × Nat => ixN n (l.getD p.1 0).toNat (l.getD p.2 0).toNat) (P := fun p : Nat × Nat => p.1 < n ∧ p.2 < n) ?_ ⟨ha, hb⟩ _ (pgS_lt hg hn), cntPS]
  · have h := div_block (x := a) (y := b) hg
    congr 1
    refine propext ⟨fun ⟨h1, h2, h3⟩ => ⟨h2, h.1 h3⟩, fun ⟨h1, h2⟩ => ⟨ha, h1, h.2 h2⟩⟩
  · rintro ⟨x, y⟩ ⟨z, w⟩ ⟨h1, h2⟩ ⟨h3, h4⟩ e
    have h5 := hlt y h2
    have h6 := hlt w h4
    obtain ⟨e1, e2⟩ := (ixN_eq (a := (l.getD x 0).toNat) (x := (l.getD z 0).toNat) (b := (l.getD y 0).toNat) (y := (l.getD w 0).toNat) (by omega) (by omega)).1 e
    exact Prod.ext (hinj _ _ h1 h3 e1) (hinj _ _ h2 h4 e2)
theorem blk_sum {A g a : Nat} (h1 : A ≤ a) (h2 : a < A + g) : ∀ m, sumG (fun b => if b ≠ a ∧ (A ≤ b ∧ b < A + g) then 1 else 0) m = (min m (A + g) - min m A) - (if a < m then 1 else 0)
  | 0 => by simp [sumG]
  | m + 1 => by
    show sumG _ m + _ = _
    rw [blk_sum h1 h2 m]
    dsimp only
    by_cases c1 : m < A
    · rw [if_neg (show ¬ a < m by omega), if_neg (show ¬ a < m + 1 by omega), if_neg (by omega)]; omega
    · by_cases c2 : m < A + g
      · by_cases c3 : m = a
        · rw [if_neg (show ¬ a < m by omega), if_pos (show a < m + 1 by omega), if_neg (by omega)]; omega
        · by_cases c4 : a < m
          · rw [if_pos c4, if_pos (show a < m + 1 by omega), if_pos ⟨c3, by omega, by omega⟩]; omega
          · rw [if_neg c4, if_neg (show ¬ a < m + 1 by omega), if_pos ⟨c3, by omega, by omega⟩]; omega
      · rw [if_pos (show a < m by omega), if_pos (show a < m + 1 by omega), if_neg (by omega)]; omega
theorem round_sum {n g c : Nat} (hg : 0 < g) (hn : n = g * c) {l : List Int} (ho : ordB n l = true) {x : Nat} (hx : x < n) : sumG (fun y => (gxL n l (pgS g n)).count (ixN n x y)) n = g - 1 := by
  obtain ⟨a, ha, e⟩ := ord_has ho (a := (x : Int)) (by omega)
  have ex : x = (l.getD a 0).toNat := by omega
  rw [← sumG_perm _ (order_map ho), List.map_map]
  rw [sumG_range]
  rw [sumG_congr (h := fun b => if b ≠ a ∧ (a / g * g ≤ b ∧ b < a / g * g + g) then 1 else 0) n fun b hb => by
    show (gxL n l (pgS g n)).count (ixN n x (l.getD b 0).toNat) = _
    rw [ex, round_cnt hg hn ho ha hb]
    have h := div_block (x := a) (y := b) hg
    congr 1
    refine propext ⟨fun ⟨h1, h2⟩ => ⟨h1, h.2 h2⟩, fun ⟨h1, h2⟩ => ⟨h1, h.1 h2⟩⟩]
  obtain ⟨h1, h2⟩ := (div_block (x := a) (y := a) hg).2 rfl
  rw [blk_sum h1 h2, if_pos ha]
  have h3 : a / g < c := by rw [Nat.div_lt_iff_lt_mul hg, Nat.mul_comm, ← hn]; exact ha
  have h4 : (a / g + 1) * g ≤ c * g := Nat.mul_le_mul_right g h3
  rw [Nat.succ_mul, Nat.mul_comm c g, ← hn] at h4
  generalize a / g * g = A at *
  omega
theorem gxS_cnt {n g : Nat} (R : List (List Int)) (z : Int) (r : Nat) : (gxS n g R (r + 1)).count z = (gxS n g R r).count z + (gxL n (R.getD r []) (pgS g n)).count z := by rw [gxS_succ, List.count_append]
theorem gx_sum {n g c : Nat} (hg : 0 < g) (hn : n = g * c) {R : List (List Int)} {x : Nat} (hx : x < n) : ∀ r, (∀ i, i < r → ordB n (R.getD i []) = true) → sumG (fun y => (gxS n g R r).count (ixN n x y)) n = r * (g - 1)
  | 0, _ => by rw [sumG_zero _ fun i _ => by simp [gxS], Nat.zero_mul]
  | r + 1, h => by
    rw [sumG_congr n fun y _ => gxS_cnt R (ixN n x y) r, sumG_add, gx_sum hg hn hx r fun i hi => h i (by omega), round_sum hg hn (h r (by omega)) hx, Nat.succ_mul]
theorem round_at {n g c : Nat} (hg : 0 < g) (hn : n = g * c) {l : List Int} (ho : ordB n l = true) {x y : Nat} (hx : x < n) (hy : y < n) : ∃ a b, a < n ∧ b < n ∧ l.getD a 0 = (x : Int) ∧ l.getD b 0 = (y : Int) ∧ (gxL n l (pgS g n)).count (ixN n x y) = if b ≠ a ∧ b / g = a / g then 1 else 0 := by
  obtain ⟨a, ha, e⟩ := ord_has ho (a := (x : Int)) (by omega)
  obtain ⟨b, hb, e2⟩ := ord_has ho (a := (y : Int)) (by omega)
  refine ⟨a, b, ha, hb, e, e2, ?_⟩
  have h := round_cnt hg hn ho ha hb
  rw [e, e2, Int.toNat_natCast, Int.toNat_natCast] at h
  exact h
theorem ord_same {n : Nat} {l : List Int} (ho : ordB n l = true) {a b : Nat} (ha : a < n) (hb : b < n) (e : l.getD a 0 = l.getD b 0) : a = b := by
  obtain ⟨l1, l2, l3⟩ := (ordB_iff n l).1 ho
  apply Classical.byContradiction
  intro hne
  exact getD_ne l3 (by omega) (by omega) hne e
theorem gx_sym {n g c : Nat} (hg : 0 < g) (hn : n = g * c) {R : List (List Int)} {x y : Nat} (hx : x < n) (hy : y < n) : ∀ r, (∀ i, i < r → ordB n (R.getD i []) = true) → (gxS n g R r).count (ixN n x y) = (gxS n g R r).count (ixN n y x)
  | 0, _ => by simp [gxS]
  | r + 1, h => by
    rw [gxS_cnt, gxS_cnt, gx_sym hg hn hx hy r fun i hi => h i (by omega)]
    have ho := h r (by omega)
    obtain ⟨a, b, ha, hb, e1, e2, e3⟩ := round_at hg hn ho hx hy
    obtain ⟨b', a', hb', ha', e4, e5, e6⟩ := round_at hg hn ho hy hx
    obtain rfl := ord_same ho ha ha' (e1.trans e5.symm)
    obtain rfl := ord_same ho hb hb' (e2.trans e4.symm)
    rw [e3, e6]
    congr 2
    exact propext ⟨fun ⟨h1, h2⟩ => ⟨fun e => h1 e.symm, h2.symm⟩, fun ⟨h1, h2⟩ => ⟨fun e => h1 e.symm, h2.symm⟩⟩
theorem gx_diag {n g c : Nat} (hg : 0 < g) (hn : n = g * c) {R : List (List Int)} {x : Nat} (hx : x < n) : ∀ r, (∀ i, i < r → ordB n (R.getD i []) = true) → (gxS n g R r).count (ixN n x x) = 0
  | 0, _ => by simp [gxS]
  | r + 1, h => by
    rw [gxS_cnt, gx_diag hg hn hx r fun i hi => h i (by omega)]
    have ho := h r (by omega)
    obtain ⟨a, b, ha, hb, e1, e2, e3⟩ := round_at hg hn ho hx hx
    obtain rfl := ord_same ho ha hb (e1.trans e2.symm)
    rw [e3, if_neg (fun h => h.1 rfl)]
theorem gmM_facts {n g c : Nat} (hg : 2 ≤ g) (hn : n = g * c) (hn25 : n ≤ 25) {R : List (List Int)} (hl : R.length ≤ 12) (h : ∀ i, i < R.length → ordB n (R.getD i []) = true) {a : Nat} (ha : a < n) : ((gmM n g R).getD a []).sum = ((R.length * (g - 1) : Nat) : Int) ∧ ((gmM n g R).getD a []).getD a 0 = 0 ∧ ((gmM n g R).getD a []).length = n ∧ (∀ z ∈ (gmM n g R).getD a [], 0 ≤ z ∧ z ≤ 1000000) ∧ ∀ b, b < n → ((gmM n g R).getD a []).getD b 0 = ((gmM n g R).getD b []).getD a 0 := by
  unfold gmM
  refine ⟨?_, ?_, ?_, ?_, fun b hb => ?_⟩
  · rw [cntMx_row _ _ _ ha, sum_int, gx_sum (by omega) hn ha _ h]
  · rw [cntMx_at _ _ _ _ ha ha, gx_diag (by omega) hn ha _ h]; rfl
  · rw [cntMx_row _ _ _ ha]; simp
  · intro z hz
    rw [cntMx_row _ _ _ ha] at hz
    obtain ⟨b, _, rfl⟩ := List.mem_map.1 hz
    have h1 := gxS_length (n := n) (g := g) R R.length
    have h2 : (gxS n g R R.length).count (ixN n a b) ≤ (gxS n g R R.length).length := List.count_le_length
    have h3 : g ≤ 25 := by
      have : g * 1 ≤ g * c := Nat.mul_le_mul_left g (by rcases c with _ | c <;> omega)
      omega
    have h4 : R.length * (n * g) ≤ 12 * (25 * 25) := Nat.mul_le_mul hl (Nat.mul_le_mul hn25 h3)
    omega
  · rw [cntMx_at _ _ _ _ ha hb, cntMx_at _ _ _ _ hb ha, gx_sym (by omega) hn ha hb _ h]
end Go.Abs
end

section
namespace Go.Abs
def le1 (x : Int) : Bool := decide (x ≤ 1)
def eq1 (x : Int) : Bool := x == 1
def socG (q g : Int) (R : List (List Int)) : Bool := golfB q g R && eachB le1 (gmM q.toNat g.toNat R)
def fulG (q g : Int) (R : List (List Int)) : Bool := golfB q g R && eachB eq1 (gmM q.toNat g.toNat R)
def witB (lo hi : Int) (M : List (List Int)) (n : Nat) : Bool := (List.range n).all fun a => (List.range a).all fun b => decide (lo ≤ (M.getD a []).getD b 0 ∧ (M.getD a []).getD b 0 ≤ hi)
theorem wit_each {n g c : Nat} (hg : 2 ≤ g) (hn : n = g * c) (hn25 : n ≤ 25) {R : List (List Int)} (hl : R.length ≤ 12) (h : ∀ i, i < R.length → ordB n (R.getD i []) = true) {lo hi : Int} {p : Int → Bool} (hp : ∀ x : Int, 0 ≤ x → (p x = true ↔ lo ≤ x ∧ x ≤ hi)) : witB lo hi (gmM n g R) n = eachB p (gmM n g R) := by
  have hF : ∀ a, a < n → _ := fun a ha => gmM_facts hg hn hn25 hl h (a := a) ha
  have hpos : ∀ a b, a < n → b < n → 0 ≤ ((gmM n g R).getD a []).getD b 0 := fun a b ha hb => by
    obtain ⟨_, _, h3, h4, _⟩ := hF a ha
    exact (h4 _ (getD_memI (by omega))).1
  rw [Bool.eq_iff_iff, each_iff (gmM_sq n g R)]
  unfold witB
  rw [List.all_eq_true]
  constructor
  · intro hw i hin j hj hij
    have key : ∀ a b, a < n → b < a → lo ≤ ((gmM n g R).getD a []).getD b 0 ∧ ((gmM n g R).getD a []).getD b 0 ≤ hi := fun a b ha hb => by
      have h1 := hw a (List.mem_range.2 ha)
      rw [List.all_eq_true] at h1
      exact of_decide_eq_true (h1 b (List.mem_range.2 hb))
    rw [hp _ (hpos i j hin hj)]
    rcases Nat.lt_or_gt_of_ne hij with h1 | h1
    · obtain ⟨_, _, _, _, h5⟩ := hF i hin
      rw [h5 j hj]
      exact key j i hj h1
    · exact key i j hin h1
  · intro hw a ha
    have ha := List.mem_range.1 ha
    rw [List.all_eq_true]
    intro b hb
    have hb := List.mem_range.1 hb
    exact decide_eq_true ((hp _ (hpos a b ha (by omega))).1 (hw a ha b (by omega) (by omega)))
theorem wit_soc {n g c : Nat} (hg : 2 ≤ g) (hn : n = g * c) (hn25 : n ≤ 25) {R : List (List Int)} (hl : R.length ≤ 12) (h : ∀ i, i < R.length → ordB n (R.getD i []) = true) : witB 0 1 (gmM n g R) n = eachB le1 (gmM n g R) :=
  wit_each hg hn hn25 hl h fun x hx => by unfold le1; rw [decide_eq_true_iff]; omega
theorem wit_ful {n g c : Nat} (hg : 2 ≤ g) (hn : n = g * c) (hn25 : n ≤ 25) {R : List (List Int)} (hl : R.length ≤ 12) (h : ∀ i, i < R.length → ordB n (R.getD i []) = true) : witB 1 1 (gmM n g R) n = eachB eq1 (gmM n g R) :=
  wit_each hg hn hn25 hl h fun x hx => by unfold eq1; rw [beq_iff_eq]; omega
def gbC (n g : Int) : Int := if (2 ≤ n ∧ n ≤ 1000) ∧ (2 ≤ g ∧ g ≤ n) then 0 else 2
def gbV (n g : Int) : Int := if (2 ≤ n ∧ n ≤ 1000) ∧ (2 ≤ g ∧ g ≤ n) then Int.tdiv (n - 1) (g - 1) else 0
theorem soc_bound {n g c : Nat} (hg : 2 ≤ g) (hn : n = g * c) (hc : 1 ≤ c) (hn25 : n ≤ 25) {R : List (List Int)} (hl : R.length ≤ 12) (h : ∀ i, i < R.length → ordB n (R.getD i []) = true) (hs : eachB le1 (gmM n g R) = true) : (R.length : Int) ≤ Int.tdiv ((n : Int) - 1) ((g : Int) - 1) := by
  have hn0 : 0 < n := by
    have : 2 * 1 ≤ g * c := Nat.mul_le_mul hg hc
    omega
  have h1 := gx_sum (by omega) hn hn0 R.length h
  rw [each_iff (gmM_sq n g R)] at hs
  have h2 : sumG (fun y => (gxS n g R R.length).count (ixN n 0 y)) n ≤ n - 1 := by
    have key : ∀ m, 1 ≤ m → m ≤ n → sumG (fun y => (gxS n g R R.length).count (ixN n 0 y)) m ≤ m - 1 := by
      intro m
      induction m with
      | zero => intro h; omega
      | succ m ih =>
        intro _ hm
        show sumG _ m + _ ≤ _
        rcases Nat.eq_zero_or_pos m with h0 | h0
        · subst h0
          show 0 + (gxS n g R R.length).count (ixN n 0 0) ≤ 0
          rw [gx_diag (by omega) hn hn0 _ h]; exact Nat.le_refl _
        · have h3 := ih h0 (by omega)
          have h4 := hs 0 hn0 m (by omega) (by omega)
          unfold le1 gmM at h4
          rw [cntMx_at _ _ _ _ hn0 (by omega), decide_eq_true_iff] at h4
          dsimp only
          omega
    exact key n hn0 (Nat.le_refl _)
  rw [h1] at h2
  have e1 : (n : Int) - 1 = ((n - 1 : Nat) : Int) := by omega
  have e2 : (g : Int) - 1 = ((g - 1 : Nat) : Int) := by omega
  rw [e1, e2]
  show (R.length : Int) ≤ (((n - 1) / (g - 1) : Nat) : Int)
  have := (Nat.le_div_iff_mul_le (show 0 < g - 1 by omega)).2 h2
  omega
theorem ful_soc {M : List (List Int)} {n : Nat} (hM : SqM n M) (h : eachB eq1 M = true) : eachB le1 M = true := by
  rw [each_iff hM] at h ⊢
  intro i hi j hj hij
  have := h i hi j hj hij
  unfold eq1 at this
  unfold le1
  rw [beq_iff_eq] at this
  rw [decide_eq_true_iff]; omega
end Go.Abs
end

section
set_option maxRecDepth 100000
set_option maxHeartbeats 2000000
namespace Go.Proofs.YtollphjompimjaaGreat.A
open Go Go.Abs Go.RowKit
theorem once8_c (x : Int) (H : AH) : ACalls Tryz.prog 39 [.int .i64 x] H (is (.bool (eq1 x)) H) := by
  refine acalls_of_awp [.tmp 2] Tryz.func39 (by kernel_rfl) rfl rfl (Nat.le_of_ble_eq_true rfl) (by kernel_rfl) ?_
  try simp (disch := first | omega | (simp only [L3] <;> omega)) only [Sall,evalOp,init,binA_s,binE,binI,unE,convE,okNil,builtE,gv,TD.isAgg,resV,↓reduceIte,Nat.reduceEqDiff,reduceCtorEq,Nat.reduceAdd,Nat.reduceMul,Nat.reduceLeDiff,quietOp,blindOp,Int.reduceEq,Int.reduceLT,Int.reduceLE,Nat.reduceLT,tiA,tiXA, eq1]
  exact ⟨rfl, rfl⟩
theorem atMost_c (x : Int) (H : AH) : ACalls Tryz.prog 58 [.int .i64 x] H (is (.bool (le1 x)) H) := by
  refine acalls_of_awp [.tmp 2] Tryz.func58 (by kernel_rfl) rfl rfl (Nat.le_of_ble_eq_true rfl) (by kernel_rfl) ?_
  try simp (disch := first | omega | (simp only [L3] <;> omega)) only [Sall,evalOp,init,binA_s,binE,binI,unE,convE,okNil,builtE,gv,TD.isAgg,resV,↓reduceIte,Nat.reduceEqDiff,reduceCtorEq,Nat.reduceAdd,Nat.reduceMul,Nat.reduceLeDiff,quietOp,blindOp,Int.reduceEq,Int.reduceLT,Int.reduceLE,Nat.reduceLT,tiA,tiXA, le1]
  exact ⟨rfl, rfl⟩
theorem gSocial_c (n g c : Nat) (hg : 2 ≤ g) (hn : n = g * c) (hn25 : n ≤ 25) (hgn : g ≤ n) (v : Value) (R : List (List Int)) (H : AH) (hv : Rg H v R) (hl : R.length ≤ 12) (hR : ∀ i, i < R.length → ordB n (R.getD i []) = true) :
    ACalls Tryz.prog 29 [.agg #[.int .i64 n, .int .i64 g, v]] H (is (.bool (eachB le1 (gmM n g R))) H) := by
  refine acalls_up rfl (ACalls.wf (by kernel_rfl) fun hs => acalls_of_awp [.tmp 2] Tryz.func29 (by kernel_rfl) rfl rfl (Nat.le_of_ble_eq_true rfl) (by kernel_rfl) ?_)
  have hone := hv.one
  have o1 := golf_push hs n g v
  try simp (disch := first | omega | (simp only [L3] <;> omega)) only [Sall,evalOp,init,binA_s,binE,binI,unE,convE,okNil,builtE,gv,TD.isAgg,resV,↓reduceIte,Nat.reduceEqDiff,reduceCtorEq,Nat.reduceAdd,Nat.reduceMul,Nat.reduceLeDiff,quietOp,blindOp,Int.reduceEq,Int.reduceLT,Int.reduceLE,Nat.reduceLT,tiA,tiXA, hone]
  have hv1 := hv.same (o1.old hs)
  refine ACalls.mono (gMeetings_c n g c hg hn hn25 hgn v R _ hv1 hl hR) ?_
  intro w H2 o2
  have hw := (o2.rd2 0 rfl).one
  refine Holds.mp ?_
  try simp (disch := first | omega | (simp only [L3] <;> omega)) only [Sall,evalOp,init,binA_s,binE,binI,unE,convE,okNil,builtE,gv,TD.isAgg,resV,↓reduceIte,Nat.reduceEqDiff,reduceCtorEq,Nat.reduceAdd,Nat.reduceMul,Nat.reduceLeDiff,quietOp,blindOp,Int.reduceEq,Int.reduceLT,Int.reduceLE,Nat.reduceLT,tiA,tiXA, hw]
  refine (areAll_c 58 le1 atMost_c w n _ H2 (o2.rd2 0 rfl) (gmM_sq n g R) (by omega)).to ?_
  refine Holds.mp ?_
  try simp (disch := first | omega | (simp only [L3] <;> omega)) only [Sall,evalOp,init,binA_s,binE,binI,unE,convE,okNil,builtE,gv,TD.isAgg,resV,↓reduceIte,Nat.reduceEqDiff,reduceCtorEq,Nat.reduceAdd,Nat.reduceMul,Nat.reduceLeDiff,quietOp,blindOp,Int.reduceEq,Int.reduceLT,Int.reduceLE,Nat.reduceLT,tiA,tiXA, true_and]
  exact (o1.call o2).up
theorem IsSocial_c (q g : Int) (v : Value) (R : List (List Int)) (H : AH) (hv : Rg H v R) (hl : R.length ≤ 4194304) (hl2 : ∀ r ∈ R, r.length ≤ 4194304) :
    ACalls Tryz.prog 9 [.agg #[.int .i64 q, .int .i64 g, v]] H (is (.tuple #[.bool (socG q g R), .int .i64 (glC q g R true)]) H) := by
  refine acalls_up (by simp [Abs.flat, Abs.scal]) (ACalls.wf (by kernel_rfl) fun hs => acalls_of_awp [.tmp 2, .tmp 3] Tryz.func9 (by kernel_rfl) rfl rfl (Nat.le_of_ble_eq_true rfl) (by kernel_rfl) ?_)
  have hone := hv.one
  have o1 := golf_push hs q g v
  try simp (disch := first | omega | (simp only [L3] <;> omega)) only [Sall,evalOp,init,binA_s,binE,binI,unE,convE,okNil,builtE,gv,TD.isAgg,resV,↓reduceIte,Nat.reduceEqDiff,reduceCtorEq,Nat.reduceAdd,Nat.reduceMul,Nat.reduceLeDiff,quietOp,blindOp,Int.reduceEq,Int.reduceLT,Int.reduceLE,Nat.reduceLT,tiA,tiXA, hone]
  obtain ⟨pi, epi⟩ : ∃ pi, pi = H.next := ⟨_, rfl⟩
  rw [← epi] at o1 ⊢
  generalize H.push ⟨26, true, [.int .i64 q, .int .i64 g, v]⟩ = H1 at o1 ⊢
  have up : Up pi H H1 := by rw [epi]; exact o1.up
  have e1 := (o1.rowAt 0 rfl).1
  have hv1 := hv.same (o1.old hs)
  try simp (disch := first | omega | (simp only [L3] <;> omega)) only [Sall,evalOp,init,binA_s,binE,binI,unE,convE,okNil,builtE,gv,TD.isAgg,resV,↓reduceIte,Nat.reduceEqDiff,reduceCtorEq,Nat.reduceAdd,Nat.reduceMul,Nat.reduceLeDiff,quietOp,blindOp,Int.reduceEq,Int.reduceLT,Int.reduceLE,Nat.reduceLT,tiA,tiXA, e1, hone]
  refine (golfCode_c q g v R true H1 hv1.rd2 hl hl2).to ?_
  refine Holds.mp ?_
  unfold socG
  cases hE : golfB q g R with
  | false =>
    have e2 : glC q g R true = 1 := by unfold glC; rw [hE, if_neg (by simp)]
    have e3 : ((1 : Int) != 0) = true := rfl
    rw [e2]
    try simp (disch := first | omega | (simp only [L3] <;> omega)) only [Sall,evalOp,init,binA_s,binE,binI,unE,convE,okNil,builtE,gv,TD.isAgg,resV,↓reduceIte,Nat.reduceEqDiff,reduceCtorEq,Nat.reduceAdd,Nat.reduceMul,Nat.reduceLeDiff,quietOp,blindOp,Int.reduceEq,Int.reduceLT,Int.reduceLE,Nat.reduceLT,tiA,tiXA, e3, Bool.false_and]
    exact up
  | true =>
    have e2 : glC q g R true = 0 := by unfold glC; rw [hE, if_pos rfl, if_pos rfl]
    have e3 : ((0 : Int) != 0) = false := rfl
    obtain ⟨n, gN, c, rfl, rfl, q0, q1, q2, q3, q4, q5, q6, q7⟩ := golfB_at hE
    rw [e2, Bool.true_and, Int.toNat_natCast, Int.toNat_natCast]
    try simp (disch := first | omega | (simp only [L3] <;> omega)) only [Sall,evalOp,init,binA_s,binE,binI,unE,convE,okNil,builtE,gv,TD.isAgg,resV,↓reduceIte,Nat.reduceEqDiff,reduceCtorEq,Nat.reduceAdd,Nat.reduceMul,Nat.reduceLeDiff,quietOp,blindOp,Int.reduceEq,Int.reduceLT,Int.reduceLE,Nat.reduceLT,tiA,tiXA, e3, e1, hone]
    refine (gSocial_c n gN c q1 q0 q4 q5 v R H1 hv1 q6 q7).to ?_
    refine Holds.mp ?_
    try simp (disch := first | omega | (simp only [L3] <;> omega)) only [Sall,evalOp,init,binA_s,binE,binI,unE,convE,okNil,builtE,gv,TD.isAgg,resV,↓reduceIte,Nat.reduceEqDiff,reduceCtorEq,Nat.reduceAdd,Nat.reduceMul,Nat.reduceLeDiff,quietOp,blindOp,Int.reduceEq,Int.reduceLT,Int.reduceLE,Nat.reduceLT,tiA,tiXA, true_and]
    exact up
theorem IsFull_c (q g : Int) (v : Value) (R : List (List Int)) (H : AH) (hv : Rg H v R) (hl : R.length ≤ 4194304) (hl2 : ∀ r ∈ R, r.length ≤ 4194304) :
    ACalls Tryz.prog 11 [.agg #[.int .i64 q, .int .i64 g, v]] H (is (.tuple #[.bool (fulG q g R), .int .i64 (glC q g R true)]) H) := by
  refine acalls_up (by simp [Abs.flat, Abs.scal]) (ACalls.wf (by kernel_rfl) fun hs => acalls_of_awp [.tmp 2, .tmp 3] Tryz.func11 (by kernel_rfl) rfl rfl (Nat.le_of_ble_eq_true rfl) (by kernel_rfl) ?_)
  have hone := hv.one
  have o1 := golf_push hs q g v
  try simp (disch := first | omega | (simp only [L3] <;> omega)) only [Sall,evalOp,init,binA_s,binE,binI,unE,convE,okNil,builtE,gv,TD.isAgg,resV,↓reduceIte,Nat.reduceEqDiff,reduceCtorEq,Nat.reduceAdd,Nat.reduceMul,Nat.reduceLeDiff,quietOp,blindOp,Int.reduceEq,Int.reduceLT,Int.reduceLE,Nat.reduceLT,tiA,tiXA, hone]
  obtain ⟨pi, epi⟩ : ∃ pi, pi = H.next := ⟨_, rfl⟩
  rw [← epi] at o1 ⊢
  generalize H.push ⟨26, true, [.int .i64 q, .int .i64 g, v]⟩ = H1 at o1 ⊢
  have up : Up pi H H1 := by rw [epi]; exact o1.up
  have e1 := (o1.rowAt 0 rfl).1
  have hv1 := hv.same (o1.old hs)
  try simp (disch := first | omega | (simp only [L3] <;> omega)) only [Sall,evalOp,init,binA_s,binE,binI,unE,convE,okNil,builtE,gv,TD.isAgg,resV,↓reduceIte,Nat.reduceEqDiff,reduceCtorEq,Nat.reduceAdd,Nat.reduceMul,Nat.reduceLeDiff,quietOp,blindOp,Int.reduceEq,Int.reduceLT,Int.reduceLE,Nat.reduceLT,tiA,tiXA, e1, hone]
  refine (golfCode_c q g v R true H1 hv1.rd2 hl hl2).to ?_
  refine Holds.mp ?_
  unfold fulG
  cases hE : golfB q g R with
  | false =>
    have e2 : glC q g R true = 1 := by unfold glC; rw [hE, if_neg (by simp)]
    have e3 : ((1 : Int) != 0) = true := rfl
    rw [e2]
    try simp (disch := first | omega | (simp only [L3] <;> omega)) only [Sall,evalOp,init,binA_s,binE,binI,unE,convE,okNil,builtE,gv,TD.isAgg,resV,↓reduceIte,Nat.reduceEqDiff,reduceCtorEq,Nat.reduceAdd,Nat.reduceMul,Nat.reduceLeDiff,quietOp,blindOp,Int.reduceEq,Int.reduceLT,Int.reduceLE,Nat.reduceLT,tiA,tiXA, e3, Bool.false_and]
    exact up
  | true =>
    have e2 : glC q g R true = 0 := by unfold glC; rw [hE, if_pos rfl, if_pos rfl]
    have e3 : ((0 : Int) != 0) = false := rfl
    obtain ⟨n, gN, c, rfl, rfl, q0, q1, q2, q3, q4, q5, q6, q7⟩ := golfB_at hE
    rw [e2, Bool.true_and, Int.toNat_natCast, Int.toNat_natCast]
    try simp (disch := first | omega | (simp only [L3] <;> omega)) only [Sall,evalOp,init,binA_s,binE,binI,unE,convE,okNil,builtE,gv,TD.isAgg,resV,↓reduceIte,Nat.reduceEqDiff,reduceCtorEq,Nat.reduceAdd,Nat.reduceMul,Nat.reduceLeDiff,quietOp,blindOp,Int.reduceEq,Int.reduceLT,Int.reduceLE,Nat.reduceLT,tiA,tiXA, e3, e1, hone]
    refine ACalls.mono (gMeetings_c n gN c q1 q0 q4 q5 v R H1 hv1 q6 q7) ?_
    intro w H2 o2
    have hw := (o2.rd2 0 rfl).one
    refine Holds.mp ?_
    try simp (disch := first | omega | (simp only [L3] <;> omega)) only [Sall,evalOp,init,binA_s,binE,binI,unE,convE,okNil,builtE,gv,TD.isAgg,resV,↓reduceIte,Nat.reduceEqDiff,reduceCtorEq,Nat.reduceAdd,Nat.reduceMul,Nat.reduceLeDiff,quietOp,blindOp,Int.reduceEq,Int.reduceLT,Int.reduceLE,Nat.reduceLT,tiA,tiXA, hw]
    refine (areAll_c 39 eq1 once8_c w n _ H2 (o2.rd2 0 rfl) (gmM_sq n gN R) (by omega)).to ?_
    refine Holds.mp ?_
    try simp (disch := first | omega | (simp only [L3] <;> omega)) only [Sall,evalOp,init,binA_s,binE,binI,unE,convE,okNil,builtE,gv,TD.isAgg,resV,↓reduceIte,Nat.reduceEqDiff,reduceCtorEq,Nat.reduceAdd,Nat.reduceMul,Nat.reduceLeDiff,quietOp,blindOp,Int.reduceEq,Int.reduceLT,Int.reduceLE,Nat.reduceLT,tiA,tiXA, true_and]
    rw [epi]
    exact (o1.call o2).up
theorem l08Within_c (n g c : Nat) (lo hi : Int) (hg : 2 ≤ g) (hn : n = g * c) (hn25 : n ≤ 25) (hgn : g ≤ n) (v : Value) (R : List (List Int)) (H : AH) (hv : Rd2 1 H v R) (hl : R.length ≤ 12) (hR : ∀ i, i < R.length → ordB n (R.getD i []) = true) :
    ACalls Tryz.prog 33 [.agg #[.int .i64 n, .int .i64 g, v], .int .i64 lo, .int .i64 hi] H (is (.bool (witB lo hi (gmM n g R) n)) H) := by
  refine acalls_up rfl (ACalls.wf (by kernel_rfl) fun hs => acalls_of_awp [.tmp 6] Tryz.func33 (by kernel_rfl) rfl rfl (Nat.le_of_ble_eq_true rfl) (by kernel_rfl) ?_)
  have hone := hv.one
  have o1 := golf_push hs n g v
  try simp (disch := first | omega | (simp only [L3] <;> omega)) only [Sall,evalOp,init,binA_s,binE,binI,unE,convE,okNil,builtE,gv,TD.isAgg,resV,↓reduceIte,Nat.reduceEqDiff,reduceCtorEq,Nat.reduceAdd,Nat.reduceMul,Nat.reduceLeDiff,quietOp,blindOp,Int.reduceEq,Int.reduceLT,Int.reduceLE,Nat.reduceLT,tiA,tiXA, hone]
  have hv1 := hv.same (o1.old hs)
  refine ACalls.mono (l08Meetings_c n g c hg hn hn25 hgn v R _ hv1 hl hR) ?_
  intro w H2 o2
  have r2 := o2.rd2 0 rfl
  have hw := r2.one
  have hwl := r2.len
  have sq := gmM_sq n g R
  have up := (o1.call o2).up
  generalize gmM n g R = M at *
  rw [sq.1] at hwl
  have hML := sq.1
  refine Holds.mp ?_
  try simp (disch := first | omega | (simp only [L3] <;> omega)) only [Sall,evalOp,init,binA_s,binE,binI,unE,convE,okNil,builtE,gv,TD.isAgg,resV,↓reduceIte,Nat.reduceEqDiff,reduceCtorEq,Nat.reduceAdd,Nat.reduceMul,Nat.reduceLeDiff,quietOp,blindOp,Int.reduceEq,Int.reduceLT,Int.reduceLE,Nat.reduceLT,tiA,tiXA, hw]
  unfold witB
  refine awp_loop (fun m t H' => H' = H2 ∧ ∃ a : Nat, m = n - a ∧ a ≤ n ∧ t 8 = .int .i64 a ∧ t 7 = w ∧ t 1 = .int .i64 lo ∧ t 2 = .int .i64 hi ∧ ((List.range a).all fun a => (List.range a).all fun b => decide (lo ≤ (M.getD a []).getD b 0 ∧ (M.getD a []).getD b 0 ≤ hi)) = true) n ?_ ?_
  · refine ⟨rfl, 0, by omega, by omega, ?_⟩
    try simp (disch := first | omega | (simp only [L3] <;> omega)) only [Sall,evalOp,init,binA_s,binE,binI,unE,convE,okNil,builtE,gv,TD.isAgg,resV,↓reduceIte,Nat.reduceEqDiff,reduceCtorEq,Nat.reduceAdd,Nat.reduceMul,Nat.reduceLeDiff,quietOp,blindOp,Int.reduceEq,Int.reduceLT,Int.reduceLE,Nat.reduceLT,tiA,tiXA, Int.natCast_zero]
    rfl
  · rintro m t H' ⟨rfl, a, hm, ha, h8, h7, h1, h2, hall⟩
    try simp (disch := first | omega | (simp only [L3] <;> omega)) only [Sall,evalOp,init,binA_s,binE,binI,unE,convE,okNil,builtE,gv,TD.isAgg,resV,↓reduceIte,Nat.reduceEqDiff,reduceCtorEq,Nat.reduceAdd,Nat.reduceMul,Nat.reduceLeDiff,quietOp,blindOp,Int.reduceEq,Int.reduceLT,Int.reduceLE,Nat.reduceLT,tiA,tiXA, h8, h7, builtE, hwl]
    refine condC_dec (fun hh => ?_) (fun hh => ?_)
    · have han : a < n := by omega
      obtain ⟨xi, xo, xuu, xc, xr, yv, my, ex, hxr, hyv, hsx, hok⟩ := r2.get (j := a) (by rw [sq.1]; exact han)
      have hmy := hsx.lenK1
      rw [sq.2 a han] at hmy
      have hmy := hmy.symm
      subst hmy
      obtain ⟨zi, zo, zu, zc, zr, ez, z1, z2, z3, _⟩ := hsx.get (by omega)
      subst ex
      subst ez
      try simp (disch := first | omega | (simp only [L3] <;> omega)) only [Sall,evalOp,init,binA_s,binE,binI,unE,convE,okNil,builtE,gv,TD.isAgg,resV,↓reduceIte,Nat.reduceEqDiff,reduceCtorEq,Nat.reduceAdd,Nat.reduceMul,Nat.reduceLeDiff,quietOp,blindOp,Int.reduceEq,Int.reduceLT,Int.reduceLE,Nat.reduceLT,tiA,tiXA, h8, h7, h1, h2]
      refine awp_loop (fun m' t H'' => H'' = H' ∧ ∃ b : Nat, m' = a - b ∧ b ≤ a ∧ t 9 = .int .i64 b ∧ t 8 = .int .i64 a ∧ t 7 = .slice (some ⟨xi, xo, xuu⟩) M.length xc ∧ t 1 = .int .i64 lo ∧ t 2 = .int .i64 hi ∧ ((List.range b).all fun b => decide (lo ≤ (M.getD a []).getD b 0 ∧ (M.getD a []).getD b 0 ≤ hi)) = true) a ?_ ?_
      · refine ⟨rfl, 0, by omega, by omega, ?_⟩
        try simp (disch := first | omega | (simp only [L3] <;> omega)) only [Sall,evalOp,init,binA_s,binE,binI,unE,convE,okNil,builtE,gv,TD.isAgg,resV,↓reduceIte,Nat.reduceEqDiff,reduceCtorEq,Nat.reduceAdd,Nat.reduceMul,Nat.reduceLeDiff,quietOp,blindOp,Int.reduceEq,Int.reduceLT,Int.reduceLE,Nat.reduceLT,tiA,tiXA, Int.natCast_zero, h8, h7, h1, h2]
        rfl
      · rintro m' t H'' ⟨rfl, b, hm', hb, h9, h8, h7, h1, h2, hall2⟩
        try simp (disch := first | omega | (simp only [L3] <;> omega)) only [Sall,evalOp,init,binA_s,binE,binI,unE,convE,okNil,builtE,gv,TD.isAgg,resV,↓reduceIte,Nat.reduceEqDiff,reduceCtorEq,Nat.reduceAdd,Nat.reduceMul,Nat.reduceLeDiff,quietOp,blindOp,Int.reduceEq,Int.reduceLT,Int.reduceLE,Nat.reduceLT,tiA,tiXA, h9, h8]
        refine condC_dec (fun hh2 => ?_) (fun hh2 => ?_)
        · have z4 := z3 b (by omega)
          try simp (disch := first | omega | (simp only [L3] <;> omega)) only [Sall,evalOp,init,binA_s,binE,binI,unE,convE,okNil,builtE,gv,TD.isAgg,resV,↓reduceIte,Nat.reduceEqDiff,reduceCtorEq,Nat.reduceAdd,Nat.reduceMul,Nat.reduceLeDiff,quietOp,blindOp,Int.reduceEq,Int.reduceLT,Int.reduceLE,Nat.reduceLT,tiA,tiXA, h9, h8, h7, h1, h2, hxr, hyv, hok, z1, z4]
          (repeat refine And.intro (by omega) ?_)
          try simp (disch := first | omega | (simp only [L3] <;> omega)) only [Sall,evalOp,init,binA_s,binE,binI,unE,convE,okNil,builtE,gv,TD.isAgg,resV,↓reduceIte,Nat.reduceEqDiff,reduceCtorEq,Nat.reduceAdd,Nat.reduceMul,Nat.reduceLeDiff,quietOp,blindOp,Int.reduceEq,Int.reduceLT,Int.reduceLE,Nat.reduceLT,tiA,tiXA, h9, h8, h7, h1, h2, hxr, hyv, hok, z1, z4]
          refine (l01In_c _ _ _ _).to ?_
          refine Holds.mp ?_
          by_cases hk : lo ≤ (M.getD a []).getD b 0 ∧ (M.getD a []).getD b 0 ≤ hi
          · rw [decide_eq_true hk]
            try simp (disch := first | omega | (simp only [L3] <;> omega)) only [Sall,evalOp,init,binA_s,binE,binI,unE,convE,okNil,builtE,gv,TD.isAgg,resV,↓reduceIte,Nat.reduceEqDiff,reduceCtorEq,Nat.reduceAdd,Nat.reduceMul,Nat.reduceLeDiff,quietOp,blindOp,Int.reduceEq,Int.reduceLT,Int.reduceLE,Nat.reduceLT,tiA,tiXA, h9, Bool.not_true, w64]
            exact ⟨a - (b + 1), by omega, b + 1, rfl, by omega, rfl, h8, h7, h1, h2, by rw [List.range_succ, List.all_append, hall2, Bool.true_and]; simp only [List.all_cons, List.all_nil, Bool.and_true]; exact decide_eq_true hk⟩
          · have hno : ((List.range n).all fun a => (List.range a).all fun b => decide (lo ≤ (M.getD a []).getD b 0 ∧ (M.getD a []).getD b 0 ≤ hi)) = false := by
              rw [List.all_eq_false]
              refine ⟨a, List.mem_range.2 han, ?_⟩
              rw [Bool.not_eq_true, List.all_eq_false]
              exact ⟨b, List.mem_range.2 (by omega), by rw [decide_eq_false hk]; simp⟩
            rw [decide_eq_false hk, hno]
            try simp (disch := first | omega | (simp only [L3] <;> omega)) only [Sall,evalOp,init,binA_s,binE,binI,unE,convE,okNil,builtE,gv,TD.isAgg,resV,↓reduceIte,Nat.reduceEqDiff,reduceCtorEq,Nat.reduceAdd,Nat.reduceMul,Nat.reduceLeDiff,quietOp,blindOp,Int.reduceEq,Int.reduceLT,Int.reduceLE,Nat.reduceLT,tiA,tiXA, Bool.not_false]
            exact up
        · have hba : b = a := by omega
          subst hba
          try simp (disch := first | omega | (simp only [L3] <;> omega)) only [Sall,evalOp,init,binA_s,binE,binI,unE,convE,okNil,builtE,gv,TD.isAgg,resV,↓reduceIte,Nat.reduceEqDiff,reduceCtorEq,Nat.reduceAdd,Nat.reduceMul,Nat.reduceLeDiff,quietOp,blindOp,Int.reduceEq,Int.reduceLT,Int.reduceLE,Nat.reduceLT,tiA,tiXA, h8, w64]
          exact ⟨n - (b + 1), by omega, b + 1, rfl, by omega, rfl, h7, h1, h2, by rw [List.range_succ, List.all_append, hall, Bool.true_and]; simp only [List.all_cons, List.all_nil, Bool.and_true]; exact hall2⟩
    · have hae : a = n := by omega
      subst hae
      rw [hall]
      try simp (disch := first | omega | (simp only [L3] <;> omega)) only [Sall,evalOp,init,binA_s,binE,binI,unE,convE,okNil,builtE,gv,TD.isAgg,resV,↓reduceIte,Nat.reduceEqDiff,reduceCtorEq,Nat.reduceAdd,Nat.reduceMul,Nat.reduceLeDiff,quietOp,blindOp,Int.reduceEq,Int.reduceLT,Int.reduceLE,Nat.reduceLT,tiA,tiXA, true_and]
      exact up
theorem specIsSocial_c (q g : Int) (v : Value) (R : List (List Int)) (H : AH) (hv : Rd2 1 H v R) (hl : R.length ≤ 4194304) (hl2 : ∀ r ∈ R, r.length ≤ 4194304) :
    ACalls Tryz.prog 10 [.agg #[.int .i64 q, .int .i64 g, v]] H (is (.tuple #[.bool (socG q g R), .int .i64 (glC q g R true)]) H) := by
  refine acalls_up (by simp [Abs.flat, Abs.scal]) (ACalls.wf (by kernel_rfl) fun hs => acalls_of_awp [.tmp 2, .tmp 3] Tryz.func10 (by kernel_rfl) rfl rfl (Nat.le_of_ble_eq_true rfl) (by kernel_rfl) ?_)
  have hone := hv.one
  have o1 := golf_push hs q g v
  try simp (disch := first | omega | (simp only [L3] <;> omega)) only [Sall,evalOp,init,binA_s,binE,binI,unE,convE,okNil,builtE,gv,TD.isAgg,resV,↓reduceIte,Nat.reduceEqDiff,reduceCtorEq,Nat.reduceAdd,Nat.reduceMul,Nat.reduceLeDiff,quietOp,blindOp,Int.reduceEq,Int.reduceLT,Int.reduceLE,Nat.reduceLT,tiA,tiXA, hone]
  obtain ⟨pi, epi⟩ : ∃ pi, pi = H.next := ⟨_, rfl⟩
  rw [← epi] at o1 ⊢
  generalize H.push ⟨26, true, [.int .i64 q, .int .i64 g, v]⟩ = H1 at o1 ⊢
  have up : Up pi H H1 := by rw [epi]; exact o1.up
  have e1 := (o1.rowAt 0 rfl).1
  have hv1 := hv.same (o1.old hs)
  try simp (disch := first | omega | (simp only [L3] <;> omega)) only [Sall,evalOp,init,binA_s,binE,binI,unE,convE,okNil,builtE,gv,TD.isAgg,resV,↓reduceIte,Nat.reduceEqDiff,reduceCtorEq,Nat.reduceAdd,Nat.reduceMul,Nat.reduceLeDiff,quietOp,blindOp,Int.reduceEq,Int.reduceLT,Int.reduceLE,Nat.reduceLT,tiA,tiXA, e1, hone]
  refine (l08Is_c q g v R H1 hv1 hl hl2).to ?_
  refine Holds.mp ?_
  unfold socG
  cases hE : golfB q g R with
  | false =>
    have e2 : glC q g R true = 1 := by unfold glC; rw [hE, if_neg (by simp)]
    rw [e2]
    try simp (disch := first | omega | (simp only [L3] <;> omega)) only [Sall,evalOp,init,binA_s,binE,binI,unE,convE,okNil,builtE,gv,TD.isAgg,resV,↓reduceIte,Nat.reduceEqDiff,reduceCtorEq,Nat.reduceAdd,Nat.reduceMul,Nat.reduceLeDiff,quietOp,blindOp,Int.reduceEq,Int.reduceLT,Int.reduceLE,Nat.reduceLT,tiA,tiXA, Bool.not_false, Bool.false_and]
    exact up
  | true =>
    have e2 : glC q g R true = 0 := by unfold glC; rw [hE, if_pos rfl, if_pos rfl]
    obtain ⟨n, gN, c, rfl, rfl, q0, q1, q2, q3, q4, q5, q6, q7⟩ := golfB_at hE
    rw [e2, Bool.true_and, Int.toNat_natCast, Int.toNat_natCast, ← wit_soc q1 q0 q4 q6 q7]
    try simp (disch := first | omega | (simp only [L3] <;> omega)) only [Sall,evalOp,init,binA_s,binE,binI,unE,convE,okNil,builtE,gv,TD.isAgg,resV,↓reduceIte,Nat.reduceEqDiff,reduceCtorEq,Nat.reduceAdd,Nat.reduceMul,Nat.reduceLeDiff,quietOp,blindOp,Int.reduceEq,Int.reduceLT,Int.reduceLE,Nat.reduceLT,tiA,tiXA, Bool.not_true, e1, hone]
    refine (l08Within_c n gN c 0 1 q1 q0 q4 q5 v R H1 hv1 q6 q7).to ?_
    refine Holds.mp ?_
    try simp (disch := first | omega | (simp only [L3] <;> omega)) only [Sall,evalOp,init,binA_s,binE,binI,unE,convE,okNil,builtE,gv,TD.isAgg,resV,↓reduceIte,Nat.reduceEqDiff,reduceCtorEq,Nat.reduceAdd,Nat.reduceMul,Nat.reduceLeDiff,quietOp,blindOp,Int.reduceEq,Int.reduceLT,Int.reduceLE,Nat.reduceLT,tiA,tiXA, true_and]
    exact up
theorem specIsFull_c (q g : Int) (v : Value) (R : List (List Int)) (H : AH) (hv : Rd2 1 H v R) (hl : R.length ≤ 4194304) (hl2 : ∀ r ∈ R, r.length ≤ 4194304) :
    ACalls Tryz.prog 12 [.agg #[.int .i64 q, .int .i64 g, v]] H (is (.tuple #[.bool (fulG q g R), .int .i64 (glC q g R true)]) H) := by
  refine acalls_up (by simp [Abs.flat, Abs.scal]) (ACalls.wf (by kernel_rfl) fun hs => acalls_of_awp [.tmp 2, .tmp 3] Tryz.func12 (by kernel_rfl) rfl rfl (Nat.le_of_ble_eq_true rfl) (by kernel_rfl) ?_)
  have hone := hv.one
  have o1 := golf_push hs q g v
  try simp (disch := first | omega | (simp only [L3] <;> omega)) only [Sall,evalOp,init,binA_s,binE,binI,unE,convE,okNil,builtE,gv,TD.isAgg,resV,↓reduceIte,Nat.reduceEqDiff,reduceCtorEq,Nat.reduceAdd,Nat.reduceMul,Nat.reduceLeDiff,quietOp,blindOp,Int.reduceEq,Int.reduceLT,Int.reduceLE,Nat.reduceLT,tiA,tiXA, hone]
  obtain ⟨pi, epi⟩ : ∃ pi, pi = H.next := ⟨_, rfl⟩
  rw [← epi] at o1 ⊢
  generalize H.push ⟨26, true, [.int .i64 q, .int .i64 g, v]⟩ = H1 at o1 ⊢
  have up : Up pi H H1 := by rw [epi]; exact o1.up
  have e1 := (o1.rowAt 0 rfl).1
  have hv1 := hv.same (o1.old hs)
  try simp (disch := first | omega | (simp only [L3] <;> omega)) only [Sall,evalOp,init,binA_s,binE,binI,unE,convE,okNil,builtE,gv,TD.isAgg,resV,↓reduceIte,Nat.reduceEqDiff,reduceCtorEq,Nat.reduceAdd,Nat.reduceMul,Nat.reduceLeDiff,quietOp,blindOp,Int.reduceEq,Int.reduceLT,Int.reduceLE,Nat.reduceLT,tiA,tiXA, e1, hone]
  refine (l08Is_c q g v R H1 hv1 hl hl2).to ?_
  refine Holds.mp ?_
  unfold fulG
  cases hE : golfB q g R with
  | false =>
    have e2 : glC q g R true = 1 := by unfold glC; rw [hE, if_neg (by simp)]
    rw [e2]
    try simp (disch := first | omega | (simp only [L3] <;> omega)) only [Sall,evalOp,init,binA_s,binE,binI,unE,convE,okNil,builtE,gv,TD.isAgg,resV,↓reduceIte,Nat.reduceEqDiff,reduceCtorEq,Nat.reduceAdd,Nat.reduceMul,Nat.reduceLeDiff,quietOp,blindOp,Int.reduceEq,Int.reduceLT,Int.reduceLE,Nat.reduceLT,tiA,tiXA, Bool.not_false, Bool.false_and]
    exact up
  | true =>
    have e2 : glC q g R true = 0 := by unfold glC; rw [hE, if_pos rfl, if_pos rfl]
    obtain ⟨n, gN, c, rfl, rfl, q0, q1, q2, q3, q4, q5, q6, q7⟩ := golfB_at hE
    rw [e2, Bool.true_and, Int.toNat_natCast, Int.toNat_natCast, ← wit_ful q1 q0 q4 q6 q7]
    try simp (disch := first | omega | (simp only [L3] <;> omega)) only [Sall,evalOp,init,binA_s,binE,binI,unE,convE,okNil,builtE,gv,TD.isAgg,resV,↓reduceIte,Nat.reduceEqDiff,reduceCtorEq,Nat.reduceAdd,Nat.reduceMul,Nat.reduceLeDiff,quietOp,blindOp,Int.reduceEq,Int.reduceLT,Int.reduceLE,Nat.reduceLT,tiA,tiXA, Bool.not_true, e1, hone]
    refine (l08Within_c n gN c 1 1 q1 q0 q4 q5 v R H1 hv1 q6 q7).to ?_
    refine Holds.mp ?_
    try simp (disch := first | omega | (simp only [L3] <;> omega)) only [Sall,evalOp,init,binA_s,binE,binI,unE,convE,okNil,builtE,gv,TD.isAgg,resV,↓reduceIte,Nat.reduceEqDiff,reduceCtorEq,Nat.reduceAdd,Nat.reduceMul,Nat.reduceLeDiff,quietOp,blindOp,Int.reduceEq,Int.reduceLT,Int.reduceLE,Nat.reduceLT,tiA,tiXA, true_and]
    exact up
theorem GolfBound_c (n g : Int) (hn : -4611686018427387904 ≤ n ∧ n ≤ 4611686018427387904) (H : AH) : ACalls Tryz.prog 14 [.int .i64 n, .int .i64 g] H (is (.tuple #[.int .i64 (gbV n g), .int .i64 (gbC n g)]) H) := by
  refine acalls_of_awp [.tmp 4, .tmp 5] Tryz.func14 (by kernel_rfl) rfl rfl (Nat.le_of_ble_eq_true rfl) (by kernel_rfl) ?_
  unfold gbV gbC
  try simp (disch := first | omega | (simp only [L3] <;> omega)) only [Sall,evalOp,init,binA_s,binE,binI,unE,convE,okNil,builtE,gv,TD.isAgg,resV,↓reduceIte,Nat.reduceEqDiff,reduceCtorEq,Nat.reduceAdd,Nat.reduceMul,Nat.reduceLeDiff,quietOp,blindOp,Int.reduceEq,Int.reduceLT,Int.reduceLE,Nat.reduceLT,tiA,tiXA, true_and]
  refine (between_c _ _ _ _).to ?_
  refine Holds.mp ?_
  by_cases h1 : 2 ≤ n ∧ n ≤ 1000
  · rw [decide_eq_true h1]
    try simp (disch := first | omega | (simp only [L3] <;> omega)) only [Sall,evalOp,init,binA_s,binE,binI,unE,convE,okNil,builtE,gv,TD.isAgg,resV,↓reduceIte,Nat.reduceEqDiff,reduceCtorEq,Nat.reduceAdd,Nat.reduceMul,Nat.reduceLeDiff,quietOp,blindOp,Int.reduceEq,Int.reduceLT,Int.reduceLE,Nat.reduceLT,tiA,tiXA, Bool.not_true]
    refine (between_c _ _ _ _).to ?_
    refine Holds.mp ?_
    by_cases h2 : 2 ≤ g ∧ g ≤ n
    · rw [decide_eq_true h2, if_pos ⟨h1, h2⟩, if_pos ⟨h1, h2⟩]
      have h0 : ¬ g - 1 = 0 := by omega
      have hd1 : 0 ≤ Int.tdiv (n - 1) (g - 1) := Int.tdiv_nonneg (by omega) (by omega)
      have hd2 : Int.tdiv (n - 1) (g - 1) ≤ 1000 := by
        have : Int.tdiv (n - 1) (g - 1) ≤ n - 1 := Int.tdiv_le_self _ (by omega)
        omega
      try simp (disch := first | omega | (simp only [L3] <;> omega)) only [Sall,evalOp,init,binA_s,binE,binI,unE,convE,okNil,builtE,gv,TD.isAgg,resV,↓reduceIte,Nat.reduceEqDiff,reduceCtorEq,Nat.reduceAdd,Nat.reduceMul,Nat.reduceLeDiff,quietOp,blindOp,Int.reduceEq,Int.reduceLT,Int.reduceLE,Nat.reduceLT,tiA,tiXA, Bool.not_true, h0, w64]
      exact ⟨rfl, rfl⟩
    · rw [decide_eq_false h2, if_neg (fun h => h2 h.2), if_neg (fun h => h2 h.2)]
      try simp (disch := first | omega | (simp only [L3] <;> omega)) only [Sall,evalOp,init,binA_s,binE,binI,unE,convE,okNil,builtE,gv,TD.isAgg,resV,↓reduceIte,Nat.reduceEqDiff,reduceCtorEq,Nat.reduceAdd,Nat.reduceMul,Nat.reduceLeDiff,quietOp,blindOp,Int.reduceEq,Int.reduceLT,Int.reduceLE,Nat.reduceLT,tiA,tiXA, Bool.not_false]
      exact ⟨rfl, rfl⟩
  · rw [decide_eq_false h1, if_neg (fun h => h1 h.1), if_neg (fun h => h1 h.1)]
    try simp (disch := first | omega | (simp only [L3] <;> omega)) only [Sall,evalOp,init,binA_s,binE,binI,unE,convE,okNil,builtE,gv,TD.isAgg,resV,↓reduceIte,Nat.reduceEqDiff,reduceCtorEq,Nat.reduceAdd,Nat.reduceMul,Nat.reduceLeDiff,quietOp,blindOp,Int.reduceEq,Int.reduceLT,Int.reduceLE,Nat.reduceLT,tiA,tiXA, Bool.not_false]
    exact ⟨rfl, rfl⟩
theorem specGolfBound_c (n g : Int) (hn : -4611686018427387904 ≤ n ∧ n ≤ 4611686018427387904) (H : AH) : ACalls Tryz.prog 15 [.int .i64 n, .int .i64 g] H (is (.tuple #[.int .i64 (gbV n g), .int .i64 (gbC n g)]) H) := by
  refine acalls_of_awp [.tmp 4, .tmp 5] Tryz.func15 (by kernel_rfl) rfl rfl (Nat.le_of_ble_eq_true rfl) (by kernel_rfl) ?_
  unfold gbV gbC
  try simp (disch := first | omega | (simp only [L3] <;> omega)) only [Sall,evalOp,init,binA_s,binE,binI,unE,convE,okNil,builtE,gv,TD.isAgg,resV,↓reduceIte,Nat.reduceEqDiff,reduceCtorEq,Nat.reduceAdd,Nat.reduceMul,Nat.reduceLeDiff,quietOp,blindOp,Int.reduceEq,Int.reduceLT,Int.reduceLE,Nat.reduceLT,tiA,tiXA, true_and]
  refine (l01In_c _ _ _ _).to ?_
  refine Holds.mp ?_
  by_cases h1 : 2 ≤ n ∧ n ≤ 1000
  · rw [decide_eq_true h1]
    try simp (disch := first | omega | (simp only [L3] <;> omega)) only [Sall,evalOp,init,binA_s,binE,binI,unE,convE,okNil,builtE,gv,TD.isAgg,resV,↓reduceIte,Nat.reduceEqDiff,reduceCtorEq,Nat.reduceAdd,Nat.reduceMul,Nat.reduceLeDiff,quietOp,blindOp,Int.reduceEq,Int.reduceLT,Int.reduceLE,Nat.reduceLT,tiA,tiXA, Bool.not_true]
    refine (l01In_c _ _ _ _).to ?_
    refine Holds.mp ?_
    by_cases h2 : 2 ≤ g ∧ g ≤ n
    · rw [decide_eq_true h2, if_pos ⟨h1, h2⟩, if_pos ⟨h1, h2⟩]
      have h0 : ¬ g - 1 = 0 := by omega
      have hd1 : 0 ≤ Int.tdiv (n - 1) (g - 1) := Int.tdiv_nonneg (by omega) (by omega)
      have hd2 : Int.tdiv (n - 1) (g - 1) ≤ 1000 := by
        have : Int.tdiv (n - 1) (g - 1) ≤ n - 1 := Int.tdiv_le_self _ (by omega)
        omega
      try simp (disch := first | omega | (simp only [L3] <;> omega)) only [Sall,evalOp,init,binA_s,binE,binI,unE,convE,okNil,builtE,gv,TD.isAgg,resV,↓reduceIte,Nat.reduceEqDiff,reduceCtorEq,Nat.reduceAdd,Nat.reduceMul,Nat.reduceLeDiff,quietOp,blindOp,Int.reduceEq,Int.reduceLT,Int.reduceLE,Nat.reduceLT,tiA,tiXA, Bool.not_true, h0, w64]
      exact ⟨rfl, rfl⟩
    · rw [decide_eq_false h2, if_neg (fun h => h2 h.2), if_neg (fun h => h2 h.2)]
      try simp (disch := first | omega | (simp only [L3] <;> omega)) only [Sall,evalOp,init,binA_s,binE,binI,unE,convE,okNil,builtE,gv,TD.isAgg,resV,↓reduceIte,Nat.reduceEqDiff,reduceCtorEq,Nat.reduceAdd,Nat.reduceMul,Nat.reduceLeDiff,quietOp,blindOp,Int.reduceEq,Int.reduceLT,Int.reduceLE,Nat.reduceLT,tiA,tiXA, Bool.not_false]
      exact ⟨rfl, rfl⟩
  · rw [decide_eq_false h1, if_neg (fun h => h1 h.1), if_neg (fun h => h1 h.1)]
    try simp (disch := first | omega | (simp only [L3] <;> omega)) only [Sall,evalOp,init,binA_s,binE,binI,unE,convE,okNil,builtE,gv,TD.isAgg,resV,↓reduceIte,Nat.reduceEqDiff,reduceCtorEq,Nat.reduceAdd,Nat.reduceMul,Nat.reduceLeDiff,quietOp,blindOp,Int.reduceEq,Int.reduceLT,Int.reduceLE,Nat.reduceLT,tiA,tiXA, Bool.not_false]
    exact ⟨rfl, rfl⟩
end Go.Proofs.YtollphjompimjaaGreat.A
end

section
namespace Go.Abs
open Go Go.RowKit
theorem Ow.front {B H : AH} {L : List Th} {x : Th} (h : Ow B H (L ++ [x])) : Ow B H (x :: L) := by
  refine h.sub (fun j => if j = 0 then L.length else j - 1) (fun j hj => ?_) fun i j hi hj e => ?_
  · rcases j with _ | j
    · show (L ++ [x])[L.length]? = some x
      simp
    · have hj : j < L.length := by simpa using hj
      show (L ++ [x])[if j + 1 = 0 then L.length else j + 1 - 1]? = L[j]?
      rw [if_neg (by omega), Nat.add_sub_cancel, List.getElem?_append_left hj]
  · rw [List.length_cons] at hi hj
    split at e <;> split at e <;> omega
theorem Ow.seeCat {B H : AH} {L : List Th} (h : Ow B H L) (k m : Nat) {vs ws : List Value} {ll mm : List (List Int)} (hk : L[k]? = some (.see (RowsC vs ll))) (hm : L[m]? = some (.see (RowsC ws mm))) (hkm : k ≠ m) :
    Ow B H (((L.set k ((Th.see (RowsC vs ll)).both (.see (RowsC ws mm)))).set m .no).set k (.see (RowsC (vs ++ ws) (ll ++ mm)))) := by
  have hM := h.merge k m hk hm hkm
  refine hM.toSee k (p := (Th.see (RowsC vs ll)).both (.see (RowsC ws mm))) ?_ fun H S hp => ?_
  · rw [List.getElem?_set, if_neg (fun e => hkm e.symm), List.getElem?_set, if_pos rfl, if_pos (List.getElem?_eq_some_iff.1 hk).1]
  · obtain ⟨o, h1, h2⟩ := hp
    exact (h1 H fun _ _ _ h => h).app (h2 H fun _ _ _ h => h)
theorem Ow.seeBy {B H : AH} {L : List Th} (h : Ow B H L) (k m : Nat) {p : Th} {Q' Q : AH → Prop} (hk : L[k]? = some p) (hm : L[m]? = some (.see Q')) (hkm : k ≠ m) (hQ : ∀ H S, p.p H S → Q' H → Q H) :
    Ow B H (((L.set k (p.both (.see Q'))).set m .no).set k (.see Q)) := by
  have hM := h.merge k m hk hm hkm
  refine hM.toSee k (p := p.both (.see Q')) ?_ fun H S hp => ?_
  · rw [List.getElem?_set, if_neg (fun e => hkm e.symm), List.getElem?_set, if_pos rfl, if_pos (List.getElem?_eq_some_iff.1 hk).1]
  · obtain ⟨o, h1, h2⟩ := hp
    exact hQ _ _ h1 (h2 H fun _ _ _ h => h)
def OwX (b : Nat) (H : AH) (L : List Th) : Prop := ∃ B : AH, B.next = b ∧ Ow B H L
theorem OwX.sc {b : Nat} {H : AH} {L : List Th} (h : OwX b H L) : Sc H := by obtain ⟨B, _, o⟩ := h; exact o.sc
theorem OwX.next {b : Nat} {H : AH} {L : List Th} (h : OwX b H L) : b ≤ H.next := by obtain ⟨B, e, o⟩ := h; have := o.next; omega
theorem OwX.map {b : Nat} {H H' : AH} {L M : List Th} (h : OwX b H L) (f : ∀ B, Ow B H L → Ow B H' M) : OwX b H' M := by obtain ⟨B, e, o⟩ := h; exact ⟨B, e, f B o⟩
theorem OwX.below {b : Nat} {H H' : AH} {L : List Th} (h : OwX b H L) (hr : ∀ i, b ≤ i → i < H.next → H'.row i = H.row i) (hn : H.next ≤ H'.next) (hs : Sc H') : OwX b H' L := by
  obtain ⟨B, e, o⟩ := h
  refine ⟨⟨b, H'.row⟩, rfl, hs, by have := o.next; show b ≤ H'.next; omega, fun i _ => rfl, ?_⟩
  obtain ⟨w, hw⟩ := o.own
  refine ⟨fun i => if i < H.next then w i else L.length, fun k p hk => ?_⟩
  have hk2 := (List.getElem?_eq_some_iff.1 hk).1
  refine p.loc H H' _ _ (fun i hi => ?_) (fun i r hi hr' => ?_) (hw k p hk)
  · show b ≤ i ∧ i < H'.next ∧ (if i < H.next then w i else L.length) = k
    rw [if_pos hi.2.1]
    exact ⟨by omega, by omega, hi.2.2⟩
  · rw [hr i (by omega) hi.2.1]; exact hr'
def PreK (i : Nat) (vs : List Value) (r : Row) : Prop := r.rw = true ∧ vs.length ≤ r.cells.length ∧ r.cells.take vs.length = vs
theorem Ow.appK {P : Program} {E : TI} {z n c : Nat} {ty : TypeId} {B H : AH} {L : List Th} {v : Value} {vs ms : List Value} {K : Value → AH → Prop} (h : Ow B H L) (k : Nat) (hk : L[k]? = some (.cap z ty v n vs)) (hz : E.size = z) (hz0 : 0 < z) (hm : ms.length = c * z) (hc : 0 < c) (hb : E.bytes ≤ 32768) (hn : n + c ≤ 4294967296)
    (hA : ∀ i v' H', H'.next = H.next → v = .slice (some ⟨i, 0, some z⟩) n n → v' = .slice (some ⟨i, 0, some z⟩) (n + c) (n + c) → Ow B H' (L.set k (.cap z ty v' (n + c) (vs ++ ms))) → K v' H')
    (hB : ∀ i r v' H', H'.next = H.next + 1 → v = .slice (some ⟨i, 0, some z⟩) n n → v' = .slice (some ⟨H.next, 0, some z⟩) (n + c) (n + c) → PreK i vs r → Ow B H' ((L.set k (.row i r)) ++ [.cap z ty v' (n + c) (vs ++ ms)]) → K v' H')
    (hC : ∀ v' H', H'.next = H.next + 1 → v = .slice none 0 0 → v' = .slice (some ⟨H.next, 0, some z⟩) (n + c) (n + c) → Ow B H' (L.set k (.cap z ty v' (n + c) (vs ++ ms))) → K v' H') : runOut P H (appE E ty v ms c H) K := by
  subst hz
  obtain ⟨S, hS, hp⟩ := h.at hk
  have hl := hp.1
  have hle : (n + c) * E.size = vs.length + ms.length := by rw [hl, hm, Nat.add_mul]
  have hlen' : (vs ++ ms).length = (n + c) * E.size := by rw [List.length_append, hle]
  unfold appE
  rw [if_neg (by omega)]
  rcases hp.2 with ⟨h0, rfl⟩ | ⟨i, rest, h1, rfl, hr⟩
  · simp only [asSl_nil, runOut_need, runOut_val]
    have hv0 : vs = [] := List.eq_nil_of_length_eq_zero (by rw [hl, h0, Nat.zero_mul])
    subst hv0
    subst h0
    refine ⟨⟨by omega, hb⟩, ?_⟩
    have hX := hC (.slice (some ⟨H.next, 0, some E.size⟩) (0 + c) (0 + c)) (H.push ⟨ty, true, ms⟩) rfl rfl rfl (h.upd hk (Nat.le_succ _) (h.sc.push _) fun S hS hp => ⟨fun j hj _ => by rw [AH.push_row, if_neg (by omega)], fun S' _ hN => ⟨hlen', .inr ⟨H.next, [], hN _ (Nat.le_refl _) (Nat.lt_succ_self _), rfl, by rw [AH.push_row, if_pos rfl]; simp⟩⟩⟩)
    rw [Nat.zero_add] at hX
    exact hX
  · have hseg : seg (vs ++ rest) 0 (n * E.size) = vs := by
      simp only [seg, List.drop_zero]
      rw [← hl, List.take_left' rfl]
    simp only [asSl_some, hr, bindO_some, runOut_need, Nat.zero_add, hseg]
    refine ⟨⟨by omega, hb, by rw [List.length_append]; omega, .inl rfl⟩, ?_⟩
    split
    · rename_i hfit
      simp only [runOut_need, runOut_val]
      refine ⟨⟨trivial, trivial, hz0, .inr trivial⟩, hA i _ _ rfl rfl rfl (h.upd hk (Nat.le_refl _) (h.sc.set _ _) fun S hS hp => ?_)⟩
      rcases hp.2 with ⟨_, h7⟩ | ⟨i', rest', g1, g2, g3⟩
      · cases h7
      cases g2
      refine ⟨fun j hj hjS => by rw [AH.setCells_row, if_neg (fun e => hjS (by rw [e]; exact g1))], fun S' hS' _ => ⟨hlen', .inr ⟨i, rest'.drop ms.length, hS' i g1, rfl, ?_⟩⟩⟩
      rw [hr] at g3
      simp only [Option.some.injEq, Row.mk.injEq, true_and] at g3
      rw [AH.setCells_row, if_pos rfl, hr, g3]
      simp only [Option.map_some, Option.some.injEq, Row.mk.injEq, true_and]
      unfold splice
      rw [← hl, List.take_left' rfl, List.append_assoc, List.drop_append, List.drop_eq_nil_of_le (Nat.le_add_right _ _), Nat.add_sub_cancel_left, List.nil_append, List.append_assoc]
    · rename_i hfit
      simp only [runOut_need, runOut_val]
      refine ⟨⟨trivial, trivial, hz0, trivial, trivial⟩, .inr ⟨?_, ?_⟩⟩
      · refine hA i _ _ rfl rfl rfl (h.upd hk (Nat.le_refl _) (h.sc.set _ _) fun S hS hp => ?_)
        rcases hp.2 with ⟨_, h7⟩ | ⟨i', rest', g1, g2, g3⟩
        · cases h7
        cases g2
        refine ⟨fun j hj hjS => by rw [AH.setCells_row, if_neg (fun e => hjS (by rw [e]; exact g1))], fun S' hS' _ => ⟨hlen', .inr ⟨i, [], hS' i g1, rfl, ?_⟩⟩⟩
        rw [AH.setCells_row, if_pos rfl, hr, List.append_nil]
        rfl
      · have h2 := h.tell k hk (p' := .row i ⟨ty, true, vs ++ rest⟩) fun S hp => ⟨by
          rcases hp.2 with ⟨_, h7⟩ | ⟨i', rest', g1, g2, g3⟩
          · cases h7
          · cases g2; exact g1, hr⟩
        have h3 := (h2.pushSl (k := E.size) (n := n + c) (ty := ty) (vs := vs ++ ms) hlen').toCap L.length (by rw [List.getElem?_append_right (by simp), List.length_set, Nat.sub_self]; rfl)
        rw [List.set_append_right _ _ (by simp), List.length_set, Nat.sub_self] at h3
        exact hB i ⟨ty, true, vs ++ rest⟩ _ _ rfl rfl rfl ⟨rfl, by simp, by simp⟩ h3
end Go.Abs
end

section
namespace Go.Abs
open Go Go.RowKit
theorem at_mid (A : List Th) (x : Th) (M : List Th) : (A ++ x :: M)[A.length]? = some x := by
  rw [List.getElem?_append_right (Nat.le_refl _), Nat.sub_self]; rfl
theorem at_mid1 (A : List Th) (x y : Th) (M : List Th) : (A ++ x :: y :: M)[A.length + 1]? = some y := by
  rw [List.getElem?_append_right (by omega), Nat.add_sub_cancel_left]; rfl
theorem set_mid (A : List Th) (x y : Th) (M : List Th) : (A ++ x :: M).set A.length y = A ++ y :: M := by
  rw [List.set_append_right _ _ (Nat.le_refl _), Nat.sub_self]; rfl
theorem Ow.dropMid {B H : AH} (A : List Th) (y : Th) (M : List Th) (h : Ow B H (A ++ y :: M)) : Ow B H (A ++ M) := by
  refine h.sub (fun j => if j < A.length then j else j + 1) (fun j hj => ?_) fun i j hi hj e => ?_
  · split
    · rename_i h1
      rw [List.getElem?_append_left h1, List.getElem?_append_left h1]
    · rename_i h1
      rw [List.getElem?_append_right (by omega), List.getElem?_append_right (by omega), show j + 1 - A.length = (j - A.length) + 1 by omega]
      rfl
  · split at e <;> split at e <;> omega
theorem Ow.rot {B H : AH} (A : List Th) (x : Th) (M : List Th) (y : Th) (h : Ow B H (A ++ x :: M ++ [y])) : Ow B H (A ++ y :: x :: M) := by
  refine h.sub (fun j => if j < A.length then j else if j = A.length then A.length + M.length + 1 else j - 1) (fun j hj => ?_) fun i j hi hj e => ?_
  · split
    · rename_i h1
      rw [List.append_assoc, List.getElem?_append_left h1, List.getElem?_append_left h1]
    · rename_i h1
      split
      · rename_i h2
        subst h2
        rw [List.getElem?_append_right (by simp; omega), at_mid]
        simp only [List.length_append, List.length_cons]
        rw [show A.length + M.length + 1 - (A.length + (M.length + 1)) = 0 by omega]
        rfl
      · rename_i h2
        have hj2 : j < A.length + M.length + 2 := by simpa [Nat.add_assoc] using hj
        rw [List.getElem?_append_left (by simp; omega), List.getElem?_append_right (by omega), List.getElem?_append_right (by omega), show j - A.length = (j - 1 - A.length) + 1 by omega]
        rfl
  · have hi2 : i < A.length + M.length + 2 := by simpa [Nat.add_assoc] using hi
    have hj2 : j < A.length + M.length + 2 := by simpa [Nat.add_assoc] using hj
    split at e <;> split at e <;> (try split at e) <;> (try split at e) <;> omega
theorem Ow.endDrop {B H : AH} {L : List Th} {x y : Th} (h : Ow B H (L ++ [x] ++ [y])) : Ow B H (L ++ [y]) :=
  Ow.dropMid L x [y] (by rw [List.append_assoc] at h; exact h)
theorem Ow.fillRow {B H : AH} {L : List Th} (h : Ow B H L) (k : Nat) {p : Th} (hk : L[k]? = some p) (r : Row) : Ow B (H.push r) (L.set k (.row H.next r)) :=
  h.upd hk (Nat.le_succ _) (h.sc.push r) fun S hS _ => ⟨fun i hi _ => by rw [AH.push_row, if_neg (by omega)], fun S' _ h2 => ⟨h2 _ (Nat.le_refl _) (Nat.lt_succ_self _), by rw [AH.push_row, if_pos rfl]⟩⟩
theorem Ow.fillCall {B H H' : AH} {L : List Th} (h : Ow B H L) (k : Nat) {p m : Th} (hk : L[k]? = some p) (c : Ow H H' [m]) : Ow B H' (L.set k m) :=
  h.upd hk c.next c.sc fun S hS _ => ⟨fun i hi _ => c.low i hi, fun S' _ h2 => by
    obtain ⟨o, ho⟩ := c.own
    exact m.loc H' H' _ _ (fun i hi => h2 i hi.1 hi.2.1) (fun i r _ hr => hr) (ho 0 m rfl)⟩
def lvF (i k : Nat) : Value := .slice (some ⟨i, 0, some 1⟩) k k
theorem capRow {B H : AH} {L : List Th} (h : Ow B H L) (k : Nat) {ty : TypeId} {i n : Nat} {vs : List Value} (hk : L[k]? = some (.cap 1 ty (lvF i n) n vs)) : ∃ rest, B.next ≤ i ∧ i < H.next ∧ H.row i = some ⟨ty, true, vs ++ rest⟩ ∧ vs.length = n := by
  obtain ⟨S, hS, hp⟩ := h.at hk
  rcases hp.2 with ⟨h0, h1⟩ | ⟨j, rest, h1, h2, h3⟩
  · cases h1
  · cases h2
    exact ⟨rest, (hS i h1).1, (hS i h1).2, h3, by rw [hp.1, Nat.mul_one]⟩
def GoodK (i : Nat) (vs : List Value) (i' : Nat) (K : List Th) : Prop := (K = [] ∧ i' = i) ∨ ∃ r, K = [.row i r] ∧ PreK i vs r
theorem GoodK.get {B H : AH} {A Z K : List Th} {ty : TypeId} {i i' n : Nat} {vs : List Value} (hG : GoodK i vs i' K) (h : Ow B H (A ++ .cap 1 ty (lvF i' n) n vs :: (K ++ Z))) : ∃ r, H.row i = some r ∧ r.cells.take n = vs := by
  obtain ⟨rest, h1, h2, h3, h4⟩ := capRow h A.length (at_mid _ _ _)
  rcases hG with ⟨rfl, rfl⟩ | ⟨r, rfl, hr⟩
  · exact ⟨_, h3, by rw [← h4, List.take_left' rfl]⟩
  · exact ⟨r, (h.rowAt (A.length + 1) (at_mid1 _ _ _ _)).1, by rw [← h4]; exact hr.2.2⟩
theorem PreK.pre {i : Nat} {vs ms : List Value} {r : Row} (h : PreK i (vs ++ ms) r) : PreK i vs r := by
  obtain ⟨h1, h2, h3⟩ := h
  rw [List.length_append] at h2
  refine ⟨h1, by omega, ?_⟩
  have := congrArg (List.take vs.length) h3
  rw [List.take_take, List.length_append, Nat.min_eq_left (by omega), List.take_left' rfl] at this
  exact this
theorem GoodK.step {B H : AH} {A Z K : List Th} {c : Th} {i i1 i2 : Nat} {vs ms : List Value} (hG : GoodK i vs i1 K) (h : (i2 = i1 ∧ Ow B H (A ++ c :: (K ++ Z))) ∨ ∃ r, PreK i1 (vs ++ ms) r ∧ Ow B H (A ++ c :: (.row i1 r :: (K ++ Z)))) : ∃ K2, GoodK i vs i2 K2 ∧ Ow B H (A ++ c :: (K2 ++ Z)) := by
  rcases h with ⟨rfl, h⟩ | ⟨r, hr, h⟩
  · exact ⟨K, hG, h⟩
  · rcases hG with ⟨rfl, rfl⟩ | ⟨r', rfl, hr'⟩
    · exact ⟨[.row i1 r], .inr ⟨r, rfl, hr.pre⟩, h⟩
    · refine ⟨[.row i r'], .inr ⟨r', rfl, hr'⟩, ?_⟩
      have h2 : Ow B H ((A ++ [c]) ++ .row i1 r :: ([.row i r'] ++ Z)) := by rw [List.append_assoc]; exact h
      have h3 := h2.dropMid
      rw [List.append_assoc] at h3
      exact h3
theorem Ow.appT {P : Program} {E : TI} {ty : TypeId} {B H : AH} {A Z K : List Th} {i i' n : Nat} {vs : List Value} {x : Value} {Kont : Value → AH → Prop} (hG : GoodK i vs i' K) (h : Ow B H (A ++ .cap 1 ty (lvF i' n) n vs :: (K ++ Z))) (hz : E.size = 1) (hb : E.bytes ≤ 32768) (hn : n + 1 ≤ 4294967296)
    (hK : ∀ i1 K1 H', GoodK i vs i1 K1 → H.next ≤ H'.next → Ow B H' (A ++ .cap 1 ty (lvF i1 (n + 1)) (n + 1) (vs ++ [x]) :: (K1 ++ Z)) → Kont (lvF i1 (n + 1)) H') : runOut P H (appE E ty (lvF i' n) [x] 1 H) Kont := by
  refine h.appK (z := 1) (c := 1) A.length (at_mid _ _ _) hz (by omega) rfl (by omega) hb hn ?_ ?_ ?_
  · rintro j v' H' h1 e rfl h2
    cases e
    rw [set_mid] at h2
    exact hK i' K H' hG (by omega) h2
  · rintro j r v' H' h1 e rfl hr h2
    cases e
    rw [set_mid] at h2
    have h3 := Ow.rot _ _ _ _ h2
    obtain ⟨K2, g1, g2⟩ := hG.step (i2 := H.next) (ms := []) (.inr ⟨r, by rw [List.append_nil]; exact hr, h3⟩)
    exact hK H.next K2 H' g1 (by omega) g2
  · rintro v' H' h1 e
    cases e
theorem Ow.putEnd {B H : AH} {L : List Th} {i : Nat} {ty : TypeId} {b : Bool} {cs : List Value} (h : Ow B H (L ++ [.row i ⟨ty, b, cs⟩])) (cs' : List Value) : Ow B (H.setCells i cs') (L ++ [.row i ⟨ty, b, cs'⟩]) := by
  have h2 := h.putRow L.length (at_mid _ _ _) (cs' := cs')
  rw [set_mid] at h2
  exact h2
theorem nextT {b0 : Nat} {H : AH} {L : List Th} {ai : Nat} {r : Row} {ty : TypeId} {x y : List Value} (w : List Value) (h : OwX b0 H (L ++ [.row ai r])) : OwX b0 (((H.push ⟨ty, true, x⟩).setCells H.next y).setCells H.next w) (L ++ [.row H.next ⟨ty, true, w⟩]) :=
  h.map fun B o => (((o.push ⟨ty, true, x⟩).putEnd y).putEnd w).endDrop
theorem nextLow {b0 : Nat} {H : AH} {ty : TypeId} {x y w : List Value} (hb : b0 ≤ H.next) (j : Nat) (hj : j < b0) : (((H.push ⟨ty, true, x⟩).setCells H.next y).setCells H.next w).row j = H.row j := by
  rw [AH.setCells_row, if_neg (by omega), AH.setCells_row, if_neg (by omega), AH.push_row, if_neg (by omega)]
theorem Ow.cutT {B H : AH} {A M : List Th} {ty : TypeId} {i n : Nat} {vs ms : List Value} (h : Ow B H (A ++ .cap 1 ty (lvF i (n + 1)) (n + 1) (vs ++ ms) :: M)) (hn : vs.length = n) : Ow B H (A ++ .cap 1 ty (lvF i n) n vs :: M) := by
  have h2 := h.tell A.length (at_mid _ _ _) (p' := .cap 1 ty (lvF i n) n vs) fun S hp => by
    rcases hp.2 with ⟨_, h1⟩ | ⟨j, rest, h1, h2, h3⟩
    · cases h1
    · cases h2
      exact ⟨by omega, .inr ⟨i, ms ++ rest, h1, rfl, by rw [h3, List.append_assoc]⟩⟩
  rw [set_mid] at h2
  exact h2
theorem head_run {P : Program} {E : TI} {i k n : Nat} {K : Value → AH → Prop} {H' : AH} (hE : E.size = 1) (hf : k ≤ n) (hK : K (lvF i k) H') : runOut P H' (sliceE E (lvF i n) none (some (k : Int)) none H') K := by
  unfold sliceE lvF
  rw [if_neg (by simp)]
  simp only [asSl_some, runOut_need, runOut_val, Option.getD_some, Option.getD_none, Int.toNat_natCast, Int.toNat_zero, hE, Nat.mul_one, Nat.zero_add, Nat.sub_zero]
  exact ⟨⟨by omega, by omega, by omega, trivial⟩, hK⟩
theorem tEnd (A : List Th) (c : Th) (K Z : List Th) (x : Th) : A ++ c :: (K ++ (Z ++ [x])) = (A ++ c :: (K ++ Z)) ++ [x] := by
  simp only [List.append_assoc, List.cons_append]
theorem GoodK.stepX {b : Nat} {H : AH} {A Z K : List Th} {c : Th} {i i1 i2 : Nat} {vs ms : List Value} (hG : GoodK i vs i1 K) (h : (i2 = i1 ∧ OwX b H (A ++ c :: (K ++ Z))) ∨ ∃ r, PreK i1 (vs ++ ms) r ∧ OwX b H (A ++ c :: (.row i1 r :: (K ++ Z)))) : ∃ K2 B, GoodK i vs i2 K2 ∧ B.next = b ∧ Ow B H (A ++ c :: (K2 ++ Z)) := by
  rcases h with ⟨h1, B, eB, h⟩ | ⟨r, hr, B, eB, h⟩
  · obtain ⟨K2, g1, g2⟩ := hG.step (ms := ms) (.inl ⟨h1, h⟩)
    exact ⟨K2, B, g1, eB, g2⟩
  · obtain ⟨K2, g1, g2⟩ := hG.step (i2 := i2) (.inr ⟨r, hr, h⟩)
    exact ⟨K2, B, g1, eB, g2⟩
theorem rd_tail {H : AH} {i f : Nat} {r : Row} {l : List Int} (hr : H.row i = some r) (hp : r.cells.take l.length = ints l) (hf : f ≤ l.length) : Rd 1 H (.slice (some ⟨i, f, some 1⟩) (l.length - f) (l.length - f)) (l.length - f) (l.drop f) := by
  have hc : l.length ≤ r.cells.length := by
    have := congrArg List.length hp
    rw [List.length_take, ints_length] at this
    omega
  refine ⟨by rw [List.length_drop]; omega, ?_⟩
  refine .inr ⟨i, f, some 1, _, r, rfl, hr, by omega, ?_⟩
  have : seg r.cells f ((l.length - f) * 1) = (r.cells.take l.length).drop f := by
    unfold seg
    rw [List.drop_take, Nat.mul_one]
  rw [this, hp]
  unfold ints
  rw [List.map_drop]
theorem tail_run {P : Program} {E : TI} {i k f : Nat} {K : Value → AH → Prop} {H' : AH} (hE : E.size = 1) (hf : f ≤ k) (hK : K (.slice (some ⟨i, f, some 1⟩) (k - f) (k - f)) H') : runOut P H' (sliceE E (lvF i k) (some (f : Int)) none none H') K := by
  unfold sliceE lvF
  rw [if_neg (by simp)]
  simp only [asSl_some, runOut_need, runOut_val, Option.getD_some, Option.getD_none, Int.toNat_natCast, hE, Nat.mul_one, Nat.zero_add]
  exact ⟨⟨by omega, by omega, by omega, trivial⟩, hK⟩
theorem RowsC.same {vs : List Value} {ll : List (List Int)} {H H' : AH} (h : RowsC vs ll H) (hs : ∀ i r, H.row i = some r → H'.row i = some r) : RowsC vs ll H' := ⟨h.1, fun j hj => by obtain ⟨x, hx, hr⟩ := h.2 j hj; exact ⟨x, hx, hr.same hs⟩⟩
theorem Rc.same {u : Value} {ws : List Value} {ll : List (List Int)} {H H' : AH} (h : Rc u ws ll H) (hs : ∀ i r, H.row i = some r → H'.row i = some r) : Rc u ws ll H' := ⟨h.1.same hs, h.2.imp id fun ⟨i, o, s, c, r, h1, h2, h3⟩ => ⟨i, o, s, c, r, h1, hs _ _ h2, h3⟩⟩
def FinAt (b m : Nat) (Q : AH → Prop) (H : AH) : Prop := ∀ H2 : AH, H.next ≤ H2.next → (∀ j, j < H.next → (j < b ∨ m ≤ j) → H2.row j = H.row j) → Q H2
theorem FinAt.here {b m : Nat} {Q : AH → Prop} {H : AH} (h : FinAt b m Q H) : Q H := h H (Nat.le_refl _) fun _ _ _ => rfl
theorem FinAt.to {b m m' : Nat} {Q : AH → Prop} {H H' : AH} (h : FinAt b m Q H) (hm : m' ≤ m) (hn : H.next ≤ H'.next) (hr : ∀ j, j < H.next → (j < b ∨ m' ≤ j) → H'.row j = H.row j) : FinAt b m' Q H' := fun H2 h2 k => h H2 (by omega) fun j j1 j2 => by rw [k j (by omega) (by omega), hr j j1 (by omega)]
end Go.Abs
end

section
namespace Go.Abs
def okN (g : Nat) (M : List (List Int)) (P : List Int) (a : Nat) : Bool := !P.contains (a : Int) && (P.drop (P.length / g * g)).all fun b => decide (b < (a : Int)) && ((M.getD b.toNat []).getD a 0 == 0)
def nxL (F : Nat → List (List Int)) (ok : Nat → Bool) (one : Bool) : Nat → Nat → List (List Int)
  | 0, _ => []
  | m + 1, a => if ok a = true then F a ++ (if one = true then [] else nxL F ok one m (a + 1)) else nxL F ok one m (a + 1)
def nxT (n g : Nat) (M : List (List Int)) : Nat → List Int → List (List Int)
  | 0, P => [P]
  | f + 1, P => nxL (fun a => nxT n g M f (P ++ [(a : Int)])) (okN g M P) (decide (P.length % g = 0)) n 0
theorem nxT_succ (n g : Nat) (M : List (List Int)) (f : Nat) (P : List Int) : nxT n g M (f + 1) P = nxL (fun a => nxT n g M f (P ++ [(a : Int)])) (okN g M P) (decide (P.length % g = 0)) n 0 := rfl
theorem nxL_succ (F : Nat → List (List Int)) (ok : Nat → Bool) (one : Bool) (m a : Nat) : nxL F ok one (m + 1) a = if ok a = true then F a ++ (if one = true then [] else nxL F ok one m (a + 1)) else nxL F ok one m (a + 1) := rfl
theorem mem_nxL {F : Nat → List (List Int)} {ok : Nat → Bool} {one : Bool} {r : List Int} : ∀ m a, r ∈ nxL F ok one m a → ∃ b, a ≤ b ∧ b < a + m ∧ ok b = true ∧ r ∈ F b ∧ (one = true → ∀ d, a ≤ d → d < b → ok d = false)
  | 0, a, h => by simp [nxL] at h
  | m + 1, a, h => by
    rw [nxL_succ] at h
    by_cases ho : ok a = true
    · rw [if_pos ho, List.mem_append] at h
      rcases h with h | h
      · exact ⟨a, Nat.le_refl _, by omega, ho, h, fun _ d h1 h2 => by omega⟩
      · split at h
        · simp at h
        · rename_i hone
          obtain ⟨b, h1, h2, h3, h4, _⟩ := mem_nxL m (a + 1) h
          exact ⟨b, by omega, by omega, h3, h4, fun e => absurd e hone⟩
    · rw [if_neg ho] at h
      obtain ⟨b, h1, h2, h3, h4, h5⟩ := mem_nxL m (a + 1) h
      refine ⟨b, by omega, by omega, h3, h4, fun e d d1 d2 => ?_⟩
      by_cases hd : d = a
      · rw [hd]; simpa using ho
      · exact h5 e d (by omega) d2
structure PreN (n g : Nat) (P : List Int) : Prop where
  len : P.length ≤ n
  rng : ∀ x ∈ P, 0 ≤ x ∧ x < (n : Int)
  nd : P.Nodup
  asc : (P.drop (P.length / g * g)).Pairwise fun x y => x < y
theorem PreN.nil (n g : Nat) : PreN n g [] := ⟨by simp, fun x h => by simp at h, by simp, by simp⟩
theorem PreN.snoc {n g : Nat} {M : List (List Int)} (hg : 0 < g) {P : List Int} (h : PreN n g P) {a : Nat} (ha : a < n) (hl : P.length < n) (ho : okN g M P a = true) : PreN n g (P ++ [(a : Int)]) := by
  unfold okN at ho
  rw [Bool.and_eq_true, List.all_eq_true] at ho
  obtain ⟨h1, h2⟩ := ho
  have hnot : ¬ (a : Int) ∈ P := by simpa using h1
  refine ⟨by rw [List.length_append]; simp; omega, fun x hx => ?_, ?_, ?_⟩
  · rcases List.mem_append.1 hx with hx | hx
    · exact h.rng x hx
    · rw [List.mem_singleton] at hx; omega
  · rw [List.nodup_append]
    exact ⟨h.nd, by simp, fun x hx y hy => by rw [List.mem_singleton] at hy; rintro rfl; exact hnot (hy ▸ hx)⟩
  · rw [List.length_append, List.length_singleton]
    have hdm := Nat.div_add_mod P.length g
    have hlt := Nat.mod_lt P.length hg
    by_cases e : P.length % g + 1 = g
    · have e2 : (P.length + 1) / g * g = P.length + 1 := by
        have : P.length + 1 = g * (P.length / g + 1) := by rw [Nat.mul_succ]; omega
        rw [this, Nat.mul_div_cancel_left _ hg, Nat.mul_comm]
      rw [e2, List.drop_eq_nil_of_le (by simp)]
      exact List.Pairwise.nil
    · have e2 : (P.length + 1) / g = P.length / g := by
        refine Nat.div_eq_of_lt_le ?_ ?_
        · rw [Nat.mul_comm]; omega
        · rw [Nat.succ_mul, Nat.mul_comm]; omega
      rw [e2, List.drop_append_of_le_length (Nat.div_mul_le_self _ _)]
      rw [List.pairwise_append]
      refine ⟨h.asc, by simp, fun x hx y hy => ?_⟩
      rw [List.mem_singleton] at hy
      have h3 := h2 x hx
      rw [Bool.and_eq_true, decide_eq_true_iff] at h3
      rw [hy]; exact h3.1
theorem take_step {out A rest : List (List Int)} {m : Nat} (h : out.length ≤ m) : (out ++ (A ++ rest)).take m = ((out ++ A.take (m - out.length)) ++ rest).take m := by
  have key : ∀ X : List (List Int), (out ++ X).take m = out ++ X.take (m - out.length) := fun X => by rw [List.take_append, List.take_of_length_le h]
  rw [List.append_assoc, key, key]
  congr 1
  rw [List.take_append, List.take_append, List.take_take, Nat.min_self, List.length_take]
  by_cases e : A.length ≤ m - out.length
  · rw [Nat.min_eq_right e]
  · rw [Nat.min_eq_left (by omega), show m - out.length - A.length = 0 by omega, show m - out.length - (m - out.length) = 0 by omega]
end Go.Abs
end

section
namespace Go.Abs
theorem nxL_skip {F : Nat → List (List Int)} {ok : Nat → Bool} {one : Bool} {n first : Nat} (h2 : first ≤ n) : ∀ (k a : Nat), a + k = first → (∀ d, a ≤ d → d < first → ok d = false) → nxL F ok one (n - a) a = nxL F ok one (n - first) first
  | 0, a, e, _ => by rw [show a = first by omega]
  | k + 1, a, e, h => by
    rw [show n - a = n - (a + 1) + 1 by omega, nxL_succ, if_neg (by rw [h a (Nat.le_refl _) (by omega)]; simp)]
    exact nxL_skip h2 k (a + 1) (by omega) fun d h1 h2 => h d (by omega) h2
def fstN (g : Nat) (P : List Int) : Nat := if P.length % g = 0 then 0 else (P.getD (P.length - 1) 0).toNat + 1
theorem grp_nil {g : Nat} {P : List Int} : P.length / g * g = P.length ↔ P.length % g = 0 := by
  have := Nat.div_add_mod P.length g
  rw [Nat.mul_comm] at this
  omega
theorem grp_last {g : Nat} {P : List Int} (h : ¬ P.length % g = 0) : ∃ G, P.drop (P.length / g * g) = G ++ [P.getD (P.length - 1) 0] := by
  have h1 : P.length / g * g < P.length := by
    have := Nat.div_add_mod P.length g
    rw [Nat.mul_comm] at this
    omega
  obtain ⟨Q, z, e⟩ : ∃ Q z, P = Q ++ [z] := ⟨P.dropLast, P.getLast (by intro e; rw [e] at h1; simp at h1), (List.dropLast_concat_getLast _).symm⟩
  have e2 : P.getD (P.length - 1) 0 = z := by
    rw [e, List.length_append, List.length_singleton, Nat.add_sub_cancel, List.getD_eq_getElem?_getD, List.getElem?_append_right (Nat.le_refl _), Nat.sub_self]
    rfl
  rw [e2]
  generalize P.length / g * g = d at *
  subst e
  rw [List.length_append, List.length_singleton] at h1
  exact ⟨Q.drop d, by rw [List.drop_append_of_le_length (by omega)]⟩
theorem okN_low {n g : Nat} {M : List (List Int)} {P : List Int} (h : PreN n g P) {d : Nat} (hd : d < fstN g P) : okN g M P d = false := by
  unfold fstN at hd
  split at hd
  · omega
  rename_i hm
  obtain ⟨G, e⟩ := grp_last hm
  unfold okN
  rw [e, List.all_append]
  have hP : P ≠ [] := by rintro rfl; simp at hm
  have hr := h.rng (P.getD (P.length - 1) 0) (by
    rw [List.getD_eq_getElem?_getD, List.getElem?_eq_getElem (by have := List.length_pos_iff.2 hP; omega)]
    exact List.getElem_mem _)
  have : decide (P.getD (P.length - 1) 0 < (d : Int)) = false := decide_eq_false (by omega)
  rw [List.all_cons, this, Bool.false_and, Bool.false_and, Bool.and_false, Bool.and_false]
theorem fst_gt {n g : Nat} {P : List Int} (h : PreN n g P) {a : Nat} (ha : fstN g P ≤ a) : ∀ x ∈ P.drop (P.length / g * g), x < (a : Int) := by
  intro x hx
  unfold fstN at ha
  split at ha
  · rename_i hm
    rw [grp_nil.2 hm, List.drop_length] at hx
    simp at hx
  rename_i hm
  obtain ⟨G, e⟩ := grp_last hm
  have hp := h.asc
  rw [e] at hp hx
  rw [List.pairwise_append] at hp
  have hP : P ≠ [] := by rintro rfl; simp at hm
  have hr := h.rng (P.getD (P.length - 1) 0) (by
    rw [List.getD_eq_getElem?_getD, List.getElem?_eq_getElem (by have := List.length_pos_iff.2 hP; omega)]
    exact List.getElem_mem _)
  rcases List.mem_append.1 hx with hx | hx
  · have := hp.2.2 x hx _ (List.mem_singleton.2 rfl); omega
  · rw [List.mem_singleton] at hx; omega
theorem okN_at {n g : Nat} {M : List (List Int)} (hsym : ∀ a b, a < n → b < n → (M.getD a []).getD b 0 = (M.getD b []).getD a 0 ∧ 0 ≤ (M.getD a []).getD b 0) {P : List Int} (h : PreN n g P) {a : Nat} (ha : a < n) (hf : fstN g P ≤ a) :
    okN g M P a = (!P.contains (a : Int) && !(P.drop (P.length / g * g)).any fun b => decide (0 < (M.getD a []).getD b.toNat 0)) := by
  have hgt := fst_gt h hf
  unfold okN
  congr 1
  rw [Bool.eq_iff_iff, List.all_eq_true, Bool.not_eq_true', List.any_eq_false]
  refine ⟨fun hh x hx => ?_, fun hh x hx => ?_⟩
  · have h1 := hh x hx
    have hr := h.rng x (List.mem_of_mem_drop hx)
    rw [Bool.and_eq_true, beq_iff_eq] at h1
    have h2 := hsym a x.toNat ha (by omega)
    rw [decide_eq_true_iff]
    omega
  · have h1 := hh x hx
    have hr := h.rng x (List.mem_of_mem_drop hx)
    rw [decide_eq_true_iff] at h1
    have h2 := hsym a x.toNat ha (by omega)
    rw [Bool.and_eq_true, beq_iff_eq, decide_eq_true_iff]
    exact ⟨hgt x hx, by omega⟩
def StepN (g : Nat) (M : List (List Int)) (r : List Int) (k : Nat) : Prop :=
  (∀ i, k / g * g ≤ i → i < k → r.getD i 0 < r.getD k 0 ∧ (M.getD (r.getD i 0).toNat []).getD (r.getD k 0).toNat 0 = 0) ∧ (k % g = 0 → ∀ d : Nat, (d : Int) < r.getD k 0 → (d : Int) ∈ r.take k)
theorem nxT_mem {n g : Nat} {M : List (List Int)} (hg : 0 < g) : ∀ (f : Nat) (P r : List Int), P.length + f = n → PreN n g P → r ∈ nxT n g M f P → PreN n g r ∧ r.length = n ∧ (∃ Q, r = P ++ Q) ∧ ∀ k, P.length ≤ k → k < n → StepN g M r k
  | 0, P, r, e, h, hr => by
    have : r = P := by simpa [nxT] using hr
    subst this
    exact ⟨h, by omega, ⟨[], by simp⟩, fun k h1 h2 => by omega⟩
  | f + 1, P, r, e, h, hr => by
    rw [nxT_succ] at hr
    obtain ⟨b, _, hb, hok, hrb, hone⟩ := mem_nxL _ _ hr
    rw [Nat.zero_add] at hb
    obtain ⟨i1, i2, ⟨Q, i3⟩, i4⟩ := nxT_mem hg f (P ++ [(b : Int)]) r (by rw [List.length_append]; simp; omega) (h.snoc hg hb (by omega) hok) hrb
    refine ⟨i1, i2, ⟨(b : Int) :: Q, by rw [i3, List.append_assoc]; rfl⟩, fun k h1 h2 => ?_⟩
    by_cases hk : k = P.length
    · subst hk
      have eb : r.getD P.length 0 = (b : Int) := by
        rw [i3, List.append_assoc, List.getD_eq_getElem?_getD, List.getElem?_append_right (Nat.le_refl _), Nat.sub_self]
        rfl
      have ei : ∀ i, i < P.length → r.getD i 0 = P.getD i 0 := fun i hi => by
        rw [i3, List.append_assoc, List.getD_eq_getElem?_getD, List.getElem?_append_left hi, ← List.getD_eq_getElem?_getD]
      have et : r.take P.length = P := by rw [i3, List.append_assoc, List.take_left' rfl]
      unfold okN at hok
      rw [Bool.and_eq_true, List.all_eq_true] at hok
      obtain ⟨_, hal⟩ := hok
      unfold StepN
      rw [eb, et]
      refine ⟨fun i j1 j2 => ?_, fun hm d hd => ?_⟩
      · rw [ei i j2]
        have h3 := hal (P.getD i 0) (by
          rw [List.getD_eq_getElem?_getD, List.getElem?_eq_getElem j2]
          show P[i] ∈ _
          rw [List.mem_drop_iff_getElem]
          exact ⟨i - P.length / g * g, by omega, by congr 1; omega⟩)
        rw [Bool.and_eq_true, decide_eq_true_iff, beq_iff_eq] at h3
        exact ⟨h3.1, by rw [Int.toNat_natCast]; exact h3.2⟩
      · have h4 := hone (decide_eq_true hm) d (Nat.zero_le _) (by omega)
        unfold okN at h4
        rw [grp_nil.2 hm, List.drop_length, List.all_nil, Bool.and_true] at h4
        simpa using h4
    · exact i4 k (by rw [List.length_append]; simp; omega) h2
structure NxtN (n g : Nat) (M : List (List Int)) (r : List Int) : Prop where
  ord : ordB n r = true
  step : ∀ k, k < n → StepN g M r k
theorem nxt_of {n g : Nat} {M : List (List Int)} (hg : 0 < g) {r : List Int} (h : r ∈ nxT n g M n []) : NxtN n g M r := by
  obtain ⟨h1, h2, _, h4⟩ := nxT_mem hg n [] r (by simp) (PreN.nil n g) h
  exact ⟨(ordB_iff n r).2 ⟨h2, h1.rng, h1.nd⟩, fun k hk => h4 k (Nat.zero_le _) hk⟩
theorem nxt_social {n g c : Nat} (hg : 2 ≤ g) (hn : n = g * c) {R : List (List Int)} {r : List Int} (h : NxtN n g (gmM n g R) r) (hs : ∀ x y, x < n → y < n → x ≠ y → ((gmM n g R).getD x []).getD y 0 ≤ 1) (hsym : ∀ x y, x < n → y < n → ((gmM n g R).getD x []).getD y 0 = ((gmM n g R).getD y []).getD x 0) :
    ∀ x y, x < n → y < n → x ≠ y → ((gmM n g (R ++ [r])).getD x []).getD y 0 ≤ 1 := by
  intro x y hx hy hxy
  have hl : (R ++ [r]).length = R.length + 1 := by simp
  have er : (R ++ [r]).getD R.length [] = r := by
    rw [List.getD_eq_getElem?_getD, List.getElem?_append_right (Nat.le_refl _), Nat.sub_self]; rfl
  have e1 : ((gmM n g (R ++ [r])).getD x []).getD y 0 = ((gmM n g R).getD x []).getD y 0 + (((gxL n r (pgS g n)).count (ixN n x y) : Nat) : Int) := by
    unfold gmM
    rw [cntMx_at _ _ _ _ hx hy, cntMx_at _ _ _ _ hx hy, hl, gxS_cnt, er]
    have : gxS n g (R ++ [r]) R.length = gxS n g R R.length := by
      unfold gxS
      rw [List.flatMap_def, List.flatMap_def]
      congr 1
      refine List.map_congr_left fun i hi => ?_
      rw [List.mem_range] at hi
      rw [List.getD_eq_getElem?_getD, List.getElem?_append_left hi, ← List.getD_eq_getElem?_getD]
    rw [this]
    omega
  rw [e1]
  obtain ⟨a, b, ha, hb, ea, eb, ec⟩ := round_at (by omega : 0 < g) hn h.ord hx hy
  rw [ec]
  split
  · rename_i hab
    have h0 : ((gmM n g R).getD x []).getD y 0 = 0 := by
      rcases Nat.lt_or_gt_of_ne hab.1 with hlt | hlt
      · have h3 := ((h.step a ha).1 b (by rw [← hab.2]; exact Nat.div_mul_le_self _ _) hlt).2
        rw [ea, eb, Int.toNat_natCast, Int.toNat_natCast] at h3
        rw [hsym x y hx hy]; exact h3
      · have h3 := ((h.step b hb).1 a (by rw [hab.2]; exact Nat.div_mul_le_self _ _) hlt).2
        rw [ea, eb, Int.toNat_natCast, Int.toNat_natCast] at h3
        exact h3
    rw [h0]; decide
  · have := hs x y hx hy hxy
    omega
theorem nxt_eachB {n g c : Nat} (hg : 2 ≤ g) (hn : n = g * c) {R : List (List Int)} {r : List Int} (h : NxtN n g (gmM n g R) r) (hs : eachB le1 (gmM n g R) = true) (hsym : ∀ x y, x < n → y < n → ((gmM n g R).getD x []).getD y 0 = ((gmM n g R).getD y []).getD x 0) : eachB le1 (gmM n g (R ++ [r])) = true := by
  rw [each_iff (gmM_sq n g _)] at hs ⊢
  intro x hx y hy hxy
  exact decide_eq_true (nxt_social hg hn h (fun x y hx hy hxy => of_decide_eq_true (hs x hx y hy hxy)) hsym x y hx hy hxy)
theorem nxt_tidy {n g c : Nat} (hg : 2 ≤ g) (hn : n = g * c) {M : List (List Int)} {r : List Int} (h : NxtN n g M r) : tidF g r n = r := by
  have hg0 : 0 < g := by omega
  obtain ⟨l1, l2, l3⟩ := (ordB_iff n r).1 h.ord
  have hblk : ∀ t, t < c → blkL g r t = (r.drop (t * g)).take g := fun t ht => by
    unfold blkL
    have hle : t * g + g ≤ n := by
      rw [hn, ← Nat.succ_mul, Nat.mul_comm g c]
      exact Nat.mul_le_mul_right g ht
    refine sortedL_eq (List.Perm.refl _) ?_
    rw [List.pairwise_iff_getElem]
    intro i j hi hj hij
    rw [List.length_take, List.length_drop] at hi hj
    rw [List.getElem_take, List.getElem_take, List.getElem_drop, List.getElem_drop]
    have hd : (t * g + j) / g = t := Nat.div_eq_of_lt_le (by omega) (by rw [Nat.succ_mul]; omega)
    have h3 := ((h.step (t * g + j) (by omega)).1 (t * g + i) (by rw [hd]; omega) (by omega)).1
    rw [List.getD_eq_getElem?_getD, List.getD_eq_getElem?_getD, List.getElem?_eq_getElem (by omega), List.getElem?_eq_getElem (by omega)] at h3
    simp only [Option.getD_some] at h3
    omega
  have hflat : ∀ d, d ≤ c → ((List.range d).map (blkL g r)).flatten = r.take (d * g) := by
    intro d
    induction d with
    | zero => intro _; simp
    | succ d ih =>
      intro hd
      rw [List.range_succ, List.map_append, List.flatten_append, ih (by omega), List.map_singleton, List.flatten_singleton, hblk d (by omega), Nat.succ_mul, List.take_add]
  have hc : ((List.range c).map (blkL g r)).flatten = r := by
    rw [hflat c (Nat.le_refl _), List.take_of_length_le (by rw [l1, hn, Nat.mul_comm]; exact Nat.le_refl _)]
  have key := tid_sorted hg0 hn h.ord (G := blksL g c r) (List.Perm.refl _) (by
    unfold blksL
    rw [List.pairwise_map]
    refine List.pairwise_lt_range.imp_of_mem fun {t u} ht hu htu => ?_
    rw [List.mem_range] at ht hu
    have hle : ∀ s, s < c → s * g + g ≤ n := fun s hs => by
      rw [hn, ← Nat.succ_mul, Nat.mul_comm g c]
      exact Nat.mul_le_mul_right g hs
    have hh : ∀ s, s < c → hdL (blkL g r s) = r.getD (s * g) 0 := fun s hs => by
      rw [hblk s hs]
      unfold hdL
      rw [List.getD_eq_getElem?_getD, List.getElem?_take, if_pos hg0, List.getElem?_drop, Nat.add_zero, ← List.getD_eq_getElem?_getD]
    rw [hh t ht, hh u hu]
    have h1 := hle t ht
    have h2 := hle u hu
    have htu2 : t * g + g ≤ u * g := by
      rw [← Nat.succ_mul]
      exact Nat.mul_le_mul_right g htu
    apply Classical.byContradiction
    intro hno
    have hru := l2 (r.getD (u * g) 0) (by
      rw [List.getD_eq_getElem?_getD, List.getElem?_eq_getElem (by omega)]
      exact List.getElem_mem _)
    have h3 := (h.step (t * g) (by omega)).2 (Nat.mul_mod_left t g) (r.getD (u * g) 0).toNat (by omega)
    rw [Int.toNat_of_nonneg hru.1] at h3
    obtain ⟨i, hi, ei⟩ := List.mem_take_iff_getElem.1 h3
    have h4 := getD_ne l3 (i := i) (j := u * g) (by omega) (by omega) (by omega)
    apply h4
    rw [← ei, List.getD_eq_getElem?_getD, List.getElem?_eq_getElem (by omega)]
    rfl)
  unfold blksL at key
  rw [hc] at key
  exact key.symm
/-! ### How many -/
def okC (ok : Nat → Bool) : Nat → Nat → Nat
  | 0, _ => 0
  | m + 1, a => (if ok a = true then 1 else 0) + okC ok m (a + 1)
def sitC (P : List Int) : Nat → Nat
  | 0 => 0
  | m + 1 => sitC P m + (if P.contains (m : Int) = true then 0 else 1)
theorem okC_split {ok : Nat → Bool} : ∀ m k a, okC ok (m + k) a = okC ok m a + okC ok k (a + m)
  | 0, k, a => by rw [Nat.zero_add, Nat.add_zero]; exact (Nat.zero_add _).symm
  | m + 1, k, a => by
    rw [show m + 1 + k = m + k + 1 by omega]
    show (if ok a = true then 1 else 0) + okC ok (m + k) (a + 1) = (if ok a = true then 1 else 0) + okC ok m (a + 1) + _
    rw [okC_split m k (a + 1), show a + 1 + m = a + (m + 1) by omega]
    omega
theorem okC_le {g : Nat} {M : List (List Int)} {P : List Int} : ∀ m, okC (okN g M P) m 0 ≤ sitC P m
  | 0 => Nat.le_refl _
  | m + 1 => by
    rw [okC_split m 1 0, Nat.zero_add]
    show okC _ m 0 + ((if okN g M P m = true then 1 else 0) + 0) ≤ sitC P m + _
    have ih := okC_le (g := g) (M := M) (P := P) m
    by_cases hc : P.contains (m : Int) = true
    · rw [if_pos hc]
      have : okN g M P m = false := by unfold okN; rw [hc]; rfl
      rw [this]; simp; omega
    · rw [if_neg hc]
      split <;> omega
theorem sitC_count {P : List Int} (hn : P.Nodup) (h0 : ∀ x ∈ P, 0 ≤ x) : ∀ m : Nat, sitC P m + (P.filter fun x => decide (x < (m : Int))).length = m
  | 0 => by
    show 0 + _ = 0
    rw [List.filter_eq_nil_iff.2]
    · rfl
    · intro x hx; have := h0 x hx; simp; omega
  | m + 1 => by
    have ih := sitC_count hn h0 m
    show sitC P m + (if P.contains (m : Int) = true then 0 else 1) + _ = m + 1
    have h1 : (P.filter fun x => decide (x < ((m + 1 : Nat) : Int))).length = (P.filter fun x => decide (x < (m : Int))).length + P.count (m : Int) := by
      rw [← List.countP_eq_length_filter, ← List.countP_eq_length_filter]
      unfold List.count
      clear ih hn h0
      induction P with
      | nil => rfl
      | cons x P ih =>
        rw [List.countP_cons, List.countP_cons, List.countP_cons, ih]
        by_cases e : x = (m : Int)
        · subst e
          rw [decide_eq_true (show (m : Int) < ((m + 1 : Nat) : Int) by omega), decide_eq_false (show ¬ (m : Int) < (m : Int) by omega), beq_self_eq_true]
          simp
          rfl
        · have e2 : (x == (m : Int)) = false := beq_eq_false_iff_ne.2 e
          by_cases e3 : x < (m : Int)
          · rw [e2, decide_eq_true e3, decide_eq_true (show x < ((m + 1 : Nat) : Int) by omega)]; simp; omega
          · rw [e2, decide_eq_false e3, decide_eq_false (show ¬ x < ((m + 1 : Nat) : Int) by omega)]; simp
    rw [h1]
    by_cases hc : P.contains (m : Int) = true
    · rw [if_pos hc, hn.count, if_pos (by simpa using hc)]; omega
    · rw [if_neg hc, List.count_eq_zero.2 (by simpa using hc)]; omega
def facN : Nat → Nat
  | 0 => 1
  | f + 1 => (f + 1) * facN f
theorem nxT_len {n g : Nat} {M : List (List Int)} (hg : 0 < g) : ∀ (f : Nat) (P : List Int), P.length + f = n → PreN n g P → (nxT n g M f P).length ≤ facN f
  | 0, P, _, _ => by simp [nxT, facN]
  | f + 1, P, e, h => by
    rw [nxT_succ]
    have h1 : (nxL (fun a => nxT n g M f (P ++ [(a : Int)])) (okN g M P) (decide (P.length % g = 0)) n 0).length ≤ okC (okN g M P) n 0 * facN f := by
      have key : ∀ m a, a + m ≤ n → (nxL (fun a => nxT n g M f (P ++ [(a : Int)])) (okN g M P) (decide (P.length % g = 0)) m a).length ≤ okC (okN g M P) m a * facN f := by
        intro m
        induction m with
        | zero => intro a _; simp [nxL]
        | succ m ih =>
          intro a ha
          rw [nxL_succ]
          show _ ≤ ((if okN g M P a = true then 1 else 0) + okC (okN g M P) m (a + 1)) * facN f
          have ih := ih (a + 1) (by omega)
          by_cases ho : okN g M P a = true
          · rw [if_pos ho, if_pos ho, List.length_append, Nat.add_mul, Nat.one_mul]
            have h1 := nxT_len (M := M) hg f (P ++ [(a : Int)]) (by rw [List.length_append]; simp; omega) (h.snoc hg (by omega) (by omega) ho)
            split
            · simp; omega
            · omega
          · rw [if_neg ho, if_neg ho, Nat.zero_add]; exact ih
      exact key n 0 (by omega)
    have h2 := okC_le (g := g) (M := M) (P := P) n
    have h3 := sitC_count h.nd (fun x hx => (h.rng x hx).1) n
    rw [List.filter_eq_self.2 (fun x hx => decide_eq_true (h.rng x hx).2)] at h3
    have h4 : okC (okN g M P) n 0 ≤ f + 1 := by omega
    exact Nat.le_trans h1 (Nat.mul_le_mul_right _ h4)
/-! ### The first golf -/
def fgF (n g : Nat) : Nat → List (List Int) → Option (List (List Int))
  | 0, R => some R
  | k + 1, R => (nxT n g (gmM n g R) n []).findSome? fun r => fgF n g k (R ++ [r])
theorem fgF_ok {n g c : Nat} (hg : 2 ≤ g) (hn : n = g * c) (hn25 : n ≤ 25) : ∀ (k : Nat) (R X : List (List Int)), R.length + k ≤ 12 → (∀ i, i < R.length → ordB n (R.getD i []) = true) → eachB le1 (gmM n g R) = true → fgF n g k R = some X → X.length = R.length + k ∧ (∀ i, i < X.length → ordB n (X.getD i []) = true) ∧ eachB le1 (gmM n g X) = true
  | 0, R, X, _, h, hs, e => by
    have : R = X := by simpa [fgF] using e
    subst this
    exact ⟨rfl, h, hs⟩
  | k + 1, R, X, hl, h, hs, e => by
    unfold fgF at e
    obtain ⟨r, hr, er⟩ := List.exists_of_findSome?_eq_some e
    have hx := nxt_of (by omega) hr
    have h2 : ∀ i, i < (R ++ [r]).length → ordB n ((R ++ [r]).getD i []) = true := fun i hi => by
      rw [List.length_append, List.length_singleton] at hi
      by_cases e : i < R.length
      · rw [List.getD_eq_getElem?_getD, List.getElem?_append_left e, ← List.getD_eq_getElem?_getD]; exact h i e
      · rw [show i = R.length by omega, List.getD_eq_getElem?_getD, List.getElem?_append_right (Nat.le_refl _), Nat.sub_self]; exact hx.ord
    have hsym : ∀ x y, x < n → y < n → ((gmM n g R).getD x []).getD y 0 = ((gmM n g R).getD y []).getD x 0 := fun x y h1 h2 => (gmM_facts hg hn hn25 (by omega) h h1).2.2.2.2 y h2
    obtain ⟨i1, i2, i3⟩ := fgF_ok hg hn hn25 k (R ++ [r]) X (by rw [List.length_append]; simp; omega) h2 (nxt_eachB hg hn hx hs hsym) er
    rw [List.length_append, List.length_singleton] at i1
    exact ⟨by omega, i2, i3⟩
end Go.Abs
end

section
namespace Go.Abs
open Go Go.RowKit
structure LES (S : Nat → Prop) (H H' : AH) : Prop where
  next : H.next ≤ H'.next
  row : ∀ i r, S i → H.row i = some r → H'.row i = some r
theorem LES.refl (S : Nat → Prop) (H : AH) : LES S H H := ⟨Nat.le_refl _, fun _ _ _ h => h⟩
theorem LE.les {S : Nat → Prop} {H H' : AH} (h : LE H H') : LES S H H' := ⟨h.next, fun i r _ => h.row i r⟩
def loadOk (S : Nat → Prop) (t : T) : Op → Prop
  | .load _ a => match evo t a with | some (.pointer (some ⟨i, _, _⟩)) => S i | _ => True
  | _ => True
def Safe (P : Program) (S : Nat → Prop) (t : T) (op : Op) : Prop := ∀ H H' v, LES S H H' → yl (evalOp P t H op) v → yl (evalOp P t H' op) v
theorem safe_of {P : Program} {S : Nat → Prop} {t : T} {op : Op} (hq : quietOp op = true) (h : loadOk S t op) : Safe P S t op := by
  intro H H' v hle h
  by_cases hb : blindOp op = true
  · rw [blind_setH P t H H' op hb]; exact yl_setH _ h
  · cases op with
    | load ty a =>
      rename_i hS
      simp only [evalOp] at h ⊢
      cases hI : ti P ty with
      | none => simp only [hI] at h; exact h.elim
      | some I =>
        simp only [hI, bindO_some] at h ⊢
        cases hv : evo t a with
        | none => simp only [hv] at h; exact h.elim
        | some u =>
          simp only [hv, bindO_some] at h ⊢
          unfold asP at h ⊢
          split at h
          · rename_i i o
            unfold loadOk at hS
            simp only [hv] at hS
            cases hr : H.row i with
            | none => simp only [hr] at h; exact h.elim
            | some r =>
              have hr2 := hle.row i r hS hr
              simp only [hr, hr2, bindO_some] at h ⊢
              split at h
              · rename_i hd; rw [if_pos hd]; exact h
              · rename_i hd
                rw [if_neg hd]
                cases hx : r.cells[o]? with
                | none => simp only [hx] at h; exact h.elim
                | some x => simp only [hx, bindO_some] at h ⊢; exact h
          · exact h.elim
    | _ => simp_all [quietOp, blindOp]
theorem Safe.upd {P : Program} {S : Nat → Prop} {ops : Array Oper} {o : Oper} {t : T} {u : Value} {d : Option Nat} (h : ∀ i, d = some i → i ∉ o.looksAt ops) (k : Safe P S t o.op) : Safe P S (updO t d u) o.op := by
  intro H H' v hle
  rw [evalOp_updO o h, evalOp_updO o h]
  exact k H H' v hle
theorem aYield.safe {P : Program} {S : Nat → Prop} {ops : Array Oper} {o : Oper} {t : T} {H H' : AH} {v : Value} (hs : Safe P S t o.op) (hle : LES S H H') (h : aYield P ops o t H v) : aYield P ops o t H' v := by
  unfold aYield at *
  split at h
  · rename_i hg; exact hs _ _ _ hle h
  · rename_i g hg; exact condW_mono h (hs _ _ _ hle) id
def AAnyS (P : Program) (ops : Array Oper) (S : Nat → Prop) (Q : T → AH → Prop) : Nat → Array Bool → T → AH → Prop
  | 0, listed, t, H => Region.ready .any ops listed = [] ∧ Q t H
  | f + 1, listed, t, H => (Region.ready .any ops listed = [] → Q t H) ∧
    ∀ i ∈ Region.ready .any ops listed, aStep P ops.toList i t H fun t' H' => (sinkB ops i = true ∨ LES S H H') ∧ AAnyS P ops S Q f (listed.setIfInBounds i true) t' H'
theorem AAnyS_first {P : Program} {ops : Array Oper} {S : Nat → Prop} {Q : T → AH → Prop} {q : Nat} {oq : Oper} {v : Value} (hoq : ops[q]? = some oq) (hqt : quietOp oq.op = true) :
    ∀ (f : Nat) (listed : Array Bool) (t : T) (H : AH), Closed ops listed →
      (∀ j oj, ops[j]? = some oj → j ≠ q → listed.getD j true = false → (∀ e ∈ oj.after, Region.binds .any e = true → e.on ≠ q) → oq.apart ops oj = true) →
      q ∈ Region.ready .any ops listed → Safe P S t oq.op → aYield P ops oq t H v → AAnyS P ops S Q f (listed.setIfInBounds q true) (updO t oq.dst v) H → AAnyS P ops S Q (f + 1) listed t H := by
  intro f
  induction f with
  | zero =>
    intro listed t H hc _ hr hsf hy hA
    refine ⟨fun h => (by rw [h] at hr; cases hr), fun j hj => ?_⟩
    by_cases hjq : j = q
    · subst hjq; exact hy.step hoq hqt ⟨.inr (LES.refl _ _), hA⟩
    · have := ready_mono hj hjq
      rw [hA.1] at this
      cases this
  | succ f ih =>
    intro listed t H hc hfree hr hsf hy hA
    refine ⟨fun h => (by rw [h] at hr; cases hr), fun j hj => ?_⟩
    by_cases hjq : j = q
    · subst hjq; exact hy.step hoq hqt ⟨.inr (LES.refl _ _), hA⟩
    · have h1 := hA.2 j (ready_mono hj hjq)
      obtain ⟨hjun, oj, hoj, hall⟩ := ready_iff.1 hj
      obtain ⟨hqun, oq', hoq', hallq⟩ := ready_iff.1 hr
      have : oq' = oq := Option.some.inj (hoq'.symm.trans hoq)
      subst this
      have hqf : listed.getD q false = false := getD_unlisted hqun
      have hjf : listed.getD j false = false := getD_unlisted hjun
      have hnot : ∀ e ∈ oj.after, Region.binds .any e = true → e.on ≠ q := fun e he hb heq => by
        have h1 := hall e he hb
        rw [heq, hqf] at h1; cases h1
      have hap := hfree j oj hoj hjq hjun hnot
      obtain ⟨_, _, h3⟩ := Oper.apart_spec hap
      have h2 := aStep_put hoj hap h1
      refine aStep_mono h2 fun t' H' hk => ?_
      obtain ⟨⟨u, rfl⟩, hs, hk⟩ := hk
      refine ⟨hs, ih (listed.setIfInBounds j true) _ H' (hc.set hj) ?_ (ready_mono hr (Ne.symm hjq)) (hsf.upd h3) ?_ ?_⟩
      · intro k ok hk2 hkq hun hno
        refine hfree k ok hk2 hkq ?_ hno
        by_cases hjk : j = k
        · subst hjk; exact hjun
        · rw [getD_set_ne true hjk] at hun; exact hun
      · by_cases hb : blindOp oq'.op = true
        · exact (hy.later (H' := H') hqt (.inl hb)).upd h3
        · refine (hy.safe (H' := H') hsf ?_).upd h3
          rcases hs with hs | hs
          · rcases sinkB_spec hs hoq (Ne.symm hjq) hqt (by simpa using hb) with hbf | hbf
            · have := hc.bef ops.size j oj hoj hall hbf
              rw [hqf] at this; cases this
            · have := hc.bef ops.size q oq' hoq hallq hbf
              rw [hjf] at this; cases this
          · exact hs
      · rw [Array.setIfInBounds_comm _ _ hjq]
        exact hk
def awpOrdS (P : Program) (ops : Array Oper) (S : Nat → Prop) (Q : T → AH → Prop) : List Nat → T → AH → Prop
  | [], t, H => Q t H
  | i :: is, t, H =>
    match ops.toList[i]? with
    | none => False
    | some o =>
      if quietOp o.op = true then Safe P S t o.op ∧ aStep P ops.toList i t H (awpOrdS P ops S Q is)
      else aStep P ops.toList i t H fun t' H' => (sinkB ops i = true ∨ LES S H H') ∧ awpOrdS P ops S Q is t' H'
theorem AAnyS_ord {P : Program} {ops : Array Oper} {S : Nat → Prop} {Q : T → AH → Prop} : ∀ (is : List Nat) (listed : Array Bool) (t : T) (H : AH) (f : Nat), is.length ≤ f → Closed ops listed → okOrd ops is listed = true → awpOrdS P ops S Q is t H → AAnyS P ops S Q f listed t H
  | [], listed, t, H, f, _, _, hok, h => by
    have hr : Region.ready .any ops listed = [] := by simpa [okOrd] using hok
    cases f with
    | zero => exact ⟨hr, h⟩
    | succ f => exact ⟨fun _ => h, by rw [hr]; simp⟩
  | i :: is, listed, t, H, 0, hl, _, _, _ => by simp at hl
  | i :: is, listed, t, H, f + 1, hl, hc, hok, h => by
    simp only [okOrd, Bool.and_eq_true] at hok
    obtain ⟨h1, h2⟩ := hok
    unfold awpOrdS at h
    cases ho : ops[i]? with
    | none => simp [ho] at h1
    | some o =>
      have e : ops.toList[i]? = some o := by simpa using ho
      simp only [ho] at h1
      rw [e] at h
      simp only at h
      split at h1
      · rename_i hq
        rw [if_pos hq] at h
        simp only [Bool.and_eq_true] at h1
        obtain ⟨hr, hfr⟩ := h1
        have hr' : i ∈ Region.ready .any ops listed := by simpa using hr
        obtain ⟨v, hy, hk⟩ := aStep_quiet ho hq h.2
        exact AAnyS_first ho hq f listed t H hc (Region.free_spec ho hfr) hr' h.1 hy (AAnyS_ord is _ _ H f (by simp at hl; omega) (hc.set hr') h2 hk)
      · rename_i hq
        rw [if_neg hq] at h
        have hr : Region.ready .any ops listed = [i] := by simpa using h1
        refine ⟨fun h0 => (by rw [hr] at h0; cases h0), fun j hj => ?_⟩
        have hji : j = i := by rw [hr] at hj; simpa using hj
        subst hji
        exact aStep_mono h fun t' H' hk => ⟨hk.1, AAnyS_ord is _ t' H' f (by simp at hl; omega) (hc.set hj) h2 hk.2⟩
theorem AAnyS_ok {P : Program} {ops : Array Oper} {S : Nat → Prop} {Q : T → AH → Prop} {QC : Exit → Act → World → Prop} {base : Nat} :
    ∀ (f : Nat) (listed : Array Bool) (t : T) (H : AH) (ρ : Nat → Nat) (w : World) (tmps : Array Value), AAnyS P ops S Q f listed t H → St base ρ t H tmps w → (∀ o ∈ ops.toList, ∀ i, o.dst = some i → i < tmps.size) →
      (∀ t' H' ρ' w' tmps', Q t' H' → St base ρ' t' H' tmps' w' → Ext base ρ H.next w ρ' H'.next w' → tmps'.size = tmps.size → QC .normal ⟨tmps', []⟩ w') →
      wpAny P .any ops QC f listed ⟨tmps, []⟩ w
  | 0, listed, t, H, ρ, w, tmps, h, hS, _, hQ => ⟨h.1, hQ t H ρ w tmps h.2 hS (Ext.refl _ _ _ _) rfl⟩
  | f + 1, listed, t, H, ρ, w, tmps, h, hS, hd, hQ => by
    refine ⟨fun h0 => hQ t H ρ w tmps (h.1 h0) hS (Ext.refl _ _ _ _) rfl, fun i hi => ?_⟩
    have hstep := h.2 i hi
    obtain ⟨_, o, ho, _⟩ := ready_iff.1 hi
    have e : ops.toList[i]? = some o := by simpa using ho
    have hom : o ∈ ops.toList := List.mem_of_getElem? e
    unfold aStep at hstep
    rw [e] at hstep
    simp only at hstep
    have hgo : ∀ v v' H' ρ' w', AAnyS P ops S Q f (listed.setIfInBounds i true) (updO t o.dst v) H' → Rel base ρ' H' w' → Ext base ρ H.next w ρ' H'.next w' → VR ρ' H'.next w' v v' →
        wpAny P .any ops QC f (listed.setIfInBounds i true) (Act.put ⟨tmps, []⟩ o.dst v') w' := by
      intro v v' H' ρ' w' hK R' E hV
      rw [put_eta]
      refine AAnyS_ok f _ _ H' ρ' w' _ hK ⟨R', (hS.2.ext E).put hV o.dst (hd o hom)⟩ (fun o' ho' k hk => by rw [put_size]; exact hd o' ho' k hk) ?_
      intro t' H'' ρ'' w'' tmps' hq hs he hz
      exact hQ t' H'' ρ'' w'' tmps' hq hs (E.trans he) (by rw [hz, put_size])
    have hall := wp_one (P := P) (QC := QC) ops i o ho hS (hnext := fun a w' => wpAny P .any ops QC f (listed.setIfInBounds i true) a w') hgo
      (K := fun v H' => AAnyS P ops S Q f (listed.setIfInBounds i true) (updO t o.dst v) H')
    refine hall ?_
    cases hg : o.guard with
    | none =>
      simp only [hg] at hstep ⊢
      exact runOut_mono (fun v H' hk => hk.2) _ hstep
    | some g =>
      simp only [hg] at hstep ⊢
      exact condW_mono hstep (runOut_mono (fun v H' hk => hk.2) _) (fun hk => hk.2)
theorem draw_okS {P : Program} {id : Nat} {ops : Array Oper} {Q : Exit → T → AH → Prop} {t : T} {H : AH} (S : Nat → Prop) (is : List Nat) (hm : P.follows .mixedOrders = true) (hok : okOrd ops is (Array.replicate ops.size false) = true) (hl : is.length = ops.size)
    (h : awpOrdS P ops S (Q .normal) is t H) : awp P (.region id ops true) Q t H := by
  intro base ρ w tmps QC hS hd hQ
  have hA := AAnyS_ord is _ t H ops.size (by omega) ⟨by simp, fun j oj hj hl => by rw [getD_replicate_false'] at hl; cases hl⟩ hok h
  refine wp_region_any hm (AAnyS_ok ops.size _ t H ρ w.drew tmps hA ⟨hS.1.drew, hS.2.ext (ext_drew (base := base) (H := H) w)⟩ ?_ fun t' H' ρ' w' tmps' hq hs he hz => ?_)
  · intro o ho i hi
    have := List.all_eq_true.1 hd o ho
    simp only [hi, decide_eq_true_eq] at this
    exact this
  · exact hQ .normal t' H' ρ' w' tmps' hq hs ((ext_drew (base := base) (H := H) (ρ := ρ) w).trans he) hz
def stepIS (P : Program) (ops : Array Oper) (S : Nat → Prop) (K : T → AH → Prop) (i : Nat) : Option Oper → T → AH → (fun _ => Prop) (ops, K, i)
  | none, _, _ => False
  | some o, t, H =>
    match o.guard with
    | none => loadOk S t o.op ∧ runOut P H (evalOp P t H o.op) fun v H' => (quietOp o.op = true ∨ sinkB ops i = true ∨ LES S H H') ∧ K (updO t o.dst v) H'
    | some g => loadOk S t o.op ∧ condW (gv ops.toList t g.1) g.2 (runOut P H (evalOp P t H o.op) fun v H' => (quietOp o.op = true ∨ sinkB ops i = true ∨ LES S H H') ∧ K (updO t o.dst v) H') (K (updO t o.dst undef) H)
def awpIS (P : Program) (ops : Array Oper) (S : Nat → Prop) (Q : T → AH → Prop) : (is : List Nat) → T → AH → (fun _ => Prop) (ops, Q, is)
  | [], t, H => Q t H
  | i :: is, t, H => stepIS P ops S (awpIS P ops S Q is) i (ops.toList[i]?) t H
theorem awpIS_ord {P : Program} {ops : Array Oper} {S : Nat → Prop} {Q : T → AH → Prop} : ∀ (is : List Nat) (t : T) (H : AH), awpIS P ops S Q is t H → awpOrdS P ops S Q is t H
  | [], t, H, h => h
  | i :: is, t, H, h => by
    have ih := fun t H => awpIS_ord (P := P) (ops := ops) (S := S) (Q := Q) is t H
    unfold awpIS at h
    unfold awpOrdS
    cases e : ops.toList[i]? with
    | none => rw [e] at h; exact h.elim
    | some o =>
    rw [e] at h
    unfold stepIS at h
    have hs : ∀ K K' : T → AH → Prop, (∀ v H', K (updO t o.dst v) H' → K' (updO t o.dst v) H') → (∀ H', K (updO t o.dst undef) H' → K' (updO t o.dst undef) H') → aStep P ops.toList i t H K → aStep P ops.toList i t H K' := by
      intro K K' k1 k2 hh
      unfold aStep at hh ⊢
      rw [e] at hh ⊢
      simp only at hh ⊢
      cases hg : o.guard with
      | none => simp only [hg] at hh ⊢; exact runOut_mono (fun v H' => k1 v H') _ hh
      | some g => simp only [hg] at hh ⊢; exact condW_mono hh (runOut_mono (fun v H' => k1 v H') _) (k2 H)
    have hload : loadOk S t o.op := by
      cases hg : o.guard <;> simp only [hg] at h <;> exact h.1
    have base : aStep P ops.toList i t H fun t' H' => (quietOp o.op = true ∨ sinkB ops i = true ∨ LES S H H') ∧ awpOrdS P ops S Q is t' H' := by
      unfold aStep
      rw [e]
      simp only
      cases hg : o.guard with
      | none => simp only [hg] at h ⊢; exact runOut_mono (fun v H' k => ⟨k.1, ih _ _ k.2⟩) _ h.2
      | some g => simp only [hg] at h ⊢; exact condW_mono h.2 (runOut_mono (fun v H' k => ⟨k.1, ih _ _ k.2⟩) _) (fun k => ⟨.inr (.inr (LES.refl S H)), ih _ _ k⟩)
    simp only
    split
    · rename_i hqq
      exact ⟨safe_of hqq hload, hs _ _ (fun v H' k => k.2) (fun H' k => k.2) base⟩
    · rename_i hq
      refine hs _ _ ?_ ?_ base
      · rintro v H' ⟨k | k, k2⟩
        · exact absurd k hq
        · exact ⟨k, k2⟩
      · rintro H' ⟨k | k, k2⟩
        · exact absurd k hq
        · exact ⟨k, k2⟩
theorem draw_inS {P : Program} {id : Nat} {ops : Array Oper} {Q : Exit → T → AH → Prop} {t : T} {H : AH} (S : Nat → Prop) (is : List Nat) (hm : P.follows .mixedOrders = true) (hok : okOrd ops is (Array.replicate ops.size false) = true) (hl : is.length = ops.size)
    (h : awpIS P ops S (Q .normal) is t H) : awp P (.region id ops true) Q t H := draw_okS S is hm hok hl (awpIS_ord is _ _ h)
theorem awpIS_nil (P : Program) (ops : Array Oper) (S : Nat → Prop) (Q : T → AH → Prop) (t : T) (H : AH) : awpIS P ops S Q [] t H = Q t H := (rfl)
theorem awpIS_cons (P : Program) (ops : Array Oper) (S : Nat → Prop) (Q : T → AH → Prop) (i : Nat) (is : List Nat) (t : T) (H : AH) : awpIS P ops S Q (i :: is) t H = stepIS P ops S (awpIS P ops S Q is) i (ops.toList[i]?) t H := (rfl)
theorem stepIS_op (P : Program) (ops : Array Oper) (S : Nat → Prop) (K : T → AH → Prop) (i : Nat) (d : Option Tmp) (op : Op) (ty : TypeId) (pos : String) (af : Array Edge) (t : T) (H : AH) :
    stepIS P ops S K i (some ⟨d, op, ty, pos, af, none⟩) t H = (loadOk S t op ∧ runOut P H (evalOp P t H op) fun v H' => (quietOp op = true ∨ sinkB ops i = true ∨ LES S H H') ∧ K (updO t d v) H') := (rfl)
@[congr] theorem stepIS_congr {P : Program} {ops : Array Oper} {S : Nat → Prop} {K : T → AH → Prop} {i : Nat} {o o' : Option Oper} {t t' : T} {H H' : AH} (ho : o = o') (h : t = t') (k : H = H') : stepIS P ops S K i o t H = stepIS P ops S K i o' t' H' := by rw [ho, h, k]
@[congr] theorem awpIS_congr {P : Program} {ops : Array Oper} {S : Nat → Prop} {is : List Nat} {Q : T → AH → Prop} {t t' : T} {H H' : AH} (h : t = t') (k : H = H') : awpIS P ops S Q is t H = awpIS P ops S Q is t' H' := by rw [h, k]
end Go.Abs
end

section
namespace Go.Abs
open Go Go.RowKit
def awpTS (P : Program) (ops : Array Oper) (S : Nat → Prop) (Q : T → AH → Prop) : (ot : OT) → T → AH → (fun _ => Prop) (ops, Q, ot)
  | .nil, t, H => Q t H
  | .one i r, t, H => stepIS P ops S (awpTS P ops S Q r) i (ops.toList[i]?) t H
  | .two i j a b, t, H => stepIS P ops S (awpTS P ops S Q a) i (ops.toList[i]?) t H ∧ stepIS P ops S (awpTS P ops S Q b) j (ops.toList[j]?) t H
  | .three i j k a b c, t, H => stepIS P ops S (awpTS P ops S Q a) i (ops.toList[i]?) t H ∧ stepIS P ops S (awpTS P ops S Q b) j (ops.toList[j]?) t H ∧ stepIS P ops S (awpTS P ops S Q c) k (ops.toList[k]?) t H
theorem stepIS_a {P : Program} {ops : Array Oper} {S : Nat → Prop} {K : T → AH → Prop} {i : Nat} {t : T} {H : AH} (h : stepIS P ops S K i (ops.toList[i]?) t H) :
    (∃ o, ops.toList[i]? = some o ∧ loadOk S t o.op) ∧ aStep P ops.toList i t H fun t' H' => ((∃ o, ops.toList[i]? = some o ∧ quietOp o.op = true) ∨ sinkB ops i = true ∨ LES S H H') ∧ K t' H' := by
  unfold aStep
  cases e : ops.toList[i]? with
  | none => rw [e] at h; exact h.elim
  | some o =>
    rw [e] at h
    unfold stepIS at h
    simp only
    cases hg : o.guard with
    | none => simp only [hg] at h ⊢; exact ⟨⟨o, rfl, h.1⟩, runOut_mono (fun v H' k => ⟨k.1.imp (fun q => ⟨o, rfl, q⟩) id, k.2⟩) _ h.2⟩
    | some g => simp only [hg] at h ⊢; exact ⟨⟨o, rfl, h.1⟩, condW_mono h.2 (runOut_mono (fun v H' k => ⟨k.1.imp (fun q => ⟨o, rfl, q⟩) id, k.2⟩) _) (fun k => ⟨.inr (.inr (LES.refl S H)), k⟩)⟩
theorem stepIS_s {P : Program} {ops : Array Oper} {S : Nat → Prop} {K : T → AH → Prop} {i : Nat} {t : T} {H : AH} (h : stepIS P ops S K i (ops.toList[i]?) t H) :
    aStep P ops.toList i t H fun t' H' => (sinkB ops i = true ∨ LES S H H') ∧ K t' H' := by
  cases e : ops.toList[i]? with
  | none => rw [e] at h; exact h.elim
  | some o =>
    by_cases hq : quietOp o.op = true
    · have ho : ops[i]? = some o := by simpa using e
      obtain ⟨v, hy, hk⟩ := aStep_quiet ho hq (stepIS_a h).2
      exact hy.step ho hq ⟨.inr (LES.refl _ _), hk.2⟩
    · refine aStep_mono (stepIS_a h).2 fun t' H' hk => ⟨?_, hk.2⟩
      rcases hk.1 with ⟨o', e', q'⟩ | k
      · rw [e] at e'; cases e'; exact absurd q' hq
      · exact k
theorem AAnyS_tree {P : Program} {ops : Array Oper} {S : Nat → Prop} {Q : T → AH → Prop} : ∀ (ot : OT) (listed : Array Bool) (t : T) (H : AH) (f : Nat), ot.depth ≤ f → Closed ops listed → okOT ops ot listed = true → awpTS P ops S Q ot t H → AAnyS P ops S Q f listed t H
  | .nil, listed, t, H, f, _, _, hok, h => by
    have hr : Region.ready .any ops listed = [] := by simpa [okOT] using hok
    cases f with
    | zero => exact ⟨hr, h⟩
    | succ f => exact ⟨fun _ => h, by rw [hr]; simp⟩
  | .one i r, listed, t, H, 0, hl, _, _, _ => by simp [OT.depth] at hl
  | .two i j a b, listed, t, H, 0, hl, _, _, _ => by simp [OT.depth] at hl
  | .three i j k a b c, listed, t, H, 0, hl, _, _, _ => by simp [OT.depth] at hl
  | .one i r, listed, t, H, f + 1, hl, hc, hok, h => by
    simp only [okOT, Bool.and_eq_true] at hok
    simp only [OT.depth] at hl
    obtain ⟨h1, h2⟩ := hok
    unfold awpTS at h
    cases ho : ops[i]? with
    | none => simp [ho] at h1
    | some o =>
      simp only [ho] at h1
      split at h1
      · rename_i hq
        simp only [Bool.and_eq_true] at h1
        obtain ⟨hr, hfr⟩ := h1
        have hr' : i ∈ Region.ready .any ops listed := by simpa using hr
        obtain ⟨v, hy, hk⟩ := aStep_quiet ho hq (stepIS_s h)
        obtain ⟨⟨o', e', hl'⟩, _⟩ := stepIS_a h
        have eo : o' = o := by
          have e2 : ops.toList[i]? = some o := by simpa using ho
          exact Option.some.inj (e'.symm.trans e2)
        subst eo
        exact AAnyS_first ho hq f listed t H hc (Region.free_spec ho hfr) hr' (safe_of hq hl') hy (AAnyS_tree r _ _ H f (by omega) (hc.set hr') h2 hk.2)
      · have hr : Region.ready .any ops listed = [i] := by simpa using h1
        refine ⟨fun h0 => (by rw [hr] at h0; cases h0), fun j hj => ?_⟩
        have hji : j = i := by rw [hr] at hj; simpa using hj
        subst hji
        exact aStep_mono (stepIS_s h) fun t' H' hk => ⟨hk.1, AAnyS_tree r _ t' H' f (by omega) (hc.set hj) h2 hk.2⟩
  | .two i j a b, listed, t, H, f + 1, hl, hc, hok, h => by
    simp only [okOT, Bool.and_eq_true] at hok
    simp only [OT.depth] at hl
    obtain ⟨⟨h1, h2⟩, h3⟩ := hok
    unfold awpTS at h
    have hr : Region.ready .any ops listed = [i, j] := by simpa using h1
    refine ⟨fun h0 => (by rw [hr] at h0; cases h0), fun x hx => ?_⟩
    have hx2 : x = i ∨ x = j := by rw [hr] at hx; simpa using hx
    rcases hx2 with rfl | rfl
    · exact aStep_mono (stepIS_s h.1) fun t' H' hk => ⟨hk.1, AAnyS_tree a _ t' H' f (by omega) (hc.set hx) h2 hk.2⟩
    · exact aStep_mono (stepIS_s h.2) fun t' H' hk => ⟨hk.1, AAnyS_tree b _ t' H' f (by omega) (hc.set hx) h3 hk.2⟩
  | .three i j k a b c, listed, t, H, f + 1, hl, hc, hok, h => by
    simp only [okOT, Bool.and_eq_true] at hok
    simp only [OT.depth] at hl
    obtain ⟨⟨⟨h1, h2⟩, h3⟩, h4⟩ := hok
    unfold awpTS at h
    have hr : Region.ready .any ops listed = [i, j, k] := by simpa using h1
    refine ⟨fun h0 => (by rw [hr] at h0; cases h0), fun x hx => ?_⟩
    have hx2 : x = i ∨ x = j ∨ x = k := by rw [hr] at hx; simpa using hx
    rcases hx2 with rfl | rfl | rfl
    · exact aStep_mono (stepIS_s h.1) fun t' H' hk => ⟨hk.1, AAnyS_tree a _ t' H' f (by omega) (hc.set hx) h2 hk.2⟩
    · exact aStep_mono (stepIS_s h.2.1) fun t' H' hk => ⟨hk.1, AAnyS_tree b _ t' H' f (by omega) (hc.set hx) h3 hk.2⟩
    · exact aStep_mono (stepIS_s h.2.2) fun t' H' hk => ⟨hk.1, AAnyS_tree c _ t' H' f (by omega) (hc.set hx) h4 hk.2⟩
theorem draw_treeS {P : Program} {id : Nat} {ops : Array Oper} {Q : Exit → T → AH → Prop} {t : T} {H : AH} (S : Nat → Prop) (ot : OT) (hm : P.follows .mixedOrders = true) (hok : okOT ops ot (Array.replicate ops.size false) = true) (hl : ot.depth ≤ ops.size)
    (h : awpTS P ops S (Q .normal) ot t H) : awp P (.region id ops true) Q t H := by
  intro base ρ w tmps QC hS hd hQ
  have hA := AAnyS_tree ot _ t H ops.size hl ⟨by simp, fun j oj hj hl => by rw [getD_replicate_false'] at hl; cases hl⟩ hok h
  refine wp_region_any hm (AAnyS_ok ops.size _ t H ρ w.drew tmps hA ⟨hS.1.drew, hS.2.ext (ext_drew (base := base) (H := H) w)⟩ ?_ fun t' H' ρ' w' tmps' hq hs he hz => ?_)
  · intro o ho i hi
    have := List.all_eq_true.1 hd o ho
    simp only [hi, decide_eq_true_eq] at this
    exact this
  · exact hQ .normal t' H' ρ' w' tmps' hq hs ((ext_drew (base := base) (H := H) (ρ := ρ) w).trans he) hz
theorem awpTS_nil (P : Program) (ops : Array Oper) (S : Nat → Prop) (Q : T → AH → Prop) (t : T) (H : AH) : awpTS P ops S Q .nil t H = Q t H := (rfl)
theorem awpTS_one (P : Program) (ops : Array Oper) (S : Nat → Prop) (Q : T → AH → Prop) (i : Nat) (r : OT) (t : T) (H : AH) : awpTS P ops S Q (.one i r) t H = stepIS P ops S (awpTS P ops S Q r) i (ops.toList[i]?) t H := (rfl)
theorem awpTS_two {P : Program} {ops : Array Oper} {S : Nat → Prop} {Q : T → AH → Prop} {i j : Nat} {a b : OT} {t : T} {H : AH} (h : stepIS P ops S (awpTS P ops S Q a) i (ops.toList[i]?) t H) (k : stepIS P ops S (awpTS P ops S Q b) j (ops.toList[j]?) t H) : awpTS P ops S Q (.two i j a b) t H := ⟨h, k⟩
theorem awpTS_run_nil (P : Program) (ops : Array Oper) (S : Nat → Prop) (Q : T → AH → Prop) (r : OT) (t : T) (H : AH) : awpTS P ops S Q (OT.run [] r) t H = awpTS P ops S Q r t H := (rfl)
theorem awpTS_run_cons (P : Program) (ops : Array Oper) (S : Nat → Prop) (Q : T → AH → Prop) (i : Nat) (is : List Nat) (r : OT) (t : T) (H : AH) : awpTS P ops S Q (OT.run (i :: is) r) t H = stepIS P ops S (awpTS P ops S Q (OT.run is r)) i (ops.toList[i]?) t H := (rfl)
@[congr] theorem awpTS_congr {P : Program} {ops : Array Oper} {S : Nat → Prop} {ot : OT} {Q : T → AH → Prop} {t t' : T} {H H' : AH} (h : t = t') (k : H = H') : awpTS P ops S Q ot t H = awpTS P ops S Q ot t' H' := by rw [h, k]
end Go.Abs
end

section
set_option maxRecDepth 100000
set_option maxHeartbeats 2000000
namespace Go.Proofs.YtollphjompimjaaGreat.A
open Go Go.Abs Go.RowKit
structure CallT (n g : Nat) (cb : FuncId) (caps : List Value) (b0 : Nat) {σ : Type} (Inv Fin : σ → AH → Prop) (step : σ → List Int → Bool × σ) : Prop where
  low : ∀ s H H', Inv s H → (∀ i, i < b0 → H'.row i = H.row i) → Inv s H'
  call : ∀ s r v H, Inv s H → b0 ≤ H.next → Sc H → PreN n g r → r.length = n → Rs 1 H v n r → ACalls Tryz.prog cb (v :: caps) H (fun u H' => u = .bool (step s r).1 ∧ H.next ≤ H'.next ∧ Sc H' ∧ (∀ i, b0 ≤ i → i < H.next → H'.row i = H.row i) ∧ ((step s r).1 = true → Inv (step s r).2 H') ∧ ((step s r).1 = false → FinAt b0 H.next (Fin (step s r).2) H'))
structure CellsT where
  nc : Nat
  gc : Nat
  wc : Nat
  mc : Nat
  uc : Nat
  pc : Nat
  lc : Nat
  ui : Nat
def CellsT.caps (c : CellsT) : List Value := [.pointer (some ⟨c.lc, 0, none⟩), .pointer (some ⟨c.nc, 0, none⟩), .pointer (some ⟨c.wc, 0, none⟩), .pointer (some ⟨c.gc, 0, none⟩), .pointer (some ⟨c.uc, 0, none⟩), .pointer (some ⟨c.mc, 0, none⟩), .pointer (some ⟨c.pc, 0, none⟩)]
def tA (c : CellsT) (n g : Nat) (cb : FuncId) (caps : List Value) (mv : Value) (M : List (List Int)) (P : List Int) (lv : Value) : List Th :=
  [.row c.nc ⟨2, true, [.int .i64 n]⟩, .row c.gc ⟨2, true, [.int .i64 g]⟩, .row c.wc ⟨52, true, [.func (.func cb) #[] caps.toArray]⟩, .row c.mc ⟨24, true, [mv]⟩, .see (fun H => Rd2 1 H mv M),
   .row c.pc ⟨49, true, [.func (.func 59) #[] c.caps.toArray]⟩, .row c.uc ⟨76, true, [.slice (some ⟨c.ui, 0, some 1⟩) n n]⟩, .sl 1 4 (.slice (some ⟨c.ui, 0, some 1⟩) n n) n (bools (metL n P)), .row c.lc ⟨28, true, [lv]⟩]
def tL (c : CellsT) (n g : Nat) (cb : FuncId) (caps : List Value) (mv : Value) (M : List (List Int)) (P : List Int) (i : Nat) (Z : List Th) : List Th :=
  tA c n g cb caps mv M P (lvF i P.length) ++ .cap 1 2 (lvF i P.length) P.length (ints P) :: Z
theorem metT_c (mc ac : Nat) (mv : Value) (M : List (List Int)) (n a : Nat) (x : Int) (H : AH) (hM : SqM n M) (hn : n ≤ 25) (ha : a < n) (hx : 0 ≤ x ∧ x < n) (hmc : H.row mc = some ⟨24, true, [mv]⟩) (hac : H.row ac = some ⟨2, true, [.int .i64 a]⟩) (hmv : Rd2 1 H mv M) :
    ACalls Tryz.prog 62 [.int .i64 x, .pointer (some ⟨mc, 0, none⟩), .pointer (some ⟨ac, 0, none⟩)] H (is (.bool (decide (0 < (M.getD a []).getD x.toNat 0))) H) := by
  refine acalls_of_awp [.tmp 4] Tryz.func62 (by kernel_rfl) rfl rfl (Nat.le_of_ble_eq_true rfl) (by kernel_rfl) ?_
  have hml := hM.1
  obtain ⟨mi, mo, mu, mcc, mr, yv, my, emv, hmr, hyv, hsx, hok2⟩ := hmv.get (j := a) (by omega)
  have hmy := hsx.lenK1
  rw [hM.2 a ha] at hmy
  have hmy := hmy.symm
  subst hmy
  obtain ⟨zi, zo, zu, zc, zr, ez, z1, z2, z3, _⟩ := hsx.get (by omega)
  have z4 := z3 x.toNat (by omega)
  subst ez
  subst emv
  try simp (disch := first | omega | (simp only [ints_length, List.length_replicate, List.length_set, bools_length, metL_length] <;> omega)) only [Sall,evalOp,init,binA_s,binE,binI,unE,convE,okNil,builtE,gv,TD.isAgg,resV,↓reduceIte,Nat.reduceEqDiff,reduceCtorEq,Nat.reduceAdd,Nat.reduceMul,Nat.reduceLeDiff,quietOp,blindOp,Int.reduceEq,Int.reduceLT,Int.reduceLE,Nat.reduceLT,tiA,tiXA, hmc, hac, hmr, hyv, hok2, z1, z4]
  (repeat refine And.intro (by omega) ?_)
  try simp (disch := first | omega | (simp only [ints_length, List.length_replicate, List.length_set, bools_length, metL_length] <;> omega)) only [Sall,evalOp,init,binA_s,binE,binI,unE,convE,okNil,builtE,gv,TD.isAgg,resV,↓reduceIte,Nat.reduceEqDiff,reduceCtorEq,Nat.reduceAdd,Nat.reduceMul,Nat.reduceLeDiff,quietOp,blindOp,Int.reduceEq,Int.reduceLT,Int.reduceLE,Nat.reduceLT,tiA,tiXA, hmc, hac, hmr, hyv, hok2, z1, z4, is]
theorem sizeT_c (v : Value) (y : List Int) (H : AH) (hv : Rd 1 H v y.length y) (hy : y.length ≤ 4294967296) : ACalls Tryz.prog 60 [v] H (is (.int .i64 y.length) H) := by
  refine acalls_of_awp [.tmp 2] Tryz.func60 (by kernel_rfl) rfl rfl (Nat.le_of_ble_eq_true rfl) (by kernel_rfl) ?_
  have hl := hv.len
  try simp (disch := first | omega | (simp only [ints_length, List.length_replicate, List.length_set, bools_length, metL_length] <;> omega)) only [Sall,evalOp,init,binA_s,binE,binI,unE,convE,okNil,builtE,gv,TD.isAgg,resV,↓reduceIte,Nat.reduceEqDiff,reduceCtorEq,Nat.reduceAdd,Nat.reduceMul,Nat.reduceLeDiff,quietOp,blindOp,Int.reduceEq,Int.reduceLT,Int.reduceLE,Nat.reduceLT,tiA,tiXA, builtE, hl, is]
theorem indexFuncM_c (g : FuncId) (cap : List Value) (p : Int → Bool) (v : Value) (k : Nat) (l : List Int) (H : AH) (hv : Rd 1 H v k l) (hk : k ≤ 4294967296)
    (hp : ∀ x : Int, x ∈ l → ACalls Tryz.prog g (.int .i64 x :: cap) H (is (.bool (p x)) H)) :
    ACalls Tryz.prog 75 [v, .func (.func g) #[] cap.toArray] H (is (.int .i64 (firstI (fun i => p (l.getD i 0)) k)) H) := by
  have hlk := hv.lenK1
  refine acalls_of_awp [.tmp 4] Tryz.func75 (by kernel_rfl) rfl rfl (Nat.le_of_ble_eq_true rfl) (by kernel_rfl) ?_
  try simp (disch := first | omega | (simp only [ints_length, List.length_replicate, List.length_set, bools_length, metL_length] <;> omega)) only [Sall,evalOp,init,binA_s,binE,binI,unE,convE,okNil,builtE,gv,TD.isAgg,resV,↓reduceIte,Nat.reduceEqDiff,reduceCtorEq,Nat.reduceAdd,Nat.reduceMul,Nat.reduceLeDiff,quietOp,blindOp,Int.reduceEq,Int.reduceLT,Int.reduceLE,Nat.reduceLT,tiA, builtE, hv.len]
  refine awp_loop (fun m t H' => ∃ a : Nat, m = k - a ∧ a ≤ k ∧ t 8 = .int .i64 a ∧ t 7 = .int .i64 k ∧ t 0 = v ∧ t 1 = .func (.func g) #[] cap.toArray ∧ H' = H ∧ (∀ x, x < a → p (l.getD x 0) = false)) k ?_ ?_
  · refine ⟨0, by omega, by omega, ?_⟩
    try simp (disch := first | omega | (simp only [ints_length, List.length_replicate, List.length_set, bools_length, metL_length] <;> omega)) only [Sall,evalOp,init,binA_s,binE,binI,unE,convE,okNil,builtE,gv,TD.isAgg,resV,↓reduceIte,Nat.reduceEqDiff,reduceCtorEq,Nat.reduceAdd,Nat.reduceMul,Nat.reduceLeDiff,quietOp,blindOp,Int.reduceEq,Int.reduceLT,Int.reduceLE,Nat.reduceLT,tiA, Int.natCast_zero, Nat.not_lt_zero, false_implies]
  · rintro m t H' ⟨a, hm, h14, h8, h7, h0, h1, rfl, hall⟩
    try simp (disch := first | omega | (simp only [ints_length, List.length_replicate, List.length_set, bools_length, metL_length] <;> omega)) only [Sall,evalOp,init,binA_s,binE,binI,unE,convE,okNil,builtE,gv,TD.isAgg,resV,↓reduceIte,Nat.reduceEqDiff,reduceCtorEq,Nat.reduceAdd,Nat.reduceMul,Nat.reduceLeDiff,quietOp,blindOp,Int.reduceEq,Int.reduceLT,Int.reduceLE,Nat.reduceLT,tiA, h8, h7]
    refine condC_dec (fun h => ?_) (fun h => ?_)
    · obtain ⟨i, o, u, c, r, rfl, hr, hc, hs1, hg⟩ := hv.get (by omega)
      try simp (disch := first | omega | (simp only [ints_length, List.length_replicate, List.length_set, bools_length, metL_length] <;> omega)) only [Sall,evalOp,init,binA_s,binE,binI,unE,convE,okNil,builtE,gv,TD.isAgg,resV,↓reduceIte,Nat.reduceEqDiff,reduceCtorEq,Nat.reduceAdd,Nat.reduceMul,Nat.reduceLeDiff,quietOp,blindOp,Int.reduceEq,Int.reduceLT,Int.reduceLE,Nat.reduceLT,tiA, h8, h7, h0, h1, hr, hs1]
      refine ⟨⟨by omega, by omega⟩, (hp _ (getD_memI (by omega))).to ?_⟩
      cases hb : p (l.getD a 0) with
      | true =>
        try simp (disch := first | omega | (simp only [ints_length, List.length_replicate, List.length_set, bools_length, metL_length] <;> omega)) only [Sall,evalOp,init,binA_s,binE,binI,unE,convE,okNil,builtE,gv,TD.isAgg,resV,↓reduceIte,Nat.reduceEqDiff,reduceCtorEq,Nat.reduceAdd,Nat.reduceMul,Nat.reduceLeDiff,quietOp,blindOp,Int.reduceEq,Int.reduceLT,Int.reduceLE,Nat.reduceLT,tiA, h8, h7, h0, h1, is]
        rw [firstI_at (p := fun i => p (l.getD i 0)) (by omega) hb hall]
      | false =>
        try simp (disch := first | omega | (simp only [ints_length, List.length_replicate, List.length_set, bools_length, metL_length] <;> omega)) only [Sall,evalOp,init,binA_s,binE,binI,unE,convE,okNil,builtE,gv,TD.isAgg,resV,↓reduceIte,Nat.reduceEqDiff,reduceCtorEq,Nat.reduceAdd,Nat.reduceMul,Nat.reduceLeDiff,quietOp,blindOp,Int.reduceEq,Int.reduceLT,Int.reduceLE,Nat.reduceLT,tiA, h8, h7, h0, h1, w64]
        refine ⟨k - (a + 1), by omega, a + 1, rfl, by omega, by omega, fun x hx => ?_⟩
        by_cases e : x = a
        · rw [e]; exact hb
        · exact hall x (by omega)
    · try simp (disch := first | omega | (simp only [ints_length, List.length_replicate, List.length_set, bools_length, metL_length] <;> omega)) only [Sall,evalOp,init,binA_s,binE,binI,unE,convE,okNil,builtE,gv,TD.isAgg,resV,↓reduceIte,Nat.reduceEqDiff,reduceCtorEq,Nat.reduceAdd,Nat.reduceMul,Nat.reduceLeDiff,quietOp,blindOp,Int.reduceEq,Int.reduceLT,Int.reduceLE,Nat.reduceLT,tiA, is]
      rw [firstI_none (p := fun i => p (l.getD i 0)) fun x hx => hall x (by omega)]
theorem containsFuncM_c (g : FuncId) (cap : List Value) (p : Int → Bool) (v : Value) (k : Nat) (l : List Int) (H : AH) (hv : Rd 1 H v k l) (hk : k ≤ 4294967296)
    (hp : ∀ x : Int, x ∈ l → ACalls Tryz.prog g (.int .i64 x :: cap) H (is (.bool (p x)) H)) :
    ACalls Tryz.prog 61 [v, .func (.func g) #[] cap.toArray] H (is (.bool (l.any p)) H) := by
  have hlk := hv.lenK1
  refine acalls_of_awp [.tmp 4] Tryz.func61 (by kernel_rfl) rfl rfl (Nat.le_of_ble_eq_true rfl) (by kernel_rfl) ?_
  try simp (disch := first | omega | (simp only [ints_length, List.length_replicate, List.length_set, bools_length, metL_length] <;> omega)) only [Sall,evalOp,init,binA_s,binE,binI,unE,convE,okNil,builtE,gv,TD.isAgg,resV,↓reduceIte,Nat.reduceEqDiff,reduceCtorEq,Nat.reduceAdd,Nat.reduceMul,Nat.reduceLeDiff,quietOp,blindOp,Int.reduceEq,Int.reduceLT,Int.reduceLE,Nat.reduceLT,tiA, true_and]
  refine (indexFuncM_c g cap p v k l H hv hk hp).to ?_
  have e : ((List.range k).any fun i => p (l.getD i 0)) = l.any p := by
    rw [Bool.eq_iff_iff, List.any_eq_true, List.any_eq_true]
    constructor
    · rintro ⟨i, hi, h⟩
      rw [List.mem_range] at hi
      exact ⟨_, getD_memI (by omega), h⟩
    · rintro ⟨x, hx, h⟩
      obtain ⟨i, hi, rfl⟩ := List.mem_iff_getElem.1 hx
      refine ⟨i, List.mem_range.2 (by omega), ?_⟩
      rw [List.getD_eq_getElem?_getD, List.getElem?_eq_getElem hi]
      exact h
  try simp (disch := first | omega | (simp only [ints_length, List.length_replicate, List.length_set, bools_length, metL_length] <;> omega)) only [Sall,evalOp,init,binA_s,binE,binI,unE,convE,okNil,builtE,gv,TD.isAgg,resV,↓reduceIte,Nat.reduceEqDiff,reduceCtorEq,Nat.reduceAdd,Nat.reduceMul,Nat.reduceLeDiff,quietOp,blindOp,Int.reduceEq,Int.reduceLT,Int.reduceLE,Nat.reduceLT,tiA, is, firstI_any, e]
theorem condC_cutT {P : Program} {A : Code} {Q : Exit → T → AH → Prop} {N : T → AH → Prop} {t : T} {H : AH} {b : Bool} (M : T → AH → Prop) (hf : b = false → M t H) (ht : b = true → awp P A (seqQ M Q) t H) (hN : ∀ t H, M t H → N t H) :
    condC (some (.bool b)) (awp P A (seqQ N Q) t H) (N t H) := by
  cases b with
  | false => exact hN _ _ (hf rfl)
  | true => exact awp_mono A _ _ t H (seqQ_mono hN fun _ _ _ h => h) (ht rfl)
theorem tL_end (c : CellsT) (n g : Nat) (cb : FuncId) (caps : List Value) (mv : Value) (M : List (List Int)) (P : List Int) (i : Nat) (K Z : List Th) (x : Th) : tL c n g cb caps mv M P i (K ++ (Z ++ [x])) = tL c n g cb caps mv M P i (K ++ Z) ++ [x] := by
  unfold tL
  simp only [List.append_assoc, List.cons_append]
theorem keepT {b0 : Nat} {H : AH} {c : CellsT} {n g : Nat} {cb : FuncId} {caps : List Value} {mv : Value} {M : List (List Int)} {P : List Int} {i i' : Nat} {K Z : List Th} (hG : GoodK i (ints P) i' K) (h : OwX b0 H (tL c n g cb caps mv M P i' (K ++ Z))) :
    ∃ i', (i' = i ∧ OwX b0 H (tL c n g cb caps mv M P i' Z)) ∨ ∃ r, PreK i (ints P) r ∧ OwX b0 H (tL c n g cb caps mv M P i' (.row i r :: Z)) := by
  rcases hG with ⟨rfl, rfl⟩ | ⟨r, rfl, hr⟩
  · exact ⟨_, .inl ⟨rfl, h⟩⟩
  · exact ⟨_, .inr ⟨r, hr, h⟩⟩
theorem metL_unset (n : Nat) (P : List Int) (a : Nat) (ha : a < n) (h : P.contains (a : Int) = false) : (bools (metL n (P ++ [(a : Int)]))).set a (.bool false) = bools (metL n P) := by
  unfold bools metL
  apply List.ext_getElem?
  intro j
  rw [List.getElem?_set]
  simp only [List.length_map, List.length_range, List.getElem?_map, List.getElem?_range, List.map_map]
  by_cases e : a = j
  · subst e
    rw [if_pos rfl, if_pos ha, List.getElem?_range ha]
    simp only [Option.map_some, Function.comp, h]
  · rw [if_neg e]
    by_cases hj : j < n
    · rw [List.getElem?_range hj]
      simp only [Option.map_some, Function.comp]
      have e1 : (P ++ [(a : Int)]).contains (j : Int) = P.contains (j : Int) := by
        rw [Bool.eq_iff_iff]
        simp only [List.contains_iff_mem, List.mem_append, List.mem_singleton]
        exact ⟨fun h => h.elim id fun h => by omega, fun h => .inl h⟩
      rw [e1]
    · rw [List.getElem?_eq_none (by simp; omega)]
      rfl
theorem putT_c {σ : Type} {n g : Nat} {cb : FuncId} {caps : List Value} {b0 : Nat} {Inv Fin : σ → AH → Prop} {step : σ → List Int → Bool × σ} (hC : CallT n g cb caps b0 Inv Fin step) (hg : 2 ≤ g) (hn25 : n ≤ 25) (c : CellsT) (mv : Value) (hone : mv.oneCell' = true) (M : List (List Int)) (hM : SqM n M)
    (hsym : ∀ a b, a < n → b < n → (M.getD a []).getD b 0 = (M.getD b []).getD a 0 ∧ 0 ≤ (M.getD a []).getD b 0) : ∀ (f : Nat) (P : List Int) (s : σ) (i : Nat) (Z : List Th) (H : AH), P.length + f = n → PreN n g P → Inv s H → OwX b0 H (tL c n g cb caps mv M P i Z) →
    ACalls Tryz.prog 59 c.caps H (fun v H' => v = .bool (foldE step (nxT n g M f P) s).1 ∧ H.next ≤ H'.next ∧ ((foldE step (nxT n g M f P) s).1 = true → Inv (foldE step (nxT n g M f P) s).2 H') ∧ ((foldE step (nxT n g M f P) s).1 = false → FinAt b0 H.next (Fin (foldE step (nxT n g M f P) s).2) H') ∧
      ∃ i', (i' = i ∧ OwX b0 H' (tL c n g cb caps mv M P i' Z)) ∨ ∃ r, PreK i (ints P) r ∧ OwX b0 H' (tL c n g cb caps mv M P i' (.row i r :: Z))) := by
  intro f
  induction f with
  | zero =>
    intro P s i Z H hPf hP hI hO
    refine ACalls.wf (by kernel_rfl) fun hs => acalls_of_awp [.tmp 7] Tryz.func59 (by kernel_rfl) rfl rfl (Nat.le_of_ble_eq_true rfl) (by kernel_rfl) ?_
    obtain ⟨B, eB, o⟩ := hO
    have hrs := o.capRs 9 rfl
    have qn := (o.rowAt 0 rfl).1
    have qw := (o.rowAt 2 rfl).1
    have ql := (o.rowAt 8 rfl).1
    have e0 : ((P.length : Int) == (n : Int)) = true := by rw [show (P.length : Int) = (n : Int) by omega]; exact beq_self_eq_true _
    try simp (disch := first | omega | (simp only [ints_length, List.length_replicate, List.length_set, bools_length, metL_length] <;> omega)) only [Sall,evalOp,init,binA_s,binE,binI,unE,convE,okNil,builtE,gv,TD.isAgg,resV,↓reduceIte,Nat.reduceEqDiff,reduceCtorEq,Nat.reduceAdd,Nat.reduceMul,Nat.reduceLeDiff,quietOp,blindOp,Int.reduceEq,Int.reduceLT,Int.reduceLE,Nat.reduceLT,tiA,tiXA, CellsT.caps, ql]
    refine (sizeT_c _ P H hrs.rd (by omega)).to ?_
    try simp (disch := first | omega | (simp only [ints_length, List.length_replicate, List.length_set, bools_length, metL_length] <;> omega)) only [Sall,evalOp,init,binA_s,binE,binI,unE,convE,okNil,builtE,gv,TD.isAgg,resV,↓reduceIte,Nat.reduceEqDiff,reduceCtorEq,Nat.reduceAdd,Nat.reduceMul,Nat.reduceLeDiff,quietOp,blindOp,Int.reduceEq,Int.reduceLT,Int.reduceLE,Nat.reduceLT,tiA,tiXA, qn, e0, qw, ql]
    rw [show nxT n g M 0 P = [P] from rfl, foldE_one]
    have hPn : P.length = n := by omega
    refine (hC.call s P _ H hI (by rw [← eB]; exact o.next) hs hP hPn (hPn ▸ hrs)).fin ?_
    rintro H' ⟨k1, k2, k3, k4, k5⟩
    try simp (disch := first | omega | (simp only [ints_length, List.length_replicate, List.length_set, bools_length, metL_length] <;> omega)) only [Sall,evalOp,init,binA_s,binE,binI,unE,convE,okNil,builtE,gv,TD.isAgg,resV,↓reduceIte,Nat.reduceEqDiff,reduceCtorEq,Nat.reduceAdd,Nat.reduceMul,Nat.reduceLeDiff,quietOp,blindOp,Int.reduceEq,Int.reduceLT,Int.reduceLE,Nat.reduceLT,tiA,tiXA, true_and]
    exact ⟨k1, k4, k5, i, .inl ⟨rfl, OwX.below ⟨B, eB, o⟩ k3 k1 k2⟩⟩
  | succ f ih =>
    intro P s i Z H hPf hP hI hO
    refine ACalls.wf (by kernel_rfl) fun hs => acalls_of_awp [.tmp 7] Tryz.func59 (by kernel_rfl) rfl rfl (Nat.le_of_ble_eq_true rfl) (by kernel_rfl) ?_
    obtain ⟨B, eB, o⟩ := hO
    have hrs := o.capRs 9 rfl
    have qn := (o.rowAt 0 rfl).1
    have qg := (o.rowAt 1 rfl).1
    have ql := (o.rowAt 8 rfl).1
    have e0 : ((P.length : Int) == (n : Int)) = false := beq_eq_false_iff_ne.2 (by omega)
    obtain ⟨FI, eFI⟩ : ∃ FI, FI = P.length / g * g := ⟨_, rfl⟩
    have hFI : FI ≤ P.length := by rw [eFI]; exact Nat.div_mul_le_self _ _
    obtain ⟨D, eD⟩ : ∃ D, D = P.length / g := ⟨_, rfl⟩
    have ed : Int.tdiv (P.length : Int) (g : Int) = (D : Int) := by rw [eD]; rfl
    have em : (D : Int) * (g : Int) = (FI : Int) := by rw [eFI, eD]; exact (Int.natCast_mul _ _).symm
    have hg0 : ¬ (g : Int) = 0 := by omega
    have hPn := hP.len
    have hdl : D ≤ P.length := by rw [eD]; exact Nat.div_le_self _ _
    clear eD
    try simp (disch := first | omega | (simp only [ints_length, List.length_replicate, List.length_set, bools_length, metL_length] <;> omega)) only [Sall,evalOp,init,binA_s,binE,binI,unE,convE,okNil,builtE,gv,TD.isAgg,resV,↓reduceIte,Nat.reduceEqDiff,reduceCtorEq,Nat.reduceAdd,Nat.reduceMul,Nat.reduceLeDiff,quietOp,blindOp,Int.reduceEq,Int.reduceLT,Int.reduceLE,Nat.reduceLT,tiA,tiXA, CellsT.caps, ql]
    refine (sizeT_c _ P H hrs.rd (by omega)).to ?_
    try simp (disch := first | omega | (simp only [ints_length, List.length_replicate, List.length_set, bools_length, metL_length] <;> omega)) only [Sall,evalOp,init,binA_s,binE,binI,unE,convE,okNil,builtE,gv,TD.isAgg,resV,↓reduceIte,Nat.reduceEqDiff,reduceCtorEq,Nat.reduceAdd,Nat.reduceMul,Nat.reduceLeDiff,quietOp,blindOp,Int.reduceEq,Int.reduceLT,Int.reduceLE,Nat.reduceLT,tiA,tiXA, qn, e0]
    refine draw_id (by kernel_rfl) (by kernel_rfl) ?_
    try simp (disch := first | omega | (simp only [ints_length, List.length_replicate, List.length_set, bools_length, metL_length] <;> omega)) only [Sall,evalOp,init,binA_s,binE,binI,unE,convE,okNil,builtE,gv,TD.isAgg,resV,↓reduceIte,Nat.reduceEqDiff,reduceCtorEq,Nat.reduceAdd,Nat.reduceMul,Nat.reduceLeDiff,quietOp,blindOp,Int.reduceEq,Int.reduceLT,Int.reduceLE,Nat.reduceLT,tiA,tiXA, ql, qg, hg0, ed, em, w64]
    refine tail_run rfl hFI ?_
    try simp (disch := first | omega | (simp only [ints_length, List.length_replicate, List.length_set, bools_length, metL_length] <;> omega)) only [Sall,evalOp,init,binA_s,binE,binI,unE,convE,okNil,builtE,gv,TD.isAgg,resV,↓reduceIte,Nat.reduceEqDiff,reduceCtorEq,Nat.reduceAdd,Nat.reduceMul,Nat.reduceLeDiff,quietOp,blindOp,Int.reduceEq,Int.reduceLT,Int.reduceLE,Nat.reduceLT,tiA,tiXA, true_and]
    obtain ⟨gl, egl⟩ : ∃ gl, gl = P.length - FI := ⟨_, rfl⟩
    obtain ⟨fst, efst⟩ : ∃ fst, fst = fstN g P := ⟨_, rfl⟩
    have hfn : fst ≤ n := by
      rw [efst]
      unfold fstN
      split
      · omega
      · have hr := hP.rng (P.getD (P.length - 1) 0) (getD_memI (by
          rcases P with _ | ⟨x, P⟩
          · rename_i hm; simp at hm
          · simp))
        omega
    obtain ⟨rr, hrr1, hrr2⟩ := GoodK.get (i := i) (i' := i) (K := []) (Z := Z) (.inl ⟨rfl, rfl⟩) o
    have hrd := rd_tail hrr1 hrr2 hFI
    rw [← egl] at hrd ⊢
    refine condC_cutT (fun t' H' => H' = H ∧ t' 9 = .int .i64 fst ∧ t' 10 = .slice (some ⟨i, FI, some 1⟩) gl gl ∧ t' 8 = .int .i64 P.length ∧ t' 0 = .pointer (some ⟨c.lc, 0, none⟩) ∧ t' 1 = .pointer (some ⟨c.nc, 0, none⟩) ∧ t' 2 = .pointer (some ⟨c.wc, 0, none⟩) ∧ t' 3 = .pointer (some ⟨c.gc, 0, none⟩) ∧ t' 4 = .pointer (some ⟨c.uc, 0, none⟩) ∧ t' 5 = .pointer (some ⟨c.mc, 0, none⟩) ∧ t' 6 = .pointer (some ⟨c.pc, 0, none⟩)) (fun hb => ?_) (fun hb => ?_) ?_
    · have h0 : gl = 0 := by
        have := of_decide_eq_false hb
        omega
      have hf0 : fst = 0 := by
        rw [efst]
        unfold fstN
        rw [if_pos (grp_nil.1 (by rw [← eFI]; omega))]
      rw [hf0]
      try simp (disch := first | omega | (simp only [ints_length, List.length_replicate, List.length_set, bools_length, metL_length] <;> omega)) only [Sall,evalOp,init,binA_s,binE,binI,unE,convE,okNil,builtE,gv,TD.isAgg,resV,↓reduceIte,Nat.reduceEqDiff,reduceCtorEq,Nat.reduceAdd,Nat.reduceMul,Nat.reduceLeDiff,quietOp,blindOp,Int.reduceEq,Int.reduceLT,Int.reduceLE,Nat.reduceLT,tiA,tiXA, Int.natCast_zero]
    · have hgl : 0 < gl := by
        have := of_decide_eq_true hb
        omega
      have hm : ¬ P.length % g = 0 := fun h => by
        have := grp_nil.2 h
        omega
      obtain ⟨qi, qo, qu, qc, qr, qe, q1, q2, q3, _⟩ := hrd.get hgl
      cases qe
      have q4 := q3 (gl - 1) (by omega)
      have hlast : (P.drop FI).getD (gl - 1) 0 = P.getD (P.length - 1) 0 := by
        rw [List.getD_eq_getElem?_getD, List.getElem?_drop, ← List.getD_eq_getElem?_getD, show FI + (gl - 1) = P.length - 1 by omega]
      rw [hlast] at q4
      have hr := hP.rng (P.getD (P.length - 1) 0) (getD_memI (by omega))
      have hfe : P.getD (P.length - 1) 0 + 1 = (fst : Int) := by
        rw [efst]
        unfold fstN
        rw [if_neg hm]
        omega
      have egm : (gl : Int) - 1 = ((gl - 1 : Nat) : Int) := by omega
      try simp (disch := first | omega | (simp only [ints_length, List.length_replicate, List.length_set, bools_length, metL_length] <;> omega)) only [Sall,evalOp,init,binA_s,binE,binI,unE,convE,okNil,builtE,gv,TD.isAgg,resV,↓reduceIte,Nat.reduceEqDiff,reduceCtorEq,Nat.reduceAdd,Nat.reduceMul,Nat.reduceLeDiff,quietOp,blindOp,Int.reduceEq,Int.reduceLT,Int.reduceLE,Nat.reduceLT,tiA,tiXA, egm, q1, q4, hfe, w64]
      omega
    · rintro t H' ⟨rfl, h9, h10, h8, h0, h1, h2, h3, h4, h5, h6⟩
      try simp (disch := first | omega | (simp only [ints_length, List.length_replicate, List.length_set, bools_length, metL_length] <;> omega)) only [Sall,evalOp,init,binA_s,binE,binI,unE,convE,okNil,builtE,gv,TD.isAgg,resV,↓reduceIte,Nat.reduceEqDiff,reduceCtorEq,Nat.reduceAdd,Nat.reduceMul,Nat.reduceLeDiff,quietOp,blindOp,Int.reduceEq,Int.reduceLT,Int.reduceLE,Nat.reduceLT,tiA,tiXA, h9]
      obtain ⟨F, eF⟩ : ∃ F, F = fun a : Nat => nxT n g M f (P ++ [(a : Int)]) := ⟨_, rfl⟩
      obtain ⟨one, eone⟩ : ∃ one, one = decide (P.length % g = 0) := ⟨_, rfl⟩
      rw [nxT_succ, ← eF, ← eone]
      have hsk : nxL F (okN g M P) one n 0 = nxL F (okN g M P) one (n - fst) fst :=
        nxL_skip (F := F) (ok := okN g M P) (one := one) hfn fst 0 (by omega) fun d _ hd => okN_low hP (by rw [← efst]; exact hd)
      rw [hsk]
      clear hsk hrr1 hrd hrr2
      refine awp_loop (fun m t H2 => ∃ (a : Nat) (s' : σ) (i' : Nat) (K : List Th) (ai : Nat), m = n - a ∧ fst ≤ a ∧ a ≤ n ∧ t 11 = .pointer (some ⟨ai, 0, none⟩) ∧ t 10 = .slice (some ⟨i, FI, some 1⟩) gl gl ∧ t 8 = .int .i64 P.length ∧ t 0 = .pointer (some ⟨c.lc, 0, none⟩) ∧ t 1 = .pointer (some ⟨c.nc, 0, none⟩) ∧ t 2 = .pointer (some ⟨c.wc, 0, none⟩) ∧ t 3 = .pointer (some ⟨c.gc, 0, none⟩) ∧ t 4 = .pointer (some ⟨c.uc, 0, none⟩) ∧ t 5 = .pointer (some ⟨c.mc, 0, none⟩) ∧ t 6 = .pointer (some ⟨c.pc, 0, none⟩) ∧
        GoodK i (ints P) i' K ∧ foldE step (nxL F (okN g M P) one (n - fst) fst) s = foldE step (nxL F (okN g M P) one (n - a) a) s' ∧ Inv s' H2 ∧ H'.next ≤ H2.next ∧ OwX b0 H2 (tL c n g cb caps mv M P i' (K ++ Z) ++ [.row ai ⟨2, true, [.int .i64 a]⟩])) (n - fst) ?_ ?_
      · refine ⟨fst, s, i, [], H'.next, rfl, Nat.le_refl _, hfn, ?_⟩
        have o1 := (o.push ⟨2, true, [.int .i64 0]⟩).putEnd [.int .i64 fst]
        try simp (disch := first | omega | (simp only [ints_length, List.length_replicate, List.length_set, bools_length, metL_length] <;> omega)) only [Sall,evalOp,init,binA_s,binE,binI,unE,convE,okNil,builtE,gv,TD.isAgg,resV,↓reduceIte,Nat.reduceEqDiff,reduceCtorEq,Nat.reduceAdd,Nat.reduceMul,Nat.reduceLeDiff,quietOp,blindOp,Int.reduceEq,Int.reduceLT,Int.reduceLE,Nat.reduceLT,tiA,tiXA, h10, h8, h0, h1, h2, h3, h4, h5, h6]
        exact ⟨.inl ⟨rfl, rfl⟩, hC.low _ _ _ hI fun j hj => by rw [o1.low j (by omega), o.low j (by omega)], by omega, ⟨B, eB, o1⟩⟩
      · rintro m t H2 ⟨a, s', i', K, ai, hm, hfa, han, h11, h10, h8, h0, h1, h2, h3, h4, h5, h6, hG, hEq, hI2, hn2, hO2⟩
        rw [hEq]
        clear hEq
        obtain ⟨B2, eB2, o2⟩ := hO2
        have qa := (o2.front.rowAt 0 rfl).1
        have o3 := o2.left
        have qn := (o3.rowAt 0 rfl).1
        have qu := (o3.rowAt 6 rfl).1
        by_cases hlt : a < n
        rotate_left
        · have e1 : decide ((a : Int) < (n : Int)) = false := decide_eq_false (by omega)
          have hz : nxL F (okN g M P) one (n - a) a = [] := by rw [show n - a = 0 by omega]; rfl
          rw [hz, show foldE step [] s' = (true, s') from rfl]
          try simp (disch := first | omega | (simp only [ints_length, List.length_replicate, List.length_set, bools_length, metL_length] <;> omega)) only [Sall,evalOp,init,binA_s,binE,binI,unE,convE,okNil,builtE,gv,TD.isAgg,resV,↓reduceIte,Nat.reduceEqDiff,reduceCtorEq,Nat.reduceAdd,Nat.reduceMul,Nat.reduceLeDiff,quietOp,blindOp,Int.reduceEq,Int.reduceLT,Int.reduceLE,Nat.reduceLT,tiA,tiXA, h11, qa, h1, qn, e1]
          exact ⟨hn2, fun _ => hI2, fun h => h.elim, keepT hG ⟨B2, eB2, o3⟩⟩
        have e1 : decide ((a : Int) < (n : Int)) = true := decide_eq_true (by omega)
        have hna : n - a = n - (a + 1) + 1 := by omega
        have hskip : okN g M P a = false → nxL F (okN g M P) one (n - a) a = nxL F (okN g M P) one (n - (a + 1)) (a + 1) := fun h => by rw [hna, nxL_succ, if_neg (by rw [h]; simp)]
        have hok := okN_at hsym hP hlt (M := M) (g := g) (by rw [← efst]; exact hfa)
        have hbi := (o3.getV 7 rfl).2.2
        have hml : (metL n P).length = n := metL_length _ _
        have hm0 := metL_getD n P (a : Int) (by omega)
        have hm1' : (bools (metL n P))[a]? = some (.bool (P.contains (a : Int))) := by
          rw [bools_get? _ _ (by omega)]
          rw [Int.toNat_natCast] at hm0
          rw [hm0]
        obtain ⟨ct, ect⟩ : ∃ ct, ct = P.contains (a : Int) := ⟨_, rfl⟩
        rw [← ect] at hok hm1' hm0
        cases ct with
        | true =>
          rw [hskip (by rw [hok]; rfl)]
          have hO4 := nextT (ty := 2) (x := [.int .i64 0]) (y := [.int .i64 a]) [.int .i64 ((a + 1 : Nat) : Int)] ⟨B2, eB2, o2⟩
          try simp (disch := first | omega | (simp only [ints_length, List.length_replicate, List.length_set, bools_length, metL_length] <;> omega)) only [Sall,evalOp,init,binA_s,binE,binI,unE,convE,okNil,builtE,gv,TD.isAgg,resV,↓reduceIte,Nat.reduceEqDiff,reduceCtorEq,Nat.reduceAdd,Nat.reduceMul,Nat.reduceLeDiff,quietOp,blindOp,Int.reduceEq,Int.reduceLT,Int.reduceLE,Nat.reduceLT,tiA,tiXA, h11, qa, h1, qn, e1, h4, qu, hbi, hm1']
          (repeat refine And.intro (by omega) ?_)
          try simp (disch := first | omega | (simp only [ints_length, List.length_replicate, List.length_set, bools_length, metL_length] <;> omega)) only [Sall,evalOp,init,binA_s,binE,binI,unE,convE,okNil,builtE,gv,TD.isAgg,resV,↓reduceIte,Nat.reduceEqDiff,reduceCtorEq,Nat.reduceAdd,Nat.reduceMul,Nat.reduceLeDiff,quietOp,blindOp,Int.reduceEq,Int.reduceLT,Int.reduceLE,Nat.reduceLT,tiA,tiXA, h11, qa, h1, qn, e1, h4, qu, hbi, hm1', w64]
          exact ⟨n - (a + 1), by omega, a + 1, s', i', K, H2.next, rfl, by omega, by omega, rfl, h10, h8, h0, h2, h3, h5, h6, hG, rfl, hC.low _ _ _ hI2 (nextLow (by have := o2.next; omega)), by omega, hO4⟩
        | false =>
          have qm := (o3.rowAt 3 rfl).1
          have hmv := o3.sees 4 rfl
          obtain ⟨rr, hrr1, hrr2⟩ := GoodK.get hG o3
          have hrd := rd_tail hrr1 hrr2 hFI
          rw [← egl] at hrd
          rw [← eFI] at hok
          have hcf := containsFuncM_c 62 [.pointer (some ⟨c.mc, 0, none⟩), .pointer (some ⟨ai, 0, none⟩)] (fun b => decide (0 < (M.getD a []).getD b.toNat 0)) _ gl (P.drop FI) H2 hrd (by omega) (fun x hx => metT_c c.mc ai mv M n a x H2 hM hn25 hlt (hP.rng x (List.mem_of_mem_drop hx)) qm qa hmv)
          generalize ((P.drop FI).any fun b => decide (0 < (M.getD a []).getD b.toNat 0)) = ay at hcf hok
          have hmem : ∀ v ∈ [Value.pointer (some ⟨c.mc, 0, none⟩), .pointer (some ⟨ai, 0, none⟩)], v.oneCell' = true := by simp [Value.oneCell']
          try simp (disch := first | omega | (simp only [ints_length, List.length_replicate, List.length_set, bools_length, metL_length] <;> omega)) only [Sall,evalOp,init,binA_s,binE,binI,unE,convE,okNil,builtE,gv,TD.isAgg,resV,↓reduceIte,Nat.reduceEqDiff,reduceCtorEq,Nat.reduceAdd,Nat.reduceMul,Nat.reduceLeDiff,quietOp,blindOp,Int.reduceEq,Int.reduceLT,Int.reduceLE,Nat.reduceLT,tiA,tiXA, h11, qa, h1, qn, e1, h4, qu, hbi, hm1', h10, h5]
          (repeat refine And.intro (by omega) ?_)
          try simp (disch := first | omega | (simp only [ints_length, List.length_replicate, List.length_set, bools_length, metL_length] <;> omega)) only [Sall,evalOp,init,binA_s,binE,binI,unE,convE,okNil,builtE,gv,TD.isAgg,resV,↓reduceIte,Nat.reduceEqDiff,reduceCtorEq,Nat.reduceAdd,Nat.reduceMul,Nat.reduceLeDiff,quietOp,blindOp,Int.reduceEq,Int.reduceLT,Int.reduceLE,Nat.reduceLT,tiA,tiXA, h11, qa, h1, qn, e1, h4, qu, hbi, hm1', h10, h5]
          refine hcf.to ?_
          cases ay with
          | true =>
            rw [hskip (by rw [hok]; rfl)]
            have hO4 := nextT (ty := 2) (x := [.int .i64 0]) (y := [.int .i64 a]) [.int .i64 ((a + 1 : Nat) : Int)] ⟨B2, eB2, o2⟩
            try simp (disch := first | omega | (simp only [ints_length, List.length_replicate, List.length_set, bools_length, metL_length] <;> omega)) only [Sall,evalOp,init,binA_s,binE,binI,unE,convE,okNil,builtE,gv,TD.isAgg,resV,↓reduceIte,Nat.reduceEqDiff,reduceCtorEq,Nat.reduceAdd,Nat.reduceMul,Nat.reduceLeDiff,quietOp,blindOp,Int.reduceEq,Int.reduceLT,Int.reduceLE,Nat.reduceLT,tiA,tiXA, h11, qa, w64]
            exact ⟨n - (a + 1), by omega, a + 1, s', i', K, H2.next, rfl, by omega, by omega, rfl, h10, h8, h0, h1, h2, h3, h4, h5, h6, hG, rfl, hC.low _ _ _ hI2 (nextLow (by have := o2.next; omega)), by omega, hO4⟩
          | false =>
            rw [hna, nxL_succ, if_pos (show okN g M P a = true by rw [hok]; rfl), foldE_append]
            have o4 : Ow B2 H2 (tL c n g cb caps mv M P i' (K ++ (Z ++ [.row ai ⟨2, true, [.int .i64 a]⟩]))) := by rw [tL_end]; exact o2
            have hput := metL_put n P (a : Int) (by omega)
            rw [Int.toNat_natCast] at hput
            have o5 : Ow B2 (H2.setCells c.ui (bools (metL n (P ++ [(a : Int)])))) (tA c n g cb caps mv M (P ++ [(a : Int)]) (lvF i' P.length) ++ .cap 1 2 (lvF i' P.length) P.length (ints P) :: (K ++ (Z ++ [.row ai ⟨2, true, [.int .i64 a]⟩]))) := o4.put 7 rfl (vs' := bools (metL n (P ++ [(a : Int)]))) (by rw [bools_length, bools_length, metL_length, metL_length])
            have ql2 := (o3.rowAt 8 rfl).1
            have n1 : ¬ c.lc = c.ui := o3.ne (j := 8) (k := 7) rfl rfl (by omega) (fun S h => h.1) (fun S h => sl_mem S h)
            have n2 : ¬ ai = c.ui := o2.front.ne (j := 0) (k := 8) rfl rfl (by omega) (fun S h => h.1) (fun S h => sl_mem S h)
            have n3 : ¬ c.pc = c.lc := o3.ne (j := 5) (k := 8) rfl rfl (by omega) (fun S h => h.1) (fun S h => h.1)
            have n4 : ¬ c.uc = c.lc := o3.ne (j := 6) (k := 8) rfl rfl (by omega) (fun S h => h.1) (fun S h => h.1)
            have n5 : ¬ c.ui = c.lc := fun h => n1 h.symm
            have zz : zeros 1 [.int .i64 0] = [.int .i64 0] := rfl
            have hih := ih (P ++ [(a : Int)]) s'
            have eF2 : nxT n g M f (P ++ [(a : Int)]) = F a := by rw [eF]
            rw [eF2] at hih
            have el : (P ++ [(a : Int)]).length = P.length + 1 := by simp
            have hPa := hP.snoc (M := M) (by omega) hlt (by omega) (show okN g M P a = true by rw [hok]; rfl)
            have hIs : ∀ H4 : AH, (∀ j, j < b0 → H4.row j = H2.row j) → Inv s' H4 := fun H4 h => hC.low _ _ _ hI2 h
            generalize foldE step (F a) s' = RF at hih ⊢
            try simp (disch := first | omega | (simp only [ints_length, List.length_replicate, List.length_set, bools_length, metL_length] <;> omega)) only [Sall,evalOp,init,binA_s,binE,binI,unE,convE,okNil,builtE,gv,TD.isAgg,resV,↓reduceIte,Nat.reduceEqDiff,reduceCtorEq,Nat.reduceAdd,Nat.reduceMul,Nat.reduceLeDiff,quietOp,blindOp,Int.reduceEq,Int.reduceLT,Int.reduceLE,Nat.reduceLT,tiA,tiXA, h11, qa, h4, qu, hbi, hput, h0, ql2, n1, n2, zz, slCells, w64]
            (repeat refine And.intro (by omega) ?_)
            try simp (disch := first | omega | (simp only [ints_length, List.length_replicate, List.length_set, bools_length, metL_length] <;> omega)) only [Sall,evalOp,init,binA_s,binE,binI,unE,convE,okNil,builtE,gv,TD.isAgg,resV,↓reduceIte,Nat.reduceEqDiff,reduceCtorEq,Nat.reduceAdd,Nat.reduceMul,Nat.reduceLeDiff,quietOp,blindOp,Int.reduceEq,Int.reduceLT,Int.reduceLE,Nat.reduceLT,tiA,tiXA, h11, qa, h4, qu, hbi, hput, h0, ql2, n1, n2, zz, slCells, w64]
            refine ⟨by rw [bools_length, metL_length]; omega, Ow.appT hG (o5.tmp _) rfl (by decide) (by omega) ?_⟩
            intro i1 K1 H5 hG1 n5' o6
            have q5l := (o6.rowAt 8 rfl).1
            have q5p := (o6.rowAt 5 rfl).1
            have hlv : (lvF i1 (P.length + 1)).oneCell' = true := rfl
            have o7 : Ow B2 (H5.setCells c.lc [lvF i1 (P.length + 1)]) (tL c n g cb caps mv M (P ++ [(a : Int)]) i1 (K1 ++ (Z ++ [.row ai ⟨2, true, [.int .i64 a]⟩]))) := by
              unfold tL
              rw [el, ← ints_append]
              exact o6.putRow 8 rfl (cs' := [lvF i1 (P.length + 1)])
            try simp (disch := first | omega | (simp only [ints_length, List.length_replicate, List.length_set, bools_length, metL_length] <;> omega)) only [Sall,evalOp,init,binA_s,binE,binI,unE,convE,okNil,builtE,gv,TD.isAgg,resV,↓reduceIte,Nat.reduceEqDiff,reduceCtorEq,Nat.reduceAdd,Nat.reduceMul,Nat.reduceLeDiff,quietOp,blindOp,Int.reduceEq,Int.reduceLT,Int.reduceLE,Nat.reduceLT,tiA,tiXA, h0, q5l, hlv, h6, q5p, n3]
            refine (hih i1 (K1 ++ (Z ++ [.row ai ⟨2, true, [.int .i64 a]⟩])) _ (by rw [el]; omega) hPa (hIs _ fun j hj => by rw [o7.low j (by omega), o4.low j (by omega)]) ⟨B2, eB2, o7⟩).fin ?_
            have n67 : (H5.setCells c.lc [lvF i1 (P.length + 1)]).next = H5.next := rfl
            have n25 : H2.next ≤ H5.next := by rw [AH.push_next, AH.setCells_next] at n5'; omega
            generalize H5.setCells c.lc [lvF i1 (P.length + 1)] = H6 at n67 o7
            rintro H7 ⟨n7, hT7, hF7, i2, hKp⟩
            obtain ⟨K2, B3, hG2, eB3, o8⟩ := hG1.stepX (ms := ints [(a : Int)]) (i2 := i2) (by rw [ints_append]; exact hKp)
            rw [el] at o8
            have q8l := (o8.rowAt 8 rfl).1
            have q8u := (o8.rowAt 6 rfl).1
            have q8b := (o8.getV 7 rfl).2.2
            have o8e := o8
            rw [tEnd] at o8e
            have q8a := (o8e.front.rowAt 0 rfl).1
            have n6 : ¬ ai = c.lc := o8e.front.ne (j := 0) (k := 9) rfl rfl (by omega) (fun S h => h.1) (fun S h => h.1)
            clear o8e
            have hlv2 : (lvF i2 P.length).oneCell' = true := rfl
            have hun := metL_unset n P a hlt ect.symm
            have hml2 : (metL n (P ++ [(a : Int)])).length = n := metL_length _ _
            have o9 : Ow B3 ((H7.setCells c.lc [lvF i2 P.length]).setCells c.ui (bools (metL n P))) (tL c n g cb caps mv M P i2 (K2 ++ (Z ++ [.row ai ⟨2, true, [.int .i64 a]⟩]))) := by
              have h1 := (o8.putRow 8 rfl (cs' := [lvF i2 P.length])).put 7 rfl (vs' := bools (metL n P)) (by rw [bools_length, bools_length, metL_length, metL_length])
              rw [← ints_append] at h1
              exact Ow.cutT (A := tA c n g cb caps mv M P (lvF i2 P.length)) h1 (ints_length P)
            have o9' := o9
            rw [tL_end] at o9'
            have q9a := (o9'.front.rowAt 0 rfl).1
            have q9g := (o9'.left.rowAt 1 rfl).1
            have hlow9 : ∀ j, j < b0 → ((H7.setCells c.lc [lvF i2 P.length]).setCells c.ui (bools (metL n P))).row j = H7.row j := fun j hj => by rw [o9.low j (by omega), o8.low j (by omega)]
            have hl1 := (o.rowAt 8 rfl).2
            have hl2 := (o.getV 7 rfl)
            obtain ⟨rb, s''⟩ := RF
            try simp (disch := first | omega | (simp only [ints_length, List.length_replicate, List.length_set, bools_length, metL_length] <;> omega)) only [Sall,evalOp,init,binA_s,binE,binI,unE,convE,okNil,builtE,gv,TD.isAgg,resV,↓reduceIte,Nat.reduceEqDiff,reduceCtorEq,Nat.reduceAdd,Nat.reduceMul,Nat.reduceLeDiff,quietOp,blindOp,Int.reduceEq,Int.reduceLT,Int.reduceLE,Nat.reduceLT,tiA,tiXA, h0, q8l, h8]
            refine head_run rfl (by omega) ?_
            try simp (disch := first | omega | (simp only [ints_length, List.length_replicate, List.length_set, bools_length, metL_length] <;> omega)) only [Sall,evalOp,init,binA_s,binE,binI,unE,convE,okNil,builtE,gv,TD.isAgg,resV,↓reduceIte,Nat.reduceEqDiff,reduceCtorEq,Nat.reduceAdd,Nat.reduceMul,Nat.reduceLeDiff,quietOp,blindOp,Int.reduceEq,Int.reduceLT,Int.reduceLE,Nat.reduceLT,tiA,tiXA, h0, h4, h8, h11, q8l, q8u, q8b, q8a, n6, hlv2, hun, n1, n2, n4, n5, hml2, w64]
            (repeat refine And.intro (by omega) ?_)
            try simp (disch := first | omega | (simp only [ints_length, List.length_replicate, List.length_set, bools_length, metL_length] <;> omega)) only [Sall,evalOp,init,binA_s,binE,binI,unE,convE,okNil,builtE,gv,TD.isAgg,resV,↓reduceIte,Nat.reduceEqDiff,reduceCtorEq,Nat.reduceAdd,Nat.reduceMul,Nat.reduceLeDiff,quietOp,blindOp,Int.reduceEq,Int.reduceLT,Int.reduceLE,Nat.reduceLT,tiA,tiXA, h0, h4, h8, h11, q8l, q8u, q8b, q8a, n6, hlv2, hun, n1, n2, n4, n5, hml2, w64]
            refine ⟨by rw [bools_length, hml2]; exact hlt, ?_⟩
            have r9 : ∀ j, j < H7.next → (j < b0 ∨ H'.next ≤ j) → ((H7.setCells c.lc [lvF i2 P.length]).setCells c.ui (bools (metL n P))).row j = H7.row j := fun j j1 j2 => by
              rw [AH.setCells_row, if_neg (by omega), AH.setCells_row, if_neg (by omega)]
            have n9 : ((H7.setCells c.lc [lvF i2 P.length]).setCells c.ui (bools (metL n P))).next = H7.next := rfl
            have hI9 : rb = true → Inv s'' ((H7.setCells c.lc [lvF i2 P.length]).setCells c.ui (bools (metL n P))) := fun h => hC.low _ _ _ (hT7 h) hlow9
            generalize (H7.setCells c.lc [lvF i2 P.length]).setCells c.ui (bools (metL n P)) = H9 at *
            cases rb with
            | false =>
              try simp (disch := first | omega | (simp only [ints_length, List.length_replicate, List.length_set, bools_length, metL_length] <;> omega)) only [Sall,evalOp,init,binA_s,binE,binI,unE,convE,okNil,builtE,gv,TD.isAgg,resV,↓reduceIte,Nat.reduceEqDiff,reduceCtorEq,Nat.reduceAdd,Nat.reduceMul,Nat.reduceLeDiff,quietOp,blindOp,Int.reduceEq,Int.reduceLT,Int.reduceLE,Nat.reduceLT,tiA,tiXA, true_and]
              exact ⟨by omega, fun h => h.elim, fun _ => (hF7 rfl).to (by omega) (by omega) r9, keepT hG2 ⟨B3, eB3, o9'.left⟩⟩
            | true =>
              have er : Int.tmod (P.length : Int) (g : Int) = ((P.length % g : Nat) : Int) := rfl
              by_cases hmo : P.length % g = 0
              · have e6 : (((P.length % g : Nat) : Int) == 0) = true := by rw [hmo]; rfl
                rw [eone, decide_eq_true hmo, if_pos rfl, if_pos rfl, show foldE step [] s'' = (true, s'') from rfl]
                try simp (disch := first | omega | (simp only [ints_length, List.length_replicate, List.length_set, bools_length, metL_length] <;> omega)) only [Sall,evalOp,init,binA_s,binE,binI,unE,convE,okNil,builtE,gv,TD.isAgg,resV,↓reduceIte,Nat.reduceEqDiff,reduceCtorEq,Nat.reduceAdd,Nat.reduceMul,Nat.reduceLeDiff,quietOp,blindOp,Int.reduceEq,Int.reduceLT,Int.reduceLE,Nat.reduceLT,tiA,tiXA, h8, h3, q9g, hg0, er, e6]
                exact ⟨by omega, fun _ => hI9 rfl, fun h => h.elim, keepT hG2 ⟨B3, eB3, o9'.left⟩⟩
              · have e6 : (((P.length % g : Nat) : Int) == 0) = false := beq_eq_false_iff_ne.2 (by omega)
                rw [eone, decide_eq_false hmo, if_pos rfl, if_neg (by simp)]
                have hO9 := nextT (ty := 2) (x := [.int .i64 0]) (y := [.int .i64 a]) [.int .i64 ((a + 1 : Nat) : Int)] ⟨B3, eB3, o9'⟩
                try simp (disch := first | omega | (simp only [ints_length, List.length_replicate, List.length_set, bools_length, metL_length] <;> omega)) only [Sall,evalOp,init,binA_s,binE,binI,unE,convE,okNil,builtE,gv,TD.isAgg,resV,↓reduceIte,Nat.reduceEqDiff,reduceCtorEq,Nat.reduceAdd,Nat.reduceMul,Nat.reduceLeDiff,quietOp,blindOp,Int.reduceEq,Int.reduceLT,Int.reduceLE,Nat.reduceLT,tiA,tiXA, h8, h3, q9g, hg0, er, e6, h11, q9a, w64]
                exact ⟨n - (a + 1), by omega, a + 1, s'', i2, K2, H9.next, rfl, by omega, by omega, rfl, h10, h0, h1, h2, h4, h5, h6, hG2, rfl, hC.low _ _ _ (hI9 rfl) (nextLow (by have := o9.next; omega)), by omega, hO9⟩
end Go.Proofs.YtollphjompimjaaGreat.A
end

section
set_option maxRecDepth 100000
set_option maxHeartbeats 2000000
namespace Go.Proofs.YtollphjompimjaaGreat.A
open Go Go.Abs Go.RowKit
end Go.Proofs.YtollphjompimjaaGreat.A
end

section
set_option maxRecDepth 100000
set_option maxHeartbeats 2000000
namespace Go.Proofs.YtollphjompimjaaGreat.A
open Go Go.Abs Go.RowKit
def RkS (A : AH) (n : Nat) (l : List Int) (v : Value) (H : AH) : Prop := Fr 1 2 A.next H.next H v n l
def RkP (A : AH) (v : Value) (H : AH) : Prop := ∃ i, v = .pointer (some ⟨i, 0, none⟩) ∧ A.next ≤ i ∧ i < H.next ∧ H.row i = some ⟨28, true, [.slice none 0 0]⟩
theorem RkS.up {A : AH} {n : Nat} {l : List Int} {v : Value} {H H' : AH} (h : RkS A n l v H) (u : Up H.next H H') : RkS A n l v H' :=
  (h.same fun i _ hi => u.row i hi).wide (Nat.le_refl _) u.next
theorem RkP.up {A : AH} {v : Value} {H H' : AH} (h : RkP A v H) (u : Up H.next H H') : RkP A v H' := by
  obtain ⟨i, h1, h2, h3, h4⟩ := h
  exact ⟨i, h1, h2, by have := u.next; omega, by rw [u.row i h3]; exact h4⟩
theorem RkP.ne {A : AH} {v : Value} {H : AH} (h : RkP A v H) : v ≠ .pointer (some ⟨H.next, 0, none⟩) := by
  rintro rfl
  obtain ⟨i, h1, h2, h3, h4⟩ := h
  have : H.next = i := by injection h1 with e; injection e with e; injection e
  omega
theorem RkS.set {A : AH} {n : Nat} {l : List Int} {w : Value} {H : AH} {i : Nat} {cs0 : List Value} (h : RkS A n l w H) (hr : H.row i = some ⟨28, true, cs0⟩) (cs : List Value) : RkS A n l w (H.setCells i cs) := by
  refine ⟨h.1, ?_⟩
  rcases h.2 with h2 | ⟨f, h1, h2, hv, hf⟩
  · exact .inl h2
  · refine .inr ⟨f, h1, h2, hv, ?_⟩
    rw [AH.setCells_row, if_neg]
    · exact hf
    · rintro rfl
      rw [hr] at hf
      injection hf with hf
      injection hf with e
      exact absurd e (by decide)
structure RkJ (A : AH) (n : Nat) (ps ss ts : List Int) (sv xv pv : Value) (cs fs : List Nat) (t : T) (H : AH) : Prop where
  hcs : cs = [2, 5, 8] ∨ cs = [5, 8] ∨ cs = [8] ∨ cs = []
  hfs : ∀ a ∈ fs, a = 9 ∨ a = 10 ∨ a = 11
  t9 : t 9 = sv
  t10 : t 10 = xv
  t12 : t 12 = sv
  t13 : t 13 = xv
  t15 : t 15 = sv
  t16 : t 16 = xv
  t2 : t 2 = pv
  up : Up A.next A H
  sc : Sc H
  s1 : 2 ∉ cs → RkS A n ps (t 11) H
  s2 : 5 ∉ cs → RkS A n ss (t 14) H
  s3 : 8 ∉ cs → RkS A n ts (t 17) H
  p1 : 9 ∉ fs → RkP A (t 5) H
  p2 : 10 ∉ fs → RkP A (t 6) H
  p3 : 11 ∉ fs → RkP A (t 7) H
  d1 : 9 ∉ fs → 10 ∉ fs → t 5 ≠ t 6
  d2 : 9 ∉ fs → 11 ∉ fs → t 5 ≠ t 7
  d3 : 10 ∉ fs → 11 ∉ fs → t 6 ≠ t 7
theorem not_erase {a x : Nat} {fs : List Nat} (h : x ∉ fs.erase a) (hne : x ≠ a) : x ∉ fs := fun hm => h ((List.mem_erase_of_ne hne).2 hm)
theorem RkJ.call1 {A : AH} {n : Nat} {ps ss ts : List Int} {sv xv pv w : Value} {fs : List Nat} {t : T} {H H' : AH} (h : RkJ A n ps ss ts sv xv pv [2, 5, 8] fs t H) (u : Up H.next H H') (sc : Sc H') (hf : Fr 1 2 H.next H'.next H' w n ps) : RkJ A n ps ss ts sv xv pv [5, 8] fs (updO t (some 11) w) H' where
  hcs := by simp
  hfs := h.hfs
  t9 := h.t9
  t10 := h.t10
  t12 := h.t12
  t13 := h.t13
  t15 := h.t15
  t16 := h.t16
  t2 := h.t2
  up := h.up.trans u h.up.next
  sc := sc
  s1 := fun _ => hf.wide h.up.next (Nat.le_refl _)
  s2 := fun k => absurd (by simp) k
  s3 := fun k => absurd (by simp) k
  p1 := fun k => (h.p1 k).up u
  p2 := fun k => (h.p2 k).up u
  p3 := fun k => (h.p3 k).up u
  d1 := h.d1
  d2 := h.d2
  d3 := h.d3
theorem RkJ.free1 {A : AH} {n : Nat} {ps ss ts : List Int} {sv xv pv : Value} {cs fs : List Nat} {t : T} {H : AH} (h : RkJ A n ps ss ts sv xv pv cs fs t H) : RkJ A n ps ss ts sv xv pv cs (fs.erase 9) (upd t 5 (.pointer (some ⟨H.next, 0, none⟩))) (H.push ⟨28, true, [.slice none 0 0]⟩) where
  hcs := h.hcs
  hfs := fun a ha => h.hfs a (List.mem_of_mem_erase ha)
  t9 := h.t9
  t10 := h.t10
  t12 := h.t12
  t13 := h.t13
  t15 := h.t15
  t16 := h.t16
  t2 := h.t2
  up := h.up.push h.up.next _
  sc := h.sc.push _
  s1 := fun k => (h.s1 k).up ((Up.refl _ H).push (Nat.le_refl _) _)
  s2 := fun k => (h.s2 k).up ((Up.refl _ H).push (Nat.le_refl _) _)
  s3 := fun k => (h.s3 k).up ((Up.refl _ H).push (Nat.le_refl _) _)
  p1 := fun _ => ⟨H.next, rfl, h.up.next, Nat.lt_succ_self _, by rw [AH.push_row, if_pos rfl]⟩
  p2 := fun k => (h.p2 (not_erase k (by decide))).up ((Up.refl _ H).push (Nat.le_refl _) _)
  p3 := fun k => (h.p3 (not_erase k (by decide))).up ((Up.refl _ H).push (Nat.le_refl _) _)
  d1 := fun _ k2 => (h.p2 (not_erase k2 (by decide))).ne.symm
  d2 := fun _ k2 => (h.p3 (not_erase k2 (by decide))).ne.symm
  d3 := fun k1 k2 => h.d3 (not_erase k1 (by decide)) (not_erase k2 (by decide))
theorem RkJ.free2 {A : AH} {n : Nat} {ps ss ts : List Int} {sv xv pv : Value} {cs fs : List Nat} {t : T} {H : AH} (h : RkJ A n ps ss ts sv xv pv cs fs t H) : RkJ A n ps ss ts sv xv pv cs (fs.erase 10) (upd t 6 (.pointer (some ⟨H.next, 0, none⟩))) (H.push ⟨28, true, [.slice none 0 0]⟩) where
  hcs := h.hcs
  hfs := fun a ha => h.hfs a (List.mem_of_mem_erase ha)
  t9 := h.t9
  t10 := h.t10
  t12 := h.t12
  t13 := h.t13
  t15 := h.t15
  t16 := h.t16
  t2 := h.t2
  up := h.up.push h.up.next _
  sc := h.sc.push _
  s1 := fun k => (h.s1 k).up ((Up.refl _ H).push (Nat.le_refl _) _)
  s2 := fun k => (h.s2 k).up ((Up.refl _ H).push (Nat.le_refl _) _)
  s3 := fun k => (h.s3 k).up ((Up.refl _ H).push (Nat.le_refl _) _)
  p1 := fun k => (h.p1 (not_erase k (by decide))).up ((Up.refl _ H).push (Nat.le_refl _) _)
  p2 := fun _ => ⟨H.next, rfl, h.up.next, Nat.lt_succ_self _, by rw [AH.push_row, if_pos rfl]⟩
  p3 := fun k => (h.p3 (not_erase k (by decide))).up ((Up.refl _ H).push (Nat.le_refl _) _)
  d1 := fun k1 _ => (h.p1 (not_erase k1 (by decide))).ne
  d2 := fun k1 k2 => h.d2 (not_erase k1 (by decide)) (not_erase k2 (by decide))
  d3 := fun _ k2 => (h.p3 (not_erase k2 (by decide))).ne.symm
theorem RkJ.free3 {A : AH} {n : Nat} {ps ss ts : List Int} {sv xv pv : Value} {cs fs : List Nat} {t : T} {H : AH} (h : RkJ A n ps ss ts sv xv pv cs fs t H) : RkJ A n ps ss ts sv xv pv cs (fs.erase 11) (upd t 7 (.pointer (some ⟨H.next, 0, none⟩))) (H.push ⟨28, true, [.slice none 0 0]⟩) where
  hcs := h.hcs
  hfs := fun a ha => h.hfs a (List.mem_of_mem_erase ha)
  t9 := h.t9
  t10 := h.t10
  t12 := h.t12
  t13 := h.t13
  t15 := h.t15
  t16 := h.t16
  t2 := h.t2
  up := h.up.push h.up.next _
  sc := h.sc.push _
  s1 := fun k => (h.s1 k).up ((Up.refl _ H).push (Nat.le_refl _) _)
  s2 := fun k => (h.s2 k).up ((Up.refl _ H).push (Nat.le_refl _) _)
  s3 := fun k => (h.s3 k).up ((Up.refl _ H).push (Nat.le_refl _) _)
  p1 := fun k => (h.p1 (not_erase k (by decide))).up ((Up.refl _ H).push (Nat.le_refl _) _)
  p2 := fun k => (h.p2 (not_erase k (by decide))).up ((Up.refl _ H).push (Nat.le_refl _) _)
  p3 := fun _ => ⟨H.next, rfl, h.up.next, Nat.lt_succ_self _, by rw [AH.push_row, if_pos rfl]⟩
  d1 := fun k1 k2 => h.d1 (not_erase k1 (by decide)) (not_erase k2 (by decide))
  d2 := fun k1 _ => (h.p1 (not_erase k1 (by decide))).ne
  d3 := fun k1 _ => (h.p2 (not_erase k1 (by decide))).ne
end Go.Proofs.YtollphjompimjaaGreat.A
end

section
namespace Go.Abs
open Go Go.RowKit
structure PoolS (P : Program) (ops : Array Oper) (S : Nat → Prop) (Q : T → AH → Prop) (post : OT) (J : List Nat → List Nat → T → AH → Prop) : Prop where
  call : ∀ c cs fs t H, J (c :: cs) fs t H → stepIS P ops S (J cs fs) c (ops.toList[c]?) t H
  free : ∀ a cs fs t H, a ∈ fs → J cs fs t H → stepIS P ops S (J cs (fs.erase a)) a (ops.toList[a]?) t H
  done : ∀ t H, J [] [] t H → awpTS P ops S Q post t H
theorem AAnyS_pool {P : Program} {ops : Array Oper} {S : Nat → Prop} {Q : T → AH → Prop} {post : OT} {J : List Nat → List Nat → T → AH → Prop} (hJ : PoolS P ops S Q post J) : ∀ (n : Nat) (cs fs : List Nat) (listed : Array Bool) (t : T) (H : AH) (f : Nat), n + post.depth ≤ f → Closed ops listed → okPool ops post n cs fs listed = true → J cs fs t H → AAnyS P ops S Q f listed t H
  | 0, cs, fs, listed, t, H, f, hf, hc, hok, h => by
    simp only [okPool, Bool.and_eq_true, List.isEmpty_iff] at hok
    obtain ⟨⟨rfl, rfl⟩, h3⟩ := hok
    exact AAnyS_tree post listed t H f (by omega) hc h3 (hJ.done t H h)
  | n + 1, cs, fs, listed, t, H, 0, hf, hc, hok, h => by omega
  | n + 1, cs, fs, listed, t, H, f + 1, hf, hc, hok, h => by
    unfold okPool at hok
    split at hok
    · rename_i he
      simp only [Bool.and_eq_true, List.isEmpty_iff] at he
      obtain ⟨rfl, rfl⟩ := he
      exact AAnyS_tree post listed t H (f + 1) (by omega) hc hok (hJ.done t H h)
    · simp only [Bool.and_eq_true] at hok
      obtain ⟨⟨⟨h1, h2⟩, h3⟩, h4⟩ := hok
      refine ⟨fun h0 => (by rw [h0] at h1; simp at h1), fun i hi => ?_⟩
      have hci : (Region.ready .any ops listed).contains i = true := by simpa using hi
      have h5 := List.all_eq_true.1 h2 i hi
      rw [Bool.or_eq_true] at h5
      rcases h5 with h5 | h5
      · cases cs with
        | nil => simp [headIs] at h5
        | cons c cs' =>
          have e : i = c := by simpa [headIs] using h5
          subst e
          simp only [hci, Bool.not_true, Bool.false_or] at h3
          exact aStep_mono (stepIS_s (hJ.call i cs' fs t H h)) fun t' H' hk => ⟨hk.1, AAnyS_pool hJ n cs' fs _ t' H' f (by omega) (hc.set hi) h3 hk.2⟩
      · have hm : i ∈ fs := List.contains_iff_mem.1 h5
        have h6 := List.all_eq_true.1 h4 i hm
        simp only [hci, Bool.not_true, Bool.false_or] at h6
        exact aStep_mono (stepIS_s (hJ.free i cs fs t H hm h)) fun t' H' hk => ⟨hk.1, AAnyS_pool hJ n cs (fs.erase i) _ t' H' f (by omega) (hc.set hi) h6 hk.2⟩
theorem AAnyS_pre {P : Program} {ops : Array Oper} {S : Nat → Prop} {Q : T → AH → Prop} {post : OT} {J : List Nat → List Nat → T → AH → Prop} (hJ : PoolS P ops S Q post J) (cs fs : List Nat) : ∀ (is : List Nat) (listed : Array Bool) (t : T) (H : AH) (f : Nat), is.length + (cs.length + fs.length + post.depth) ≤ f → Closed ops listed → okPre ops post cs fs is listed = true → awpIS P ops S (J cs fs) is t H → AAnyS P ops S Q f listed t H
  | [], listed, t, H, f, hf, hc, hok, h => AAnyS_pool hJ _ cs fs listed t H f (by simpa using hf) hc hok h
  | i :: is, listed, t, H, 0, hf, hc, hok, h => by simp at hf
  | i :: is, listed, t, H, f + 1, hf, hc, hok, h => by
    simp only [okPre, Bool.and_eq_true] at hok
    simp only [List.length_cons] at hf
    obtain ⟨h1, h2⟩ := hok
    unfold awpIS at h
    cases ho : ops[i]? with
    | none => simp [ho] at h1
    | some o =>
      simp only [ho] at h1
      split at h1
      · rename_i hq
        simp only [Bool.and_eq_true] at h1
        obtain ⟨hr, hfr⟩ := h1
        have hr' : i ∈ Region.ready .any ops listed := by simpa using hr
        obtain ⟨v, hy, hk⟩ := aStep_quiet ho hq (stepIS_s h)
        obtain ⟨⟨o', e', hl'⟩, _⟩ := stepIS_a h
        have eo : o' = o := by
          have e2 : ops.toList[i]? = some o := by simpa using ho
          exact Option.some.inj (e'.symm.trans e2)
        subst eo
        exact AAnyS_first ho hq f listed t H hc (Region.free_spec ho hfr) hr' (safe_of hq hl') hy (AAnyS_pre hJ cs fs is _ _ H f (by omega) (hc.set hr') h2 hk.2)
      · have hr : Region.ready .any ops listed = [i] := by simpa using h1
        refine ⟨fun h0 => (by rw [hr] at h0; cases h0), fun j hj => ?_⟩
        have hji : j = i := by rw [hr] at hj; simpa using hj
        subst hji
        exact aStep_mono (stepIS_s h) fun t' H' hk => ⟨hk.1, AAnyS_pre hJ cs fs is _ t' H' f (by omega) (hc.set hj) h2 hk.2⟩
theorem draw_poolS {P : Program} {id : Nat} {ops : Array Oper} {Q : Exit → T → AH → Prop} {t : T} {H : AH} (S : Nat → Prop) (is cs fs : List Nat) (post : OT) (hm : P.follows .mixedOrders = true) (hok : okPre ops post cs fs is (Array.replicate ops.size false) = true) (hl : is.length + (cs.length + fs.length + post.depth) ≤ ops.size)
    (J : List Nat → List Nat → T → AH → Prop) (hJ : PoolS P ops S (Q .normal) post J) (h : awpIS P ops S (J cs fs) is t H) : awp P (.region id ops true) Q t H := by
  intro base ρ w tmps QC hS hd hQ
  have hA := AAnyS_pre hJ cs fs is _ t H ops.size hl ⟨by simp, fun j oj hj hl => by rw [getD_replicate_false'] at hl; cases hl⟩ hok h
  refine wp_region_any hm (AAnyS_ok ops.size _ t H ρ w.drew tmps hA ⟨hS.1.drew, hS.2.ext (ext_drew (base := base) (H := H) w)⟩ ?_ fun t' H' ρ' w' tmps' hq hs he hz => ?_)
  · intro o ho i hi
    have := List.all_eq_true.1 hd o ho
    simp only [hi, decide_eq_true_eq] at this
    exact this
  · exact hQ .normal t' H' ρ' w' tmps' hq hs ((ext_drew (base := base) (H := H) (ρ := ρ) w).trans he) hz
end Go.Abs
end

section
set_option maxRecDepth 100000
set_option maxHeartbeats 2000000
namespace Go.Proofs.YtollphjompimjaaGreat.A
open Go Go.Abs Go.RowKit
structure TdJ (A : AH) (n g : Nat) (M : List (List Int)) (xv pv qv : Value) (cs fs : List Nat) (t : T) (H : AH) : Prop where
  hcs : cs = [1] ∨ cs = []
  hfs : ∀ a ∈ fs, a = 6 ∨ a = 7 ∨ a = 8
  t2 : t 2 = pv
  t3 : t 3 = qv
  t11 : t 11 = xv
  t14 : t 14 = .int .i64 n
  t16 : t 16 = .int .i64 g
  ow : ∃ a b c d : Th, Ow A H [a, b, c, d] ∧ (1 ∉ cs → (t 12).oneCell' = true ∧ a = .see fun H => Rd2 1 H (t 12) M) ∧ (6 ∉ fs → ∃ i, t 5 = .pointer (some ⟨i, 0, none⟩) ∧ b = .row i ⟨24, true, [.slice none 0 0]⟩) ∧
    (7 ∉ fs → ∃ i, t 6 = .pointer (some ⟨i, 0, none⟩) ∧ c = .row i ⟨2, true, [.int .i64 0]⟩) ∧ (8 ∉ fs → ∃ i, t 7 = .pointer (some ⟨i, 0, none⟩) ∧ d = .row i ⟨2, true, [.int .i64 0]⟩)
theorem TdJ.call1 {A : AH} {n g : Nat} {M : List (List Int)} {xv pv qv w : Value} {fs : List Nat} {t : T} {H H' : AH} (h : TdJ A n g M xv pv qv [1] fs t H) (c : Ow H H' [.sl2 (Value.int .i64) 28 2 w M]) : TdJ A n g M xv pv qv [] fs (updO t (some 12) w) H' := by
  obtain ⟨a, b, cc, d, o, h1, h2, h3, h4⟩ := h.ow
  have hw := (c.rd2 0 rfl).one
  refine ⟨.inr rfl, h.hfs, h.t2, h.t3, h.t11, h.t14, h.t16, .see fun H => Rd2 1 H w M, b, cc, d, o.fillCall 0 rfl (c.toSee 0 rfl fun H S hp => sl2_rd2 hp), fun _ => ⟨hw, rfl⟩, h2, h3, h4⟩
theorem TdJ.free1 {A : AH} {n g : Nat} {M : List (List Int)} {xv pv qv : Value} {cs fs : List Nat} {t : T} {H : AH} (h : TdJ A n g M xv pv qv cs fs t H) : TdJ A n g M xv pv qv cs (fs.erase 6) (upd t 5 (.pointer (some ⟨H.next, 0, none⟩))) (H.push ⟨24, true, [.slice none 0 0]⟩) := by
  obtain ⟨a, b, c, d, o, h1, h2, h3, h4⟩ := h.ow
  exact ⟨h.hcs, fun x hx => h.hfs x (List.mem_of_mem_erase hx), h.t2, h.t3, h.t11, h.t14, h.t16, a, _, c, d, o.fillRow 1 rfl _, h1, fun _ => ⟨H.next, rfl, rfl⟩, fun k => h3 (not_erase k (by decide)), fun k => h4 (not_erase k (by decide))⟩
theorem TdJ.free2 {A : AH} {n g : Nat} {M : List (List Int)} {xv pv qv : Value} {cs fs : List Nat} {t : T} {H : AH} (h : TdJ A n g M xv pv qv cs fs t H) : TdJ A n g M xv pv qv cs (fs.erase 7) (upd t 6 (.pointer (some ⟨H.next, 0, none⟩))) (H.push ⟨2, true, [.int .i64 0]⟩) := by
  obtain ⟨a, b, c, d, o, h1, h2, h3, h4⟩ := h.ow
  exact ⟨h.hcs, fun x hx => h.hfs x (List.mem_of_mem_erase hx), h.t2, h.t3, h.t11, h.t14, h.t16, a, b, _, d, o.fillRow 2 rfl _, h1, fun k => h2 (not_erase k (by decide)), fun _ => ⟨H.next, rfl, rfl⟩, fun k => h4 (not_erase k (by decide))⟩
theorem TdJ.free3 {A : AH} {n g : Nat} {M : List (List Int)} {xv pv qv : Value} {cs fs : List Nat} {t : T} {H : AH} (h : TdJ A n g M xv pv qv cs fs t H) : TdJ A n g M xv pv qv cs (fs.erase 8) (upd t 7 (.pointer (some ⟨H.next, 0, none⟩))) (H.push ⟨2, true, [.int .i64 0]⟩) := by
  obtain ⟨a, b, c, d, o, h1, h2, h3, h4⟩ := h.ow
  exact ⟨h.hcs, fun x hx => h.hfs x (List.mem_of_mem_erase hx), h.t2, h.t3, h.t11, h.t14, h.t16, a, b, c, _, o.fillRow 3 rfl _, h1, fun k => h2 (not_erase k (by decide)), fun k => h3 (not_erase k (by decide)), fun _ => ⟨H.next, rfl, rfl⟩⟩
theorem les_set {b i : Nat} {H : AH} (h : b ≤ i) (cs : List Value) : LES (fun j => j < b) H (H.setCells i cs) := ⟨Nat.le_refl _, fun j r hj hr => by rw [AH.setCells_row, if_neg (by omega)]; exact hr⟩
theorem tidies_c {σ : Type} {n g c : Nat} (hg : 2 ≤ g) (hn : n = g * c) (hn25 : n ≤ 25) (hgn : g ≤ n) (cb : FuncId) (caps : List Value) (Inv Fin : σ → AH → Prop) (step : σ → List Int → Bool × σ) (s : σ) (v : Value) (R : List (List Int)) (H : AH) (hC : CallT n g cb caps H.next Inv Fin step) (hI : Inv s H) (hv : Rg H v R) (hl : R.length ≤ 12) (hR : ∀ i, i < R.length → ordB n (R.getD i []) = true) :
    ACalls Tryz.prog 30 [.agg #[.int .i64 n, .int .i64 g, v], .func (.func cb) #[] caps.toArray] H (fun u H' => u = .bool (foldE step (nxT n g (gmM n g R) n []) s).1 ∧ H.next ≤ H'.next ∧ ((foldE step (nxT n g (gmM n g R) n []) s).1 = true → Inv (foldE step (nxT n g (gmM n g R) n []) s).2 H') ∧ ((foldE step (nxT n g (gmM n g R) n []) s).1 = false → Fin (foldE step (nxT n g (gmM n g R) n []) s).2 H')) := by
  refine ACalls.wf (by kernel_rfl) fun hs => acalls_of_awp [.tmp 4] Tryz.func30 (by kernel_rfl) rfl rfl (Nat.le_of_ble_eq_true rfl) (by kernel_rfl) ?_
  have hone := hv.one
  have o1 := ((Ow.refl hs).push ⟨26, true, [.int .i64 n, .int .i64 g, v]⟩).push ⟨52, true, [.func (.func cb) #[] caps.toArray]⟩
  try simp (disch := first | omega | (simp only [ints_length, List.length_replicate, List.length_set, bools_length, metL_length] <;> omega)) only [Sall,evalOp,init,binA_s,binE,binI,unE,convE,okNil,builtE,gv,TD.isAgg,resV,↓reduceIte,Nat.reduceEqDiff,reduceCtorEq,Nat.reduceAdd,Nat.reduceMul,Nat.reduceLeDiff,quietOp,blindOp,Int.reduceEq,Int.reduceLT,Int.reduceLE,Nat.reduceLT,tiA,tiXA, hone]
  have n1 : ((H.push ⟨26, true, [.int .i64 n, .int .i64 g, v]⟩).push ⟨52, true, [.func (.func cb) #[] caps.toArray]⟩).next = H.next + 2 := rfl
  have o1 : Ow H ((H.push ⟨26, true, [.int .i64 n, .int .i64 g, v]⟩).push ⟨52, true, [.func (.func cb) #[] caps.toArray]⟩) [.row H.next ⟨26, true, [.int .i64 n, .int .i64 g, v]⟩, .row (H.next + 1) ⟨52, true, [.func (.func cb) #[] caps.toArray]⟩] := o1
  generalize (H.push ⟨26, true, [.int .i64 n, .int .i64 g, v]⟩).push ⟨52, true, [.func (.func cb) #[] caps.toArray]⟩ = A at o1 n1 ⊢
  have e1 := (o1.rowAt 0 rfl).1
  have scA := o1.sc
  have hlt : H.next < A.next := by omega
  refine awp_cutQ (fun t H2 => ∃ (mv : Value) (i5 i6 i7 : Nat), mv.oneCell' = true ∧ t 5 = .pointer (some ⟨i5, 0, none⟩) ∧ t 6 = .pointer (some ⟨i6, 0, none⟩) ∧ t 7 = .pointer (some ⟨i7, 0, none⟩) ∧ t 3 = .pointer (some ⟨H.next + 1, 0, none⟩) ∧ Ow A H2 [.see fun H => Rd2 1 H mv (gmM n g R), .row i5 ⟨24, true, [mv]⟩, .row i6 ⟨2, true, [.int .i64 n]⟩, .row i7 ⟨2, true, [.int .i64 g]⟩]) ?_ ?_
  · refine draw_poolS (fun j => j < A.next) [0, 2, 3, 4, 5] [1] [6, 7, 8] (OT.run [9, 10, 11] .nil) (by kernel_rfl) (by kernel_rfl) (Nat.le_of_ble_eq_true rfl) (TdJ A n g (gmM n g R) (.agg #[.int .i64 n, .int .i64 g, v]) (.pointer (some ⟨H.next, 0, none⟩)) (.pointer (some ⟨H.next + 1, 0, none⟩))) ⟨?_, ?_, ?_⟩ ?_
    · intro c' cs fs t H2 hJ
      rcases hJ.hcs with e | e
      · injection e with e1 e2
        subst e1; subst e2
        obtain ⟨a, b, cc, d, o, _⟩ := hJ.ow
        have hv2 := hv.same fun i r hr => by
          have hi := hs _ _ hr
          rw [o.low i (by omega), o1.low i hi]; exact hr
        try simp (disch := first | omega | (simp only [ints_length, List.length_replicate, List.length_set, bools_length, metL_length] <;> omega)) only [Sall,evalOp,init,binA_s,binE,binI,unE,convE,okNil,builtE,gv,TD.isAgg,resV,↓reduceIte,Nat.reduceEqDiff,reduceCtorEq,Nat.reduceAdd,Nat.reduceMul,Nat.reduceLeDiff,quietOp,blindOp,Int.reduceEq,Int.reduceLT,Int.reduceLE,Nat.reduceLT,tiA,tiXA, awpTS_run_nil, awpTS_run_cons, awpTS_nil, awpTS_one, awpIS_nil, awpIS_cons, stepIS_op, loadOk, hJ.t11]
        refine (gMeetings_c n g c hg hn hn25 hgn v R H2 hv2 hl hR).sc.mono ?_
        rintro w H3 ⟨o3, sc3⟩
        exact ⟨.inr (.inr (LE.les (o3.up.le o.sc))), hJ.call1 o3⟩
      · cases e
    · intro a cs fs t H2 ha hJ
      have sc2 : Sc H2 := by obtain ⟨_, _, _, _, o, _⟩ := hJ.ow; exact o.sc
      rcases hJ.hfs a ha with rfl | rfl | rfl
      · try simp (disch := first | omega | (simp only [ints_length, List.length_replicate, List.length_set, bools_length, metL_length] <;> omega)) only [Sall,evalOp,init,binA_s,binE,binI,unE,convE,okNil,builtE,gv,TD.isAgg,resV,↓reduceIte,Nat.reduceEqDiff,reduceCtorEq,Nat.reduceAdd,Nat.reduceMul,Nat.reduceLeDiff,quietOp,blindOp,Int.reduceEq,Int.reduceLT,Int.reduceLE,Nat.reduceLT,tiA,tiXA, awpTS_run_nil, awpTS_run_cons, awpTS_nil, awpTS_one, awpIS_nil, awpIS_cons, stepIS_op, loadOk]
        exact ⟨.inr (.inr (LE.les (sc2.le _))), hJ.free1⟩
      · try simp (disch := first | omega | (simp only [ints_length, List.length_replicate, List.length_set, bools_length, metL_length] <;> omega)) only [Sall,evalOp,init,binA_s,binE,binI,unE,convE,okNil,builtE,gv,TD.isAgg,resV,↓reduceIte,Nat.reduceEqDiff,reduceCtorEq,Nat.reduceAdd,Nat.reduceMul,Nat.reduceLeDiff,quietOp,blindOp,Int.reduceEq,Int.reduceLT,Int.reduceLE,Nat.reduceLT,tiA,tiXA, awpTS_run_nil, awpTS_run_cons, awpTS_nil, awpTS_one, awpIS_nil, awpIS_cons, stepIS_op, loadOk]
        exact ⟨.inr (.inr (LE.les (sc2.le _))), hJ.free2⟩
      · try simp (disch := first | omega | (simp only [ints_length, List.length_replicate, List.length_set, bools_length, metL_length] <;> omega)) only [Sall,evalOp,init,binA_s,binE,binI,unE,convE,okNil,builtE,gv,TD.isAgg,resV,↓reduceIte,Nat.reduceEqDiff,reduceCtorEq,Nat.reduceAdd,Nat.reduceMul,Nat.reduceLeDiff,quietOp,blindOp,Int.reduceEq,Int.reduceLT,Int.reduceLE,Nat.reduceLT,tiA,tiXA, awpTS_run_nil, awpTS_run_cons, awpTS_nil, awpTS_one, awpIS_nil, awpIS_cons, stepIS_op, loadOk]
        exact ⟨.inr (.inr (LE.les (sc2.le _))), hJ.free3⟩
    · intro t H2 hJ
      obtain ⟨a, b, cc, d, o, h1, h2, h3, h4⟩ := hJ.ow
      obtain ⟨k1, rfl⟩ := h1 (by simp)
      obtain ⟨i5, h5, rfl⟩ := h2 (by simp)
      obtain ⟨i6, h6, rfl⟩ := h3 (by simp)
      obtain ⟨i7, h7, rfl⟩ := h4 (by simp)
      have r5 := (o.rowAt 1 rfl).1
      have r6 := (o.rowAt 2 rfl).1
      have r7 := (o.rowAt 3 rfl).1
      have d65 : ¬ i6 = i5 := o.ne (j := 2) (k := 1) rfl rfl (by omega) (fun S h => h.1) (fun S h => h.1)
      have d75 : ¬ i7 = i5 := o.ne (j := 3) (k := 1) rfl rfl (by omega) (fun S h => h.1) (fun S h => h.1)
      have d76 : ¬ i7 = i6 := o.ne (j := 3) (k := 2) rfl rfl (by omega) (fun S h => h.1) (fun S h => h.1)
      have o5 := ((o.putRow 1 rfl (cs' := [t 12])).putRow 2 rfl (cs' := [.int .i64 n])).putRow 3 rfl (cs' := [.int .i64 g])
      have t3 := hJ.t3
      have t14 := hJ.t14
      have t16 := hJ.t16
      try simp (disch := first | omega | (simp only [ints_length, List.length_replicate, List.length_set, bools_length, metL_length] <;> omega)) only [Sall,evalOp,init,binA_s,binE,binI,unE,convE,okNil,builtE,gv,TD.isAgg,resV,↓reduceIte,Nat.reduceEqDiff,reduceCtorEq,Nat.reduceAdd,Nat.reduceMul,Nat.reduceLeDiff,quietOp,blindOp,Int.reduceEq,Int.reduceLT,Int.reduceLE,Nat.reduceLT,tiA,tiXA, awpTS_run_nil, awpTS_run_cons, awpTS_nil, awpTS_one, awpIS_nil, awpIS_cons, stepIS_op, loadOk, h5, h6, h7, r5, r6, r7, d65, d75, d76, k1, t14, t16]
      exact ⟨.inr (.inr (les_set (o.rowAt 1 rfl).2.1 _)), .inr (.inr (les_set (o.rowAt 2 rfl).2.1 _)), .inr (.inr (les_set (o.rowAt 3 rfl).2.1 _)), t 12, i5, i6, i7, k1, rfl, rfl, rfl, t3, o5⟩
    · try simp (disch := first | omega | (simp only [ints_length, List.length_replicate, List.length_set, bools_length, metL_length] <;> omega)) only [Sall,evalOp,init,binA_s,binE,binI,unE,convE,okNil,builtE,gv,TD.isAgg,resV,↓reduceIte,Nat.reduceEqDiff,reduceCtorEq,Nat.reduceAdd,Nat.reduceMul,Nat.reduceLeDiff,quietOp,blindOp,Int.reduceEq,Int.reduceLT,Int.reduceLE,Nat.reduceLT,tiA,tiXA, awpTS_run_nil, awpTS_run_cons, awpTS_nil, awpTS_one, awpIS_nil, awpIS_cons, stepIS_op, loadOk, e1, hlt]
      exact ⟨.inl rfl, by simp, rfl, rfl, rfl, rfl, rfl, .no, .no, .no, .no, (Ow.refl scA).addNo.addNo.addNo.addNo, fun k => absurd (by simp) k, fun k => absurd (by simp) k, fun k => absurd (by simp) k, fun k => absurd (by simp) k⟩
  · rintro t H2 ⟨mv, i5, i6, i7, k1, h5, h6, h7, h3, o2⟩
    have r6 := (o2.rowAt 2 rfl).1
    refine awp_cut (fun t H3 => ∃ (uv : Nat) (li uc lc : Nat), t 8 = .pointer (some ⟨uc, 0, none⟩) ∧ t 9 = .pointer (some ⟨lc, 0, none⟩) ∧ t 5 = .pointer (some ⟨i5, 0, none⟩) ∧ t 6 = .pointer (some ⟨i6, 0, none⟩) ∧ t 7 = .pointer (some ⟨i7, 0, none⟩) ∧ t 3 = .pointer (some ⟨H.next + 1, 0, none⟩) ∧
      Ow A H3 [.see fun H => Rd2 1 H mv (gmM n g R), .row i5 ⟨24, true, [mv]⟩, .row i6 ⟨2, true, [.int .i64 n]⟩, .row i7 ⟨2, true, [.int .i64 g]⟩, .sl 1 4 (.slice (some ⟨uv, 0, some 1⟩) n n) n (bools (metL n [])), .sl 1 2 (lvF li 0) 0 [], .row uc ⟨76, true, [.slice (some ⟨uv, 0, some 1⟩) n n]⟩, .row lc ⟨28, true, [lvF li 0]⟩]) ?_ ?_
    · have o3 := ((((o2.pushSl (k := 1) (n := n) (ty := 4) (vs := bools (metL n [])) (by rw [bools_length, metL_length]; omega)).pushSl (k := 1) (n := 0) (ty := 2) (vs := []) rfl).push ⟨76, true, [.slice none 0 0]⟩).push ⟨28, true, [.slice none 0 0]⟩).putRow 6 rfl (cs' := [.slice (some ⟨H2.next, 0, some 1⟩) n n])
      have o4 := o3.putRow 7 rfl (cs' := [lvF (H2.next + 1) 0])
      clear o3
      have hz : zeros n [.bool false] = bools (metL n []) := by rw [zeros_bools, metL_nil]
      try simp (disch := first | omega | (simp only [ints_length, List.length_replicate, List.length_set, bools_length, metL_length] <;> omega)) only [Sall,evalOp,init,binA_s,binE,binI,unE,convE,okNil,builtE,gv,TD.isAgg,resV,↓reduceIte,Nat.reduceEqDiff,reduceCtorEq,Nat.reduceAdd,Nat.reduceMul,Nat.reduceLeDiff,quietOp,blindOp,Int.reduceEq,Int.reduceLT,Int.reduceLE,Nat.reduceLT,tiA,tiXA, h6, r6, hz, w64]
      exact ⟨⟨by omega, by omega, by omega⟩, H2.next, H2.next + 1, H2.next + 2, H2.next + 1 + 2, rfl, rfl, h5, h7, h3, o4⟩
    · rintro t H3 ⟨uv, li, uc, lc, h8, h9, h5, h6, h7, h3, o3⟩
      obtain ⟨cs, ecs⟩ : ∃ cs : CellsT, cs = ⟨i6, i7, H.next + 1, i5, uc, H3.next, lc, uv⟩ := ⟨_, rfl⟩
      have ecap : cs.caps = [.pointer (some ⟨lc, 0, none⟩), .pointer (some ⟨i6, 0, none⟩), .pointer (some ⟨H.next + 1, 0, none⟩), .pointer (some ⟨i7, 0, none⟩), .pointer (some ⟨uc, 0, none⟩), .pointer (some ⟨i5, 0, none⟩), .pointer (some ⟨H3.next, 0, none⟩)] := by rw [ecs]; rfl
      have hmem : ∀ v ∈ [Value.pointer (some ⟨lc, 0, none⟩), .pointer (some ⟨i6, 0, none⟩), .pointer (some ⟨H.next + 1, 0, none⟩), .pointer (some ⟨i7, 0, none⟩), .pointer (some ⟨uc, 0, none⟩), .pointer (some ⟨i5, 0, none⟩), .pointer (some ⟨H3.next, 0, none⟩)], v.oneCell' = true := by simp [Value.oneCell']
      have o4 := ((o1.call (((o3.push ⟨49, true, [.nilFunc]⟩).putEnd [.func (.func 59) #[] #[.pointer (some ⟨lc, 0, none⟩), .pointer (some ⟨i6, 0, none⟩), .pointer (some ⟨H.next + 1, 0, none⟩), .pointer (some ⟨i7, 0, none⟩), .pointer (some ⟨uc, 0, none⟩), .pointer (some ⟨i5, 0, none⟩), .pointer (some ⟨H3.next, 0, none⟩)]]).toCap 5 rfl)).sub (fun j => ([4, 5, 1, 3, 2, 10, 8, 6, 9, 7] : List Nat).getD j 99) (M := tL cs n g cb caps mv (gmM n g R) [] li []) (fun j hj => by
        have hj : j < 10 := hj
        subst ecs
        rcases j with _ | _ | _ | _ | _ | _ | _ | _ | _ | _ | j <;> first | rfl | omega) (fun x y hx hy h => by
        have hh : ∀ x, x < 10 → ∀ y, y < 10 → ([4, 5, 1, 3, 2, 10, 8, 6, 9, 7] : List Nat).getD x 99 = ([4, 5, 1, 3, 2, 10, 8, 6, 9, 7] : List Nat).getD y 99 → x = y := by decide
        exact hh x hx y hy h))
      try simp (disch := first | omega | (simp only [ints_length, List.length_replicate, List.length_set, bools_length, metL_length] <;> omega)) only [Sall,evalOp,init,binA_s,binE,binI,unE,convE,okNil,builtE,gv,TD.isAgg,resV,↓reduceIte,Nat.reduceEqDiff,reduceCtorEq,Nat.reduceAdd,Nat.reduceMul,Nat.reduceLeDiff,quietOp,blindOp,Int.reduceEq,Int.reduceLT,Int.reduceLE,Nat.reduceLT,tiA,tiXA, h3, h5, h6, h7, h8, h9, w64]
      refine ⟨hmem, ?_⟩
      try simp (disch := first | omega | (simp only [ints_length, List.length_replicate, List.length_set, bools_length, metL_length] <;> omega)) only [Sall,evalOp,init,binA_s,binE,binI,unE,convE,okNil,builtE,gv,TD.isAgg,resV,↓reduceIte,Nat.reduceEqDiff,reduceCtorEq,Nat.reduceAdd,Nat.reduceMul,Nat.reduceLeDiff,quietOp,blindOp,Int.reduceEq,Int.reduceLT,Int.reduceLE,Nat.reduceLT,tiA,tiXA, h3, h5, h6, h7, h8, h9, w64]
      generalize (H3.push ⟨49, true, [.nilFunc]⟩).setCells H3.next [.func (.func 59) #[] #[.pointer (some ⟨lc, 0, none⟩), .pointer (some ⟨i6, 0, none⟩), .pointer (some ⟨H.next + 1, 0, none⟩), .pointer (some ⟨i7, 0, none⟩), .pointer (some ⟨uc, 0, none⟩), .pointer (some ⟨i5, 0, none⟩), .pointer (some ⟨H3.next, 0, none⟩)]] = H4 at o4 ⊢
      rw [← ecap]
      have hsym : ∀ a b, a < n → b < n → ((gmM n g R).getD a []).getD b 0 = ((gmM n g R).getD b []).getD a 0 ∧ 0 ≤ ((gmM n g R).getD a []).getD b 0 := fun a b ha hb => by
        obtain ⟨_, _, f3, f4, f5⟩ := gmM_facts hg hn hn25 hl hR ha
        exact ⟨f5 b hb, (f4 _ (getD_memI (by rw [f3]; exact hb))).1⟩
      refine (putT_c hC hg hn25 cs mv k1 (gmM n g R) (gmM_sq n g R) hsym n [] s li [] H4 (by simp) (PreN.nil n g) (hC.low _ _ _ hI fun i hi => o4.low i hi) ⟨H, rfl, o4⟩).fin ?_
      have h4n := o4.next
      rintro H5 ⟨n5, hT, hF, _⟩
      refine Holds.mp ?_
      try simp (disch := first | omega | (simp only [ints_length, List.length_replicate, List.length_set, bools_length, metL_length] <;> omega)) only [Sall,evalOp,init,binA_s,binE,binI,unE,convE,okNil,builtE,gv,TD.isAgg,resV,↓reduceIte,Nat.reduceEqDiff,reduceCtorEq,Nat.reduceAdd,Nat.reduceMul,Nat.reduceLeDiff,quietOp,blindOp,Int.reduceEq,Int.reduceLT,Int.reduceLE,Nat.reduceLT,tiA,tiXA, true_and]
      exact ⟨by omega, hT, fun h => (hF h).here⟩
end Go.Proofs.YtollphjompimjaaGreat.A
end
