/- Contracts: how often players are together at tables, the program's side. And what follows. -/
import Derived.Test.YtnpmidgikbbnbaaM3
import Derived.Shelf.SlicesG.CompactI
import Derived.Sort.OwnSortedInts
section
set_option linter.unusedSimpArgs false
set_option linter.unusedVariables false
set_option maxRecDepth 100000
set_option maxHeartbeats 2000000
namespace Go.Proofs.Ytnpmidgikbbnbaa.A
open Go Go.Abs Go.RowKit

def wayL (ws : List (Nat × Nat)) : List Int := ws.flatMap fun w => [(w.1 : Int), (w.2 : Int)]
theorem wayL_length : ∀ ws : List (Nat × Nat), (wayL ws).length = ws.length * 2
  | [] => rfl
  | w :: ws => by
    have e : wayL (w :: ws) = [(w.1 : Int), (w.2 : Int)] ++ wayL ws := by simp [wayL]
    rw [e, List.length_append, wayL_length ws, List.length_cons]
    simp
    omega
theorem wayL_at : ∀ (ws : List (Nat × Nat)) (d : Nat), d < ws.length → ((wayL ws).drop (d * 2)).take 2 = [((ws.getD d (0, 0)).1 : Int), ((ws.getD d (0, 0)).2 : Int)]
  | [], d, h => by simp at h
  | w :: ws, 0, h => by simp [wayL]
  | w :: ws, d + 1, h => by
    have e : wayL (w :: ws) = [(w.1 : Int), (w.2 : Int)] ++ wayL ws := by simp [wayL]
    rw [e, show (d + 1) * 2 = 2 + d * 2 by omega, ← List.drop_drop]
    have := wayL_at ws d (by simpa using h)
    simpa using this
theorem ways_snoc (ws : List (Nat × Nat)) (d : Nat) (hd : d < ws.length) : ws.take (d + 1) = ws.take d ++ [ws.getD d (0, 0)] := take_snoc ws (0, 0) d hd

theorem together_c (n : Nat) (hn : 1 ≤ n ∧ n ≤ 16) (u : Value) (R : List (List Int)) (wv : Value) (ws : List (Nat × Nat)) (H : AH) (hu : Rd2 1 H u R) (hw : Rd 2 H wv ws.length (wayL ws)) (hws : ∀ w ∈ ws, w.1 < 4 ∧ w.2 < 4) (hwl : ws.length ≤ 4)
    (hRl : R.length ≤ 20) (hR : ∀ i, i < R.length → (R.getD i []).length ≤ 16 ∧ ∀ x ∈ R.getD i [], 0 ≤ x ∧ x < (n : Int)) :
    ACalls Try.prog 80 [.agg #[.int .i64 n, u], wv] H (fun r H' => Up H.next H H' ∧ Fr2 1 62 2 H.next H'.next H' r (tabM n ws R)) := by
  refine ACalls.wf (by kernel_rfl) fun hs => acalls_of_awp [.tmp 4] Try.func80 (by kernel_rfl) rfl rfl (Nat.le_of_ble_eq_true rfl) (by kernel_rfl) ?_
  have hone := hu.one
  have hwone := hw.one
  have up : Up H.next H (H.push ⟨28, true, [.int .i64 n, u]⟩) := (Up.refl _ H).push (Nat.le_refl _) _
  have e1 : (H.push ⟨28, true, [.int .i64 n, u]⟩).row H.next = some ⟨28, true, [.int .i64 n, u]⟩ := by rw [AH.push_row, if_pos rfl]
  have n1 : (H.push ⟨28, true, [.int .i64 n, u]⟩).next = H.next + 1 := rfl
  have sc1 : Sc (H.push ⟨28, true, [.int .i64 n, u]⟩) := Sc.push hs _
  try simp (disch := first | omega | (simp only [ints_length, List.length_replicate, List.length_set]; done) | (simp only [ints_length, List.length_replicate, List.length_set]; omega)) only [Sall,evalOp,init,binE,binI,unE,convE,okNil,builtE,gv,TD.isAgg,resV,↓reduceIte,Nat.reduceEqDiff,reduceCtorEq,Nat.reduceAdd,Nat.reduceMul,Nat.reduceLeDiff,quietOp,blindOp,Int.reduceEq,Int.reduceLT,Int.reduceLE,Nat.reduceLT,ti2,ti3,ti4,ti41,ti42,ti62,ti22,ti45,ti37,ti47,ti39,ti74,ti138,ti101,ti103,ti108,ti24,ti28,ti96, hone]
  revert up e1 n1 sc1
  generalize H.push ⟨28, true, [.int .i64 n, u]⟩ = H1
  intro up e1 n1 sc1
  try simp (disch := first | omega | (simp only [ints_length, List.length_replicate, List.length_set]; done) | (simp only [ints_length, List.length_replicate, List.length_set]; omega)) only [Sall,evalOp,init,binE,binI,unE,convE,okNil,builtE,gv,TD.isAgg,resV,↓reduceIte,Nat.reduceEqDiff,reduceCtorEq,Nat.reduceAdd,Nat.reduceMul,Nat.reduceLeDiff,quietOp,blindOp,Int.reduceEq,Int.reduceLT,Int.reduceLE,Nat.reduceLT,ti2,ti3,ti4,ti41,ti42,ti62,ti22,ti45,ti37,ti47,ti39,ti74,ti138,ti101,ti103,ti108,ti24,ti28,ti96, e1]
  refine (square_c n (by omega) H1).mono ?_
  rintro o H2 ⟨up2, hf2⟩
  have n2 := up2.next
  have e2 : H2.row H.next = some ⟨28, true, [.int .i64 n, u]⟩ := by rw [up2.row _ (by omega), e1]
  have u2 : Up H.next H H2 := up.trans up2 (by omega)
  refine Holds.mp ?_
  try simp (disch := first | omega | (simp only [ints_length, List.length_replicate, List.length_set]; done) | (simp only [ints_length, List.length_replicate, List.length_set]; omega)) only [Sall,evalOp,init,binE,binI,unE,convE,okNil,builtE,gv,TD.isAgg,resV,↓reduceIte,Nat.reduceEqDiff,reduceCtorEq,Nat.reduceAdd,Nat.reduceMul,Nat.reduceLeDiff,quietOp,blindOp,Int.reduceEq,Int.reduceLT,Int.reduceLE,Nat.reduceLT,ti2,ti3,ti4,ti41,ti42,ti62,ti22,ti45,ti37,ti47,ti39,ti74,ti138,ti101,ti103,ti108,ti24,ti28,ti96, e2, builtE, hu.len]
  refine awp_loop (fun z t H' => ∃ a : Nat, z = R.length - a ∧ a ≤ R.length ∧ t 19 = .int .i64 a ∧ t 18 = .int .i64 R.length ∧ t 17 = u ∧ t 5 = o ∧ t 1 = wv ∧ Up H.next H H' ∧ H2.next ≤ H'.next ∧ Fr2 1 62 2 H1.next H2.next H' o (cntMx n (evA n ws R a))) R.length ?_ ?_
  · refine ⟨0, by omega, by omega, ?_⟩
    try simp (disch := first | omega | (simp only [ints_length, List.length_replicate, List.length_set]; done) | (simp only [ints_length, List.length_replicate, List.length_set]; omega)) only [Sall,evalOp,init,binE,binI,unE,convE,okNil,builtE,gv,TD.isAgg,resV,↓reduceIte,Nat.reduceEqDiff,reduceCtorEq,Nat.reduceAdd,Nat.reduceMul,Nat.reduceLeDiff,quietOp,blindOp,Int.reduceEq,Int.reduceLT,Int.reduceLE,Nat.reduceLT,ti2,ti3,ti4,ti41,ti42,ti62,ti22,ti45,ti37,ti47,ti39,ti74,ti138,ti101,ti103,ti108,ti24,ti28,ti96, Int.natCast_zero]
    exact ⟨u2, by rw [show evA n ws R 0 = [] from rfl, cntMx_nil]; exact hf2⟩
  · rintro z t H' ⟨a, hz, ha, h19, h18, h17, h5, h1, hup, hnx, hf⟩
    try simp (disch := first | omega | (simp only [ints_length, List.length_replicate, List.length_set]; done) | (simp only [ints_length, List.length_replicate, List.length_set]; omega)) only [Sall,evalOp,init,binE,binI,unE,convE,okNil,builtE,gv,TD.isAgg,resV,↓reduceIte,Nat.reduceEqDiff,reduceCtorEq,Nat.reduceAdd,Nat.reduceMul,Nat.reduceLeDiff,quietOp,blindOp,Int.reduceEq,Int.reduceLT,Int.reduceLE,Nat.reduceLT,ti2,ti3,ti4,ti41,ti42,ti62,ti22,ti45,ti37,ti47,ti39,ti74,ti138,ti101,ti103,ti108,ti24,ti28,ti96, h19, h18]
    refine condC_dec (fun h => ?_) (fun h => ?_)
    · obtain ⟨xi, xo, xuu, xc, xr, y, my, ex, hxr, hy, hsx, hok⟩ := hu.get (j := a) (by omega)
      have hxr' : H'.row xi = some xr := (hup.le hs).row _ _ hxr
      obtain ⟨hl16, hin⟩ := hR a (by omega)
      have hmm := hsx.lenK1
      have hevS := evA_succ n ws R a
      have hI0 : (evA n ws R a).length ≤ 1000 := by
        have := evA_length (n := n) (ws := ws) (fun i hi => (hR i hi).1) a (by omega)
        have h2 : a * (4 * (2 * ws.length)) ≤ 20 * 32 := Nat.mul_le_mul (by omega) (by omega)
        omega
      revert hsx hl16 hin hmm hevS
      generalize R.getD a [] = l
      intro hsx hl16 hin hmm hevS
      subst hmm
      have hold : ∀ {H3 : AH}, Up H.next H H3 → Rd 1 H3 y l.length l := fun hup3 => hsx.same (hup3.le hs).row
      try simp (disch := first | omega | (simp only [ints_length, List.length_replicate, List.length_set]; done) | (simp only [ints_length, List.length_replicate, List.length_set]; omega)) only [Sall,evalOp,init,binE,binI,unE,convE,okNil,builtE,gv,TD.isAgg,resV,↓reduceIte,Nat.reduceEqDiff,reduceCtorEq,Nat.reduceAdd,Nat.reduceMul,Nat.reduceLeDiff,quietOp,blindOp,Int.reduceEq,Int.reduceLT,Int.reduceLE,Nat.reduceLT,ti2,ti3,ti4,ti41,ti42,ti62,ti22,ti45,ti37,ti47,ti39,ti74,ti138,ti101,ti103,ti108,ti24,ti28,ti96, h19, h18, h17, h5, h1, ex, hxr', hy, hok]
      (repeat refine And.intro (by omega) ?_)
      refine awp_loop (fun z t H3 => ∃ c : Nat, z = l.length / 4 - c ∧ c ≤ l.length / 4 ∧ t 8 = .int .i64 ((4 * c : Nat) : Int) ∧ t 7 = y ∧ t 19 = .int .i64 a ∧ t 18 = .int .i64 R.length ∧ t 17 = u ∧ t 5 = o ∧ t 1 = wv ∧ Up H.next H H3 ∧ H2.next ≤ H3.next ∧ Fr2 1 62 2 H1.next H2.next H3 o (cntMx n (evA n ws R a ++ evR n ws l c))) (l.length / 4) ?_ ?_
      · refine ⟨0, by omega, by omega, ?_⟩
        try simp (disch := first | omega | (simp only [ints_length, List.length_replicate, List.length_set]; done) | (simp only [ints_length, List.length_replicate, List.length_set]; omega)) only [Sall,evalOp,init,binE,binI,unE,convE,okNil,builtE,gv,TD.isAgg,resV,↓reduceIte,Nat.reduceEqDiff,reduceCtorEq,Nat.reduceAdd,Nat.reduceMul,Nat.reduceLeDiff,quietOp,blindOp,Int.reduceEq,Int.reduceLT,Int.reduceLE,Nat.reduceLT,ti2,ti3,ti4,ti41,ti42,ti62,ti22,ti45,ti37,ti47,ti39,ti74,ti138,ti101,ti103,ti108,ti24,ti28,ti96, Int.natCast_zero, h19, h18, h17, h5, h1, Nat.mul_zero]
        refine ⟨hup, hnx, ?_⟩
        rw [show evR n ws l 0 = [] from rfl, List.append_nil]; exact hf
      · rintro z t H3 ⟨c, hz, hc, h8, h7, h19, h18, h17, h5, h1, hup3, hnx3, hf3⟩
        have hl3 := (hold hup3).len
        try simp (disch := first | omega | (simp only [ints_length, List.length_replicate, List.length_set]; done) | (simp only [ints_length, List.length_replicate, List.length_set]; omega)) only [Sall,evalOp,init,binE,binI,unE,convE,okNil,builtE,gv,TD.isAgg,resV,↓reduceIte,Nat.reduceEqDiff,reduceCtorEq,Nat.reduceAdd,Nat.reduceMul,Nat.reduceLeDiff,quietOp,blindOp,Int.reduceEq,Int.reduceLT,Int.reduceLE,Nat.reduceLT,ti2,ti3,ti4,ti41,ti42,ti62,ti22,ti45,ti37,ti47,ti39,ti74,ti138,ti101,ti103,ti108,ti24,ti28,ti96, h8, h7, builtE, hl3, w64]
        refine condC_dec (fun hh => ?_) (fun hh => ?_)
        · have hw3 := hw.same (hup3.le hs).row
          try simp (disch := first | omega | (simp only [ints_length, List.length_replicate, List.length_set]; done) | (simp only [ints_length, List.length_replicate, List.length_set]; omega)) only [Sall,evalOp,init,binE,binI,unE,convE,okNil,builtE,gv,TD.isAgg,resV,↓reduceIte,Nat.reduceEqDiff,reduceCtorEq,Nat.reduceAdd,Nat.reduceMul,Nat.reduceLeDiff,quietOp,blindOp,Int.reduceEq,Int.reduceLT,Int.reduceLE,Nat.reduceLT,ti2,ti3,ti4,ti41,ti42,ti62,ti22,ti45,ti37,ti47,ti39,ti74,ti138,ti101,ti103,ti108,ti24,ti28,ti96, h8, h7, h19, h18, h17, h5, h1, builtE, hw3.len]
          refine awp_loop (fun z t H4 => ∃ d : Nat, z = ws.length - d ∧ d ≤ ws.length ∧ t 32 = .int .i64 d ∧ t 31 = .int .i64 ws.length ∧ t 30 = wv ∧ t 8 = .int .i64 ((4 * c : Nat) : Int) ∧ t 7 = y ∧ t 19 = .int .i64 a ∧ t 18 = .int .i64 R.length ∧ t 17 = u ∧ t 5 = o ∧ t 1 = wv ∧ Up H.next H H4 ∧ H2.next ≤ H4.next ∧ Fr2 1 62 2 H1.next H2.next H4 o (cntMx n (evA n ws R a ++ evR n ws l c ++ evW n (qd l c) (ws.take d)))) ws.length ?_ ?_
          · refine ⟨0, by omega, by omega, ?_⟩
            try simp (disch := first | omega | (simp only [ints_length, List.length_replicate, List.length_set]; done) | (simp only [ints_length, List.length_replicate, List.length_set]; omega)) only [Sall,evalOp,init,binE,binI,unE,convE,okNil,builtE,gv,TD.isAgg,resV,↓reduceIte,Nat.reduceEqDiff,reduceCtorEq,Nat.reduceAdd,Nat.reduceMul,Nat.reduceLeDiff,quietOp,blindOp,Int.reduceEq,Int.reduceLT,Int.reduceLE,Nat.reduceLT,ti2,ti3,ti4,ti41,ti42,ti62,ti22,ti45,ti37,ti47,ti39,ti74,ti138,ti101,ti103,ti108,ti24,ti28,ti96, Int.natCast_zero, h8, h7, h19, h18, h17, h5, h1]
            refine ⟨hup3, hnx3, ?_⟩
            rw [List.take_zero, show evW n (qd l c) [] = [] from rfl, List.append_nil]; exact hf3
          · rintro z t H4 ⟨d, hz, hd, h32, h31, h30, h8, h7, h19, h18, h17, h5, h1, hup4, hnx4, hf4⟩
            try simp (disch := first | omega | (simp only [ints_length, List.length_replicate, List.length_set]; done) | (simp only [ints_length, List.length_replicate, List.length_set]; omega)) only [Sall,evalOp,init,binE,binI,unE,convE,okNil,builtE,gv,TD.isAgg,resV,↓reduceIte,Nat.reduceEqDiff,reduceCtorEq,Nat.reduceAdd,Nat.reduceMul,Nat.reduceLeDiff,quietOp,blindOp,Int.reduceEq,Int.reduceLT,Int.reduceLE,Nat.reduceLT,ti2,ti3,ti4,ti41,ti42,ti62,ti22,ti45,ti37,ti47,ti39,ti74,ti138,ti101,ti103,ti108,ti24,ti28,ti96, h32, h31]
            refine condC_dec (fun hhh => ?_) (fun hhh => ?_)
            · have hw4 := hw.same (hup4.le hs).row
              obtain ⟨wi, wo, wu, wc, wr, ew, hwr, _, _, hwg⟩ := hw4.get (by omega)
              have hwa := hwg (d * 2) 2 (by omega)
              rw [wayL_at ws d (by omega)] at hwa
              obtain ⟨w1, w2⟩ := hws (ws.getD d (0, 0)) (getD_mem2 ws d (by omega))
              have hsn := ways_snoc ws d (by omega)
              revert hwa w1 w2 hsn
              generalize ws.getD d (0, 0) = w
              intro hwa w1 w2 hsn
              obtain ⟨yi, yo, yu, yc, yr, ey, hyr, _, hyg, _⟩ := (hold (Up.refl H.next H)).get (by omega)
              have hyi := hs _ _ hyr
              have hyr4 : H4.row yi = some yr := by rw [hup4.row _ hyi]; exact hyr
              have hup41 := hup4.next
              have hyne : ¬ yi = H4.next := by omega
              have mem : ∀ j, j < l.length → 0 ≤ l.getD j 0 ∧ l.getD j 0 < (n : Int) := fun j hj => hin _ (by rw [List.getD_eq_getElem?_getD, List.getElem?_eq_getElem hj]; exact List.getElem_mem _)
              have m1 := mem (4 * c + w.1) (by omega)
              have m2 := mem (4 * c + w.2) (by omega)
              have g1 := hyg (4 * c + w.1) (by omega)
              have g2 := hyg (4 * c + w.2) (by omega)
              have ep : l.getD (4 * c + w.1) 0 = ((qd l c w.1 : Nat) : Int) := by unfold qd; omega
              have eq : l.getD (4 * c + w.2) 0 = ((qd l c w.2 : Nat) : Int) := by unfold qd; omega
              rw [ep] at g1 m1
              rw [eq] at g2 m2
              have hA1 : (((4 * c : Nat) : Int) + (w.1 : Int)).toNat = 4 * c + w.1 := by omega
              have hA2 : (((4 * c : Nat) : Int) + (w.2 : Int)).toNat = 4 * c + w.2 := by omega
              have hev := evW_snoc n (qd l c) (ws.take d) w
              rw [← hsn] at hev
              revert g1 g2 m1 m2 hev
              generalize qd l c w.1 = p
              generalize qd l c w.2 = q
              intro m1 m2 g1 g2 hev
              have hlenI : (evA n ws R a ++ evR n ws l c ++ evW n (qd l c) (ws.take d)).length ≤ 10000 := by
                rw [List.length_append, List.length_append, evR_length, evW_length, List.length_take]
                have h1 : c * (2 * ws.length) ≤ 4 * 8 := Nat.mul_le_mul (by omega) (by omega)
                omega
              have hevX : evA n ws R a ++ evR n ws l c ++ evW n (qd l c) (ws.take (d + 1)) = (evA n ws R a ++ evR n ws l c ++ evW n (qd l c) (ws.take d)) ++ [ixN n p q] ++ [ixN n q p] := by rw [hev]; simp
              obtain ⟨I, eI⟩ : ∃ I, I = evA n ws R a ++ evR n ws l c ++ evW n (qd l c) (ws.take d) := ⟨_, rfl⟩
              rw [← eI] at hevX hlenI hf4
              try simp (disch := first | omega | (simp only [ints_length, List.length_replicate, List.length_set]; done) | (simp only [ints_length, List.length_replicate, List.length_set]; omega)) only [Sall,evalOp,init,binE,binI,unE,convE,okNil,builtE,gv,TD.isAgg,resV,↓reduceIte,Nat.reduceEqDiff,reduceCtorEq,Nat.reduceAdd,Nat.reduceMul,Nat.reduceLeDiff,quietOp,blindOp,Int.reduceEq,Int.reduceLT,Int.reduceLE,Nat.reduceLT,ti2,ti3,ti4,ti41,ti42,ti62,ti22,ti45,ti37,ti47,ti39,ti74,ti138,ti101,ti103,ti108,ti24,ti28,ti96, h32, h31, h30, h8, h7, h19, h18, h17, h5, h1, ew, hwr, hwa]
              (repeat refine And.intro (by omega) ?_)
              refine awp_cutQ (fun t H5 => t 11 = .int .i64 p ∧ t 12 = .int .i64 q ∧ t 32 = .int .i64 d ∧ t 31 = .int .i64 ws.length ∧ t 30 = wv ∧ t 8 = .int .i64 ((4 * c : Nat) : Int) ∧ t 7 = y ∧ t 19 = .int .i64 a ∧ t 18 = .int .i64 R.length ∧ t 17 = u ∧ t 5 = o ∧ t 1 = wv ∧ Up H4.next H4 H5) ?_ ?_
              · refine draw_id (by kernel_rfl) (by kernel_rfl) ?_
                have sp0 : (splice [Value.int IntKind.i64 0, Value.int IntKind.i64 0] 0 (ints [(w.1 : Int), (w.2 : Int)]))[Int.toNat 0]? = some (.int .i64 w.1) := rfl
                have sp1 : (splice [Value.int IntKind.i64 0, Value.int IntKind.i64 0] 0 (ints [(w.1 : Int), (w.2 : Int)]))[Int.toNat 1]? = some (.int .i64 w.2) := rfl
                try simp (disch := first | omega | (simp only [ints_length, List.length_replicate, List.length_set]; done) | (simp only [ints_length, List.length_replicate, List.length_set]; omega)) only [Sall,evalOp,init,binE,binI,unE,convE,okNil,builtE,gv,TD.isAgg,resV,↓reduceIte,Nat.reduceEqDiff,reduceCtorEq,Nat.reduceAdd,Nat.reduceMul,Nat.reduceLeDiff,quietOp,blindOp,Int.reduceEq,Int.reduceLT,Int.reduceLE,Nat.reduceLT,ti2,ti3,ti4,ti41,ti42,ti62,ti22,ti45,ti37,ti47,ti39,ti74,ti138,ti101,ti103,ti108,ti24,ti28,ti96, h32, h31, h30, h8, h7, h19, h18, h17, h5, h1, ey, hyr4, hyne, hA1, hA2, g1, g2, sp0, sp1, w64]
                (repeat refine And.intro (by omega) ?_)
                exact ((Up.refl _ H4).push (Nat.le_refl _) _).set (Nat.le_refl _) _
              · rintro t H5 ⟨h11, h12, h32, h31, h30, h8, h7, h19, h18, h17, h5, h1, up5⟩
                have hf5 : Fr2 1 62 2 H1.next H2.next H5 o (cntMx n I) := hf4.same fun i _ hi => up5.row i (by omega)
                have up51 := up5.next
                have hup5 : Up H.next H H5 := hup4.trans up5 hup41
                rw [awp_seq]
                refine awp_cutQ (fun t H6 => t 11 = .int .i64 p ∧ t 12 = .int .i64 q ∧ t 32 = .int .i64 d ∧ t 31 = .int .i64 ws.length ∧ t 30 = wv ∧ t 8 = .int .i64 ((4 * c : Nat) : Int) ∧ t 7 = y ∧ t 19 = .int .i64 a ∧ t 18 = .int .i64 R.length ∧ t 17 = u ∧ t 5 = o ∧ t 1 = wv ∧ Up H.next H H6 ∧ H2.next ≤ H6.next ∧ Fr2 1 62 2 H1.next H2.next H6 o (cntMx n (I ++ [ixN n p q]))) ?_ ?_
                · have hsq1 := cntMx_sq n (I)
                  have hinc1 := cntMx_inc n (I) p q (by omega) (by omega) (by omega)
                  have hrow1 := hsq1.2 p (by omega)
                  obtain ⟨mi, mvs, i6, eo, q1, q2, q3, q4, q5, q6, q7, q8, q9⟩ := hf5.setF (j := p) (by rw [hsq1.1]; omega) (by omega)
                  have hMl1 := hsq1.1
                  have q10 := q9 (incR ((cntMx n (I)).getD p []) (q : Int)) (incR_length _ _)
                  rw [hrow1] at q4
                  try simp (disch := first | omega | (simp only [ints_length, List.length_replicate, List.length_set]; done) | (simp only [ints_length, List.length_replicate, List.length_set]; omega)) only [Sall,evalOp,init,binE,binI,unE,convE,okNil,builtE,gv,TD.isAgg,resV,↓reduceIte,Nat.reduceEqDiff,reduceCtorEq,Nat.reduceAdd,Nat.reduceMul,Nat.reduceLeDiff,quietOp,blindOp,Int.reduceEq,Int.reduceLT,Int.reduceLE,Nat.reduceLT,ti2,ti3,ti4,ti41,ti42,ti62,ti22,ti45,ti37,ti47,ti39,ti74,ti138,ti101,ti103,ti108,ti24,ti28,ti96, h11, h12, h32, h31, h30, h8, h7, h19, h18, h17, h5, h1, eo, q3, q4, q8, hMl1, Int.toNat_natCast, ints_get?, ints_set, w64]
                  (repeat refine And.intro (by omega) ?_)
                  refine ⟨hup5.set (by omega) _, by omega, ?_⟩
                  rw [← hinc1]
                  rw [eo, hMl1] at q10
                  exact q10
                · rintro t H6 ⟨h11, h12, h32, h31, h30, h8, h7, h19, h18, h17, h5, h1, up6, hn6, hf6⟩
                  have hsq2 := cntMx_sq n (I ++ [ixN n p q])
                  have hinc2 := cntMx_inc n (I ++ [ixN n p q]) q p (by omega) (by omega) (by rw [List.length_append, List.length_singleton]; omega)
                  have hrow2 := hsq2.2 q (by omega)
                  obtain ⟨mi, mvs, i6, eo, q1, q2, q3, q4, q5, q6, q7, q8, q9⟩ := hf6.setF (j := q) (by rw [hsq2.1]; omega) (by omega)
                  have hMl2 := hsq2.1
                  have q10 := q9 (incR ((cntMx n (I ++ [ixN n p q])).getD q []) (p : Int)) (incR_length _ _)
                  rw [hrow2] at q4
                  try simp (disch := first | omega | (simp only [ints_length, List.length_replicate, List.length_set]; done) | (simp only [ints_length, List.length_replicate, List.length_set]; omega)) only [Sall,evalOp,init,binE,binI,unE,convE,okNil,builtE,gv,TD.isAgg,resV,↓reduceIte,Nat.reduceEqDiff,reduceCtorEq,Nat.reduceAdd,Nat.reduceMul,Nat.reduceLeDiff,quietOp,blindOp,Int.reduceEq,Int.reduceLT,Int.reduceLE,Nat.reduceLT,ti2,ti3,ti4,ti41,ti42,ti62,ti22,ti45,ti37,ti47,ti39,ti74,ti138,ti101,ti103,ti108,ti24,ti28,ti96, h11, h12, h32, h31, h30, h8, h7, h19, h18, h17, h5, h1, eo, q3, q4, q8, hMl2, Int.toNat_natCast, ints_get?, ints_set, w64]
                  (repeat refine And.intro (by omega) ?_)
                  refine ⟨ws.length - (d + 1), by omega, d + 1, rfl, by omega, by omega, up6.set (by omega) _, hn6, ?_⟩
                  rw [hevX, ← hinc2]
                  rw [eo, hMl2] at q10
                  exact q10
            · have hd2 : d = ws.length := by omega
              subst hd2
              rw [List.take_length] at hf4
              try simp (disch := first | omega | (simp only [ints_length, List.length_replicate, List.length_set]; done) | (simp only [ints_length, List.length_replicate, List.length_set]; omega)) only [Sall,evalOp,init,binE,binI,unE,convE,okNil,builtE,gv,TD.isAgg,resV,↓reduceIte,Nat.reduceEqDiff,reduceCtorEq,Nat.reduceAdd,Nat.reduceMul,Nat.reduceLeDiff,quietOp,blindOp,Int.reduceEq,Int.reduceLT,Int.reduceLE,Nat.reduceLT,ti2,ti3,ti4,ti41,ti42,ti62,ti22,ti45,ti37,ti47,ti39,ti74,ti138,ti101,ti103,ti108,ti24,ti28,ti96, h8, h7, h19, h18, h17, h5, h1, w64]
              refine ⟨l.length / 4 - (c + 1), by omega, c + 1, rfl, by omega, by omega, hup4, hnx4, ?_⟩
              rw [evR_succ, ← List.append_assoc]; exact hf4
        · have hc2 : c = l.length / 4 := by omega
          subst hc2
          try simp (disch := first | omega | (simp only [ints_length, List.length_replicate, List.length_set]; done) | (simp only [ints_length, List.length_replicate, List.length_set]; omega)) only [Sall,evalOp,init,binE,binI,unE,convE,okNil,builtE,gv,TD.isAgg,resV,↓reduceIte,Nat.reduceEqDiff,reduceCtorEq,Nat.reduceAdd,Nat.reduceMul,Nat.reduceLeDiff,quietOp,blindOp,Int.reduceEq,Int.reduceLT,Int.reduceLE,Nat.reduceLT,ti2,ti3,ti4,ti41,ti42,ti62,ti22,ti45,ti37,ti47,ti39,ti74,ti138,ti101,ti103,ti108,ti24,ti28,ti96, h19, h18, h17, h5, h1, w64]
          refine ⟨R.length - (a + 1), by omega, a + 1, rfl, by omega, by omega, hup3, hnx3, ?_⟩
          rw [hevS]; exact hf3
    · have ha2 : a = R.length := by omega
      subst ha2
      try simp (disch := first | omega | (simp only [ints_length, List.length_replicate, List.length_set]; done) | (simp only [ints_length, List.length_replicate, List.length_set]; omega)) only [Sall,evalOp,init,binE,binI,unE,convE,okNil,builtE,gv,TD.isAgg,resV,↓reduceIte,Nat.reduceEqDiff,reduceCtorEq,Nat.reduceAdd,Nat.reduceMul,Nat.reduceLeDiff,quietOp,blindOp,Int.reduceEq,Int.reduceLT,Int.reduceLE,Nat.reduceLT,ti2,ti3,ti4,ti41,ti42,ti62,ti22,ti45,ti37,ti47,ti39,ti74,ti138,ti101,ti103,ti108,ti24,ti28,ti96, h5]
      exact ⟨hup, hf.wide (by omega) hnx⟩
end Go.Proofs.Ytnpmidgikbbnbaa.A
end

section
set_option linter.unusedSimpArgs false
set_option linter.unusedVariables false
set_option maxRecDepth 100000
set_option maxHeartbeats 2000000
namespace Go.Proofs.Ytnpmidgikbbnbaa.A
open Go Go.Abs Go.RowKit

def EvOk (n : Nat) (R : List (List Int)) : Prop := R.length ≤ 20 ∧ ∀ i, i < R.length → (R.getD i []).length ≤ 16 ∧ ∀ x ∈ R.getD i [], 0 ≤ x ∧ x < (n : Int)

theorem partners_c (n : Nat) (hn : 1 ≤ n ∧ n ≤ 16) (u : Value) (R : List (List Int)) (H : AH) (hu : Rd2 1 H u R) (hR : EvOk n R) :
    ACalls Try.prog 45 [.agg #[.int .i64 n, u]] H (fun r H' => Up H.next H H' ∧ Fr2 1 62 2 H.next H'.next H' r (tabM n wP R)) := by
  refine ACalls.wf (by kernel_rfl) fun hs => acalls_of_awp [.tmp 2] Try.func45 (by kernel_rfl) rfl rfl (Nat.le_of_ble_eq_true rfl) (by kernel_rfl) ?_
  have hone := hu.one
  have zz : zeros 2 [.int .i64 0, .int .i64 0] = [.int .i64 0, .int .i64 0, .int .i64 0, .int .i64 0] := rfl
  have sp0 : splice ([.int .i64 0, .int .i64 0, .int .i64 0, .int .i64 0] : List Value) 0 [.int .i64 0, .int .i64 1] = [.int .i64 0, .int .i64 1, .int .i64 0, .int .i64 0] := rfl
  have sp1 : splice ([.int .i64 0, .int .i64 1, .int .i64 0, .int .i64 0] : List Value) 2 [.int .i64 2, .int .i64 3] = [.int .i64 0, .int .i64 1, .int .i64 2, .int .i64 3] := rfl
  try simp (disch := first | omega | (simp only [ints_length, List.length_replicate, List.length_set]; done) | (simp only [ints_length, List.length_replicate, List.length_set]; omega)) only [Sall,evalOp,init,binE,binI,unE,convE,okNil,builtE,gv,TD.isAgg,resV,↓reduceIte,Nat.reduceEqDiff,reduceCtorEq,Nat.reduceAdd,Nat.reduceMul,Nat.reduceLeDiff,quietOp,blindOp,Int.reduceEq,Int.reduceLT,Int.reduceLE,Nat.reduceLT,ti2,ti3,ti4,ti41,ti42,ti62,ti22,ti45,ti37,ti47,ti39,ti74,ti138,ti101,ti103,ti108,ti24,ti28,ti96, hone, slCells, zz, sp0, sp1]
  obtain ⟨H2, e2⟩ : ∃ H2, H2 = (H.push ⟨28, true, [.int .i64 n, u]⟩).push ⟨103, true, [.int .i64 0, .int .i64 1, .int .i64 2, .int .i64 3]⟩ := ⟨_, rfl⟩
  have up2 : Up H.next H H2 := by rw [e2]; exact ((Up.refl _ H).push (Nat.le_refl _) _).push (by simp only [AH.push_next]; omega) _
  have r2 : H2.row (H.next + 1) = some ⟨103, true, [.int .i64 0, .int .i64 1, .int .i64 2, .int .i64 3]⟩ := by rw [e2, AH.push_row, AH.push_next, if_pos rfl]
  have n2 : H2.next = H.next + 2 := by rw [e2]; rfl
  rw [← e2]
  clear e2
  refine (together_c n hn u R (.slice (some ⟨H.next + 1, 0, some 2⟩) 2 2) wP H2 (hu.same (up2.le hs).row) ⟨rfl, .inr ⟨H.next + 1, 0, _, _, _, rfl, r2, Nat.le_refl _, rfl⟩⟩ (by decide) (by decide) hR.1 hR.2).mono ?_
  rintro r H3 ⟨up3, f3⟩
  have n3 := up3.next
  have ho := f3.rd.one
  refine Holds.mp ?_
  try simp (disch := first | omega | (simp only [ints_length, List.length_replicate, List.length_set]; done) | (simp only [ints_length, List.length_replicate, List.length_set]; omega)) only [Sall,evalOp,init,binE,binI,unE,convE,okNil,builtE,gv,TD.isAgg,resV,↓reduceIte,Nat.reduceEqDiff,reduceCtorEq,Nat.reduceAdd,Nat.reduceMul,Nat.reduceLeDiff,quietOp,blindOp,Int.reduceEq,Int.reduceLT,Int.reduceLE,Nat.reduceLT,ti2,ti3,ti4,ti41,ti42,ti62,ti22,ti45,ti37,ti47,ti39,ti74,ti138,ti101,ti103,ti108,ti24,ti28,ti96, ho]
  exact ⟨up2.trans up3 (by omega), f3.wide (by omega) (Nat.le_refl _)⟩

theorem opponents0_c (n : Nat) (hn : 1 ≤ n ∧ n ≤ 16) (u : Value) (R : List (List Int)) (H : AH) (hu : Rd2 1 H u R) (hR : EvOk n R) :
    ACalls Try.prog 50 [.agg #[.int .i64 n, u], .int .i64 0] H (fun r H' => Up H.next H H' ∧ Fr2 1 62 2 H.next H'.next H' r (tabM n wO R)) := by
  have hone := hu.one
  have zz : zeros 4 [.int .i64 0, .int .i64 0] = [.int .i64 0, .int .i64 0, .int .i64 0, .int .i64 0, .int .i64 0, .int .i64 0, .int .i64 0, .int .i64 0] := rfl
  have sp0 : splice ([.int .i64 0, .int .i64 0, .int .i64 0, .int .i64 0, .int .i64 0, .int .i64 0, .int .i64 0, .int .i64 0] : List Value) 0 [.int .i64 0, .int .i64 2] = [.int .i64 0, .int .i64 2, .int .i64 0, .int .i64 0, .int .i64 0, .int .i64 0, .int .i64 0, .int .i64 0] := rfl
  have sp1 : splice ([.int .i64 0, .int .i64 2, .int .i64 0, .int .i64 0, .int .i64 0, .int .i64 0, .int .i64 0, .int .i64 0] : List Value) 2 [.int .i64 1, .int .i64 3] = [.int .i64 0, .int .i64 2, .int .i64 1, .int .i64 3, .int .i64 0, .int .i64 0, .int .i64 0, .int .i64 0] := rfl
  have sp2 : splice ([.int .i64 0, .int .i64 2, .int .i64 1, .int .i64 3, .int .i64 0, .int .i64 0, .int .i64 0, .int .i64 0] : List Value) 4 [.int .i64 0, .int .i64 3] = [.int .i64 0, .int .i64 2, .int .i64 1, .int .i64 3, .int .i64 0, .int .i64 3, .int .i64 0, .int .i64 0] := rfl
  have sp3 : splice ([.int .i64 0, .int .i64 2, .int .i64 1, .int .i64 3, .int .i64 0, .int .i64 3, .int .i64 0, .int .i64 0] : List Value) 6 [.int .i64 1, .int .i64 2] = [.int .i64 0, .int .i64 2, .int .i64 1, .int .i64 3, .int .i64 0, .int .i64 3, .int .i64 1, .int .i64 2] := rfl
  refine ACalls.wf (by kernel_rfl) fun hs => acalls_of_awp [.tmp 4] Try.func50 (by kernel_rfl) rfl rfl (Nat.le_of_ble_eq_true rfl) (by kernel_rfl) ?_
  have e1 : ((0 : Int) == 1) = false := rfl
  have e2' : ((0 : Int) == 2) = false := rfl
  try simp (disch := first | omega | (simp only [ints_length, List.length_replicate, List.length_set]; done) | (simp only [ints_length, List.length_replicate, List.length_set]; omega)) only [Sall,evalOp,init,binE,binI,unE,convE,okNil,builtE,gv,TD.isAgg,resV,↓reduceIte,Nat.reduceEqDiff,reduceCtorEq,Nat.reduceAdd,Nat.reduceMul,Nat.reduceLeDiff,quietOp,blindOp,Int.reduceEq,Int.reduceLT,Int.reduceLE,Nat.reduceLT,ti2,ti3,ti4,ti41,ti42,ti62,ti22,ti45,ti37,ti47,ti39,ti74,ti138,ti101,ti103,ti108,ti24,ti28,ti96, hone, slCells, zz, sp0, sp1, sp2, sp3, e1, e2']
  obtain ⟨H2, e2⟩ : ∃ H2, H2 = (H.push ⟨28, true, [.int .i64 n, u]⟩).push ⟨103, true, [.int .i64 0, .int .i64 2, .int .i64 1, .int .i64 3, .int .i64 0, .int .i64 3, .int .i64 1, .int .i64 2]⟩ := ⟨_, rfl⟩
  have up2 : Up H.next H H2 := by rw [e2]; exact ((Up.refl _ H).push (Nat.le_refl _) _).push (by simp only [AH.push_next]; omega) _
  have r2 : H2.row (H.next + 1) = some ⟨103, true, [.int .i64 0, .int .i64 2, .int .i64 1, .int .i64 3, .int .i64 0, .int .i64 3, .int .i64 1, .int .i64 2]⟩ := by rw [e2, AH.push_row, AH.push_next, if_pos rfl]
  have n2 : H2.next = H.next + 2 := by rw [e2]; rfl
  rw [← e2]
  clear e2
  refine (together_c n hn u R (.slice (some ⟨H.next + 1, 0, some 2⟩) 4 4) wO H2 (hu.same (up2.le hs).row) ⟨rfl, .inr ⟨H.next + 1, 0, _, _, _, rfl, r2, by decide, rfl⟩⟩ (by decide) (by decide) hR.1 hR.2).mono ?_
  rintro r H3 ⟨up3, f3⟩
  have n3 := up3.next
  have ho := f3.rd.one
  refine Holds.mp ?_
  try simp (disch := first | omega | (simp only [ints_length, List.length_replicate, List.length_set]; done) | (simp only [ints_length, List.length_replicate, List.length_set]; omega)) only [Sall,evalOp,init,binE,binI,unE,convE,okNil,builtE,gv,TD.isAgg,resV,↓reduceIte,Nat.reduceEqDiff,reduceCtorEq,Nat.reduceAdd,Nat.reduceMul,Nat.reduceLeDiff,quietOp,blindOp,Int.reduceEq,Int.reduceLT,Int.reduceLE,Nat.reduceLT,ti2,ti3,ti4,ti41,ti42,ti62,ti22,ti45,ti37,ti47,ti39,ti74,ti138,ti101,ti103,ti108,ti24,ti28,ti96, ho]
  exact ⟨up2.trans up3 (by omega), f3.wide (by omega) (Nat.le_refl _)⟩

theorem twice_c (x : Int) (H : AH) : ACalls Try.prog 85 [.int .i64 x] H (is (.bool (x == 2)) H) := by
  refine acalls_of_awp [.tmp 2] Try.func85 (by kernel_rfl) rfl rfl (Nat.le_of_ble_eq_true rfl) (by kernel_rfl) ?_
  try simp (disch := first | omega | (simp only [ints_length, List.length_replicate, List.length_set]; done) | (simp only [ints_length, List.length_replicate, List.length_set]; omega)) only [Sall,evalOp,init,binE,binI,unE,convE,okNil,builtE,gv,TD.isAgg,resV,↓reduceIte,Nat.reduceEqDiff,reduceCtorEq,Nat.reduceAdd,Nat.reduceMul,Nat.reduceLeDiff,quietOp,blindOp,Int.reduceEq,Int.reduceLT,Int.reduceLE,Nat.reduceLT,ti2,ti3,ti4,ti41,ti42,ti62,ti22,ti45,ti37,ti47,ti39,ti74,ti138,ti101,ti103,ti108,ti24,ti28,ti96, is]
theorem isWhistC_c (n : Nat) (hn : 1 ≤ n ∧ n ≤ 16) (y : Value) (l : List Int) (c0 : Nat) (H : AH) (h0 : H.row c0 = some ⟨2, true, [.int .i64 n]⟩) (hy : Rd 1 H y l.length l) (hl : l.length ≤ 4294967296) :
    ACalls Try.prog 83 [y, .pointer (some ⟨c0, 0, none⟩)] H (is (.bool (!decide (l.length = n - n % 4))) H) := by
  refine acalls_of_awp [.tmp 3] Try.func83 (by kernel_rfl) rfl rfl (Nat.le_of_ble_eq_true rfl) (by kernel_rfl) ?_
  have em : Int.tmod (n : Int) 4 = ((n % 4 : Nat) : Int) := rfl
  try simp (disch := first | omega | (simp only [ints_length, List.length_replicate, List.length_set]; done) | (simp only [ints_length, List.length_replicate, List.length_set]; omega)) only [Sall,evalOp,init,binE,binI,unE,convE,okNil,builtE,gv,TD.isAgg,resV,↓reduceIte,Nat.reduceEqDiff,reduceCtorEq,Nat.reduceAdd,Nat.reduceMul,Nat.reduceLeDiff,quietOp,blindOp,Int.reduceEq,Int.reduceLT,Int.reduceLE,Nat.reduceLT,ti2,ti3,ti4,ti41,ti42,ti62,ti22,ti45,ti37,ti47,ti39,ti74,ti138,ti101,ti103,ti108,ti24,ti28,ti96, true_and]
  refine draw_in [0, 2, 3, 4, 5, 1, 6, 7] (by kernel_rfl) (by kernel_rfl) (by kernel_rfl) ?_
  try simp (disch := first | omega | (simp only [ints_length, List.length_replicate, List.length_set]; done) | (simp only [ints_length, List.length_replicate, List.length_set]; omega)) only [Sall,evalOp,init,binE,binI,unE,convE,okNil,builtE,gv,TD.isAgg,resV,↓reduceIte,Nat.reduceEqDiff,reduceCtorEq,Nat.reduceAdd,Nat.reduceMul,Nat.reduceLeDiff,quietOp,blindOp,Int.reduceEq,Int.reduceLT,Int.reduceLE,Nat.reduceLT,ti2,ti3,ti4,ti41,ti42,ti62,ti22,ti45,ti37,ti47,ti39,ti74,ti138,ti101,ti103,ti108,ti24,ti28,ti96, h0, em, w64]
  refine (size_c y l H hy hl).to ?_
  refine ⟨.inr (.inr (LE.refl _)), ?_⟩
  by_cases h : l.length = n - n % 4
  · have e : ((l.length : Int) != (n : Int) - ((n % 4 : Nat) : Int)) = false := by rw [h, show (((n - n % 4 : Nat)) : Int) = (n : Int) - ((n % 4 : Nat) : Int) by omega]; exact bne_self_eq_false _
    rw [decide_eq_true h]
    try simp (disch := first | omega | (simp only [ints_length, List.length_replicate, List.length_set]; done) | (simp only [ints_length, List.length_replicate, List.length_set]; omega)) only [Sall,evalOp,init,binE,binI,unE,convE,okNil,builtE,gv,TD.isAgg,resV,↓reduceIte,Nat.reduceEqDiff,reduceCtorEq,Nat.reduceAdd,Nat.reduceMul,Nat.reduceLeDiff,quietOp,blindOp,Int.reduceEq,Int.reduceLT,Int.reduceLE,Nat.reduceLT,ti2,ti3,ti4,ti41,ti42,ti62,ti22,ti45,ti37,ti47,ti39,ti74,ti138,ti101,ti103,ti108,ti24,ti28,ti96, e, is]
  · have e : ((l.length : Int) != (n : Int) - ((n % 4 : Nat) : Int)) = true := by rw [bne_iff_ne]; omega
    rw [decide_eq_false h]
    try simp (disch := first | omega | (simp only [ints_length, List.length_replicate, List.length_set]; done) | (simp only [ints_length, List.length_replicate, List.length_set]; omega)) only [Sall,evalOp,init,binE,binI,unE,convE,okNil,builtE,gv,TD.isAgg,resV,↓reduceIte,Nat.reduceEqDiff,reduceCtorEq,Nat.reduceAdd,Nat.reduceMul,Nat.reduceLeDiff,quietOp,blindOp,Int.reduceEq,Int.reduceLT,Int.reduceLE,Nat.reduceLT,ti2,ti3,ti4,ti41,ti42,ti62,ti22,ti45,ti37,ti47,ti39,ti74,ti138,ti101,ti103,ti108,ti24,ti28,ti96, e, is]

theorem isWhist_c (n : Nat) (hn : 1 ≤ n ∧ n ≤ 16) (u : Value) (R : List (List Int)) (H : AH) (hu : Rd2 1 H u R) (hR : EvOk n R) :
    ACalls Try.prog 48 [.agg #[.int .i64 n, u]] H (is (.bool (whistB n R)) H) := by
  refine acalls_up (by simp [flat, Abs.scal]) (ACalls.wf (by kernel_rfl) fun hs => acalls_of_awp [.tmp 2] Try.func48 (by kernel_rfl) rfl rfl (Nat.le_of_ble_eq_true rfl) (by kernel_rfl) ?_)
  have hone := hu.one
  have em : Int.tmod (n : Int) 4 = ((n % 4 : Nat) : Int) := rfl
  obtain ⟨H2, e2⟩ : ∃ H2, H2 = ((H.push ⟨28, true, [.int .i64 n, u]⟩).push ⟨2, true, [.int .i64 0]⟩).setCells (H.next + 1) [.int .i64 n] := ⟨_, rfl⟩
  have up2 : Up H.next H H2 := by rw [e2]; exact (((Up.refl _ H).push (Nat.le_refl _) _).push (by simp only [AH.push_next]; omega) _).set (by omega) _
  have r0 : H2.row H.next = some ⟨28, true, [.int .i64 n, u]⟩ := by rw [e2]; simp [AH.setCells_row, AH.push_row, AH.push_next]
  have r1 : H2.row (H.next + 1) = some ⟨2, true, [.int .i64 n]⟩ := by rw [e2]; simp [AH.setCells_row, AH.push_row, AH.push_next]
  have n2 : H2.next = H.next + 2 := by rw [e2]; rfl
  have sc2 : Sc H2 := by rw [e2]; exact ((Sc.push hs _).push _).set _ _
  have zz : zeros 1 [.int .i64 0] = [.int .i64 0] := rfl
  try simp (disch := first | omega | (simp only [ints_length, List.length_replicate, List.length_set]; done) | (simp only [ints_length, List.length_replicate, List.length_set]; omega)) only [Sall,evalOp,init,binE,binI,unE,convE,okNil,builtE,gv,TD.isAgg,resV,↓reduceIte,Nat.reduceEqDiff,reduceCtorEq,Nat.reduceAdd,Nat.reduceMul,Nat.reduceLeDiff,quietOp,blindOp,Int.reduceEq,Int.reduceLT,Int.reduceLE,Nat.reduceLT,ti2,ti3,ti4,ti41,ti42,ti62,ti22,ti45,ti37,ti47,ti39,ti74,ti138,ti101,ti103,ti108,ti24,ti28,ti96, hone, zz]
  rw [← e2]
  clear e2
  have hu2 := hu.same (up2.le hs).row
  unfold whistB formB
  refine draw_in [0, 1, 2, 3, 4, 5, 7, 8, 9, 10, 11, 6, 12, 13, 14, 15, 16, 17, 18, 19] (by kernel_rfl) (by kernel_rfl) (by kernel_rfl) ?_
  by_cases h4 : n % 4 ≤ 1
  · have d1 : ¬ (1 : Int) < ((n % 4 : Nat) : Int) := by omega
    rw [decide_eq_true h4]
    try simp (disch := first | omega | (simp only [ints_length, List.length_replicate, List.length_set]; done) | (simp only [ints_length, List.length_replicate, List.length_set]; omega)) only [Sall,evalOp,init,binE,binI,unE,convE,okNil,builtE,gv,TD.isAgg,resV,↓reduceIte,Nat.reduceEqDiff,reduceCtorEq,Nat.reduceAdd,Nat.reduceMul,Nat.reduceLeDiff,quietOp,blindOp,Int.reduceEq,Int.reduceLT,Int.reduceLE,Nat.reduceLT,ti2,ti3,ti4,ti41,ti42,ti62,ti22,ti45,ti37,ti47,ti39,ti74,ti138,ti101,ti103,ti108,ti24,ti28,ti96, r0, r1, em, d1, decide_false, w64]
    refine (sizeLL_c u R H2 hu2 (by have := hR.1; omega)).to ?_
    refine ⟨.inr (.inr (LE.refl _)), ?_⟩
    by_cases hm : R.length = n - 1 + n % 4
    · have d2 : ((R.length : Int) != (n : Int) - 1 + ((n % 4 : Nat) : Int)) = false := by rw [hm, show (((n - 1 + n % 4 : Nat)) : Int) = (n : Int) - 1 + ((n % 4 : Nat) : Int) by omega]; exact bne_self_eq_false _
      rw [decide_eq_true hm]
      try simp (disch := first | omega | (simp only [ints_length, List.length_replicate, List.length_set]; done) | (simp only [ints_length, List.length_replicate, List.length_set]; omega)) only [Sall,evalOp,init,binE,binI,unE,convE,okNil,builtE,gv,TD.isAgg,resV,↓reduceIte,Nat.reduceEqDiff,reduceCtorEq,Nat.reduceAdd,Nat.reduceMul,Nat.reduceLeDiff,quietOp,blindOp,Int.reduceEq,Int.reduceLT,Int.reduceLE,Nat.reduceLT,ti2,ti3,ti4,ti41,ti42,ti62,ti22,ti45,ti37,ti47,ti39,ti74,ti138,ti101,ti103,ti108,ti24,ti28,ti96, r0, r1, em, d2, w64, List.mem_cons, List.not_mem_nil, or_false, forall_eq_or_imp, forall_eq, Array.size_empty]
      refine (containsFuncLL_c 83 [.pointer (some ⟨H.next + 1, 0, none⟩)] (fun l => !decide (l.length = n - n % 4)) u R H2 hu2 (by have := hR.1; omega) ?_).to ?_
      · intro y l hl hy
        obtain ⟨i, hi, rfl⟩ := List.getElem_of_mem hl
        have := (hR.2 i hi).1
        rw [List.getD_eq_getElem?_getD, List.getElem?_eq_getElem hi] at this
        exact isWhistC_c n hn y _ (H.next + 1) H2 r1 hy (by simp only [Option.getD_some] at this; omega)
      · refine ⟨.inr (.inr (LE.refl _)), ?_⟩
        have hany : ((List.range R.length).any fun i => !decide ((R.getD i []).length = n - n % 4)) = !((List.range R.length).all fun i => decide ((R.getD i []).length = n - n % 4)) := by
          rw [List.not_all_eq_any_not]
        rw [hany]
        cases hall : (List.range R.length).all fun i => decide ((R.getD i []).length = n - n % 4) with
        | false =>
          try simp (disch := first | omega | (simp only [ints_length, List.length_replicate, List.length_set]; done) | (simp only [ints_length, List.length_replicate, List.length_set]; omega)) only [Sall,evalOp,init,binE,binI,unE,convE,okNil,builtE,gv,TD.isAgg,resV,↓reduceIte,Nat.reduceEqDiff,reduceCtorEq,Nat.reduceAdd,Nat.reduceMul,Nat.reduceLeDiff,quietOp,blindOp,Int.reduceEq,Int.reduceLT,Int.reduceLE,Nat.reduceLT,ti2,ti3,ti4,ti41,ti42,ti62,ti22,ti45,ti37,ti47,ti39,ti74,ti138,ti101,ti103,ti108,ti24,ti28,ti96, Bool.not_false, Bool.and_false, Bool.false_and]
          exact up2
        | true =>
          try simp (disch := first | omega | (simp only [ints_length, List.length_replicate, List.length_set]; done) | (simp only [ints_length, List.length_replicate, List.length_set]; omega)) only [Sall,evalOp,init,binE,binI,unE,convE,okNil,builtE,gv,TD.isAgg,resV,↓reduceIte,Nat.reduceEqDiff,reduceCtorEq,Nat.reduceAdd,Nat.reduceMul,Nat.reduceLeDiff,quietOp,blindOp,Int.reduceEq,Int.reduceLT,Int.reduceLE,Nat.reduceLT,ti2,ti3,ti4,ti41,ti42,ti62,ti22,ti45,ti37,ti47,ti39,ti74,ti138,ti101,ti103,ti108,ti24,ti28,ti96, Bool.not_true, Bool.true_and, r0]
          refine (partners_c n hn u R H2 hu2 hR).sc.mono ?_
          rintro v3 H3 ⟨⟨up3, f3⟩, sc3⟩
          have n3 := up3.next
          have r03 : H3.row H.next = some ⟨28, true, [.int .i64 n, u]⟩ := by rw [up3.row _ (by omega), r0]
          have U3 : Up H.next H H3 := up2.trans up3 (by omega)
          refine Holds.mp ?_
          try simp (disch := first | omega | (simp only [ints_length, List.length_replicate, List.length_set]; done) | (simp only [ints_length, List.length_replicate, List.length_set]; omega)) only [Sall,evalOp,init,binE,binI,unE,convE,okNil,builtE,gv,TD.isAgg,resV,↓reduceIte,Nat.reduceEqDiff,reduceCtorEq,Nat.reduceAdd,Nat.reduceMul,Nat.reduceLeDiff,quietOp,blindOp,Int.reduceEq,Int.reduceLT,Int.reduceLE,Nat.reduceLT,ti2,ti3,ti4,ti41,ti42,ti62,ti22,ti45,ti37,ti47,ti39,ti74,ti138,ti101,ti103,ti108,ti24,ti28,ti96, true_and]
          refine (areAll_c 51 (fun x => x == 1) once_c v3 n _ H3 f3.rd (tabM_sq _ _ _) (by omega)).to ?_
          cases h1 : eachB (fun x => x == 1) (tabM n wP R) with
          | false =>
            try simp (disch := first | omega | (simp only [ints_length, List.length_replicate, List.length_set]; done) | (simp only [ints_length, List.length_replicate, List.length_set]; omega)) only [Sall,evalOp,init,binE,binI,unE,convE,okNil,builtE,gv,TD.isAgg,resV,↓reduceIte,Nat.reduceEqDiff,reduceCtorEq,Nat.reduceAdd,Nat.reduceMul,Nat.reduceLeDiff,quietOp,blindOp,Int.reduceEq,Int.reduceLT,Int.reduceLE,Nat.reduceLT,ti2,ti3,ti4,ti41,ti42,ti62,ti22,ti45,ti37,ti47,ti39,ti74,ti138,ti101,ti103,ti108,ti24,ti28,ti96, Bool.false_and]
            exact ⟨rfl, U3⟩
          | true =>
            try simp (disch := first | omega | (simp only [ints_length, List.length_replicate, List.length_set]; done) | (simp only [ints_length, List.length_replicate, List.length_set]; omega)) only [Sall,evalOp,init,binE,binI,unE,convE,okNil,builtE,gv,TD.isAgg,resV,↓reduceIte,Nat.reduceEqDiff,reduceCtorEq,Nat.reduceAdd,Nat.reduceMul,Nat.reduceLeDiff,quietOp,blindOp,Int.reduceEq,Int.reduceLT,Int.reduceLE,Nat.reduceLT,ti2,ti3,ti4,ti41,ti42,ti62,ti22,ti45,ti37,ti47,ti39,ti74,ti138,ti101,ti103,ti108,ti24,ti28,ti96, Bool.true_and, r03]
            refine (opponents0_c n hn u R H3 (hu.same (U3.le hs).row) hR).mono ?_
            rintro v4 H4 ⟨up4, f4⟩
            have n4 := up4.next
            refine Holds.mp ?_
            try simp (disch := first | omega | (simp only [ints_length, List.length_replicate, List.length_set]; done) | (simp only [ints_length, List.length_replicate, List.length_set]; omega)) only [Sall,evalOp,init,binE,binI,unE,convE,okNil,builtE,gv,TD.isAgg,resV,↓reduceIte,Nat.reduceEqDiff,reduceCtorEq,Nat.reduceAdd,Nat.reduceMul,Nat.reduceLeDiff,quietOp,blindOp,Int.reduceEq,Int.reduceLT,Int.reduceLE,Nat.reduceLT,ti2,ti3,ti4,ti41,ti42,ti62,ti22,ti45,ti37,ti47,ti39,ti74,ti138,ti101,ti103,ti108,ti24,ti28,ti96, true_and]
            refine (areAll_c 85 (fun x => x == 2) twice_c v4 n _ H4 f4.rd (tabM_sq _ _ _) (by omega)).to ?_
            try simp (disch := first | omega | (simp only [ints_length, List.length_replicate, List.length_set]; done) | (simp only [ints_length, List.length_replicate, List.length_set]; omega)) only [Sall,evalOp,init,binE,binI,unE,convE,okNil,builtE,gv,TD.isAgg,resV,↓reduceIte,Nat.reduceEqDiff,reduceCtorEq,Nat.reduceAdd,Nat.reduceMul,Nat.reduceLeDiff,quietOp,blindOp,Int.reduceEq,Int.reduceLT,Int.reduceLE,Nat.reduceLT,ti2,ti3,ti4,ti41,ti42,ti62,ti22,ti45,ti37,ti47,ti39,ti74,ti138,ti101,ti103,ti108,ti24,ti28,ti96, true_and]
            exact ⟨rfl, U3.trans up4 (by omega)⟩
    · have d2 : ((R.length : Int) != (n : Int) - 1 + ((n % 4 : Nat) : Int)) = true := by rw [bne_iff_ne]; omega
      rw [decide_eq_false hm]
      try simp (disch := first | omega | (simp only [ints_length, List.length_replicate, List.length_set]; done) | (simp only [ints_length, List.length_replicate, List.length_set]; omega)) only [Sall,evalOp,init,binE,binI,unE,convE,okNil,builtE,gv,TD.isAgg,resV,↓reduceIte,Nat.reduceEqDiff,reduceCtorEq,Nat.reduceAdd,Nat.reduceMul,Nat.reduceLeDiff,quietOp,blindOp,Int.reduceEq,Int.reduceLT,Int.reduceLE,Nat.reduceLT,ti2,ti3,ti4,ti41,ti42,ti62,ti22,ti45,ti37,ti47,ti39,ti74,ti138,ti101,ti103,ti108,ti24,ti28,ti96, r0, r1, em, d2, Bool.and_false, Bool.false_and, w64]
      exact up2
  · have d1 : (1 : Int) < ((n % 4 : Nat) : Int) := by omega
    rw [decide_eq_false h4]
    try simp (disch := first | omega | (simp only [ints_length, List.length_replicate, List.length_set]; done) | (simp only [ints_length, List.length_replicate, List.length_set]; omega)) only [Sall,evalOp,init,binE,binI,unE,convE,okNil,builtE,gv,TD.isAgg,resV,↓reduceIte,Nat.reduceEqDiff,reduceCtorEq,Nat.reduceAdd,Nat.reduceMul,Nat.reduceLeDiff,quietOp,blindOp,Int.reduceEq,Int.reduceLT,Int.reduceLE,Nat.reduceLT,ti2,ti3,ti4,ti41,ti42,ti62,ti22,ti45,ti37,ti47,ti39,ti74,ti138,ti101,ti103,ti108,ti24,ti28,ti96, r0, r1, em, d1, decide_true, Bool.false_and, w64]
    exact up2
end Go.Proofs.Ytnpmidgikbbnbaa.A
end

section
set_option linter.unusedSimpArgs false
set_option linter.unusedVariables false
set_option maxRecDepth 100000
set_option maxHeartbeats 2000000
namespace Go.Proofs.Ytnpmidgikbbnbaa.A
open Go Go.Abs Go.RowKit

theorem xor4 : ∀ a w : Fin 4, IntKind.i64.wrap ((BitVec.ofInt IntKind.i64.bits ((a.val : Nat) : Int) ^^^ BitVec.ofInt IntKind.i64.bits ((w.val : Nat) : Int)).toNat : Int) = ((a.val ^^^ w.val : Nat) : Int) := by decide
theorem xor4' {a w : Nat} (ha : a < 4) (hw : w < 4) : IntKind.i64.wrap ((BitVec.ofInt IntKind.i64.bits (a : Int) ^^^ BitVec.ofInt IntKind.i64.bits (w : Int)).toNat : Int) = ((a ^^^ w : Nat) : Int) := xor4 ⟨a, ha⟩ ⟨w, hw⟩
theorem xor_lt4 {a w : Nat} (ha : a < 4) (hw : w < 4) : a ^^^ w < 4 := Nat.xor_lt_two_pow (n := 2) ha hw

theorem l06Table_c (n : Nat) (hn : 1 ≤ n ∧ n ≤ 16) (u : Value) (R : List (List Int)) (wv : Value) (us : List Nat) (ws : List (Nat × Nat)) (hway : wayOk us ws) (H : AH) (hu : Rd2 1 H u R) (hw : Rd 1 H wv us.length (us.map fun (w : Nat) => (w : Int))) (hus : ∀ w ∈ us, w < 4) (hul : us.length ≤ 4)
    (hR : EvOk n R) (hR4 : ∀ i, i < R.length → (R.getD i []).length % 4 = 0) :
    ACalls Try.prog 43 [.agg #[.int .i64 n, u], wv] H (fun r H' => Up H.next H H' ∧ Fr2 1 62 2 H.next H'.next H' r (tabM n ws R)) := by
  refine ACalls.wf (by kernel_rfl) fun hs => acalls_of_awp [.tmp 4] Try.func43 (by kernel_rfl) rfl rfl (Nat.le_of_ble_eq_true rfl) (by kernel_rfl) ?_
  have hone := hu.one
  have hRl := hR.1
  rw [← svA_tab hway hR4]
  have up : Up H.next H (H.push ⟨28, true, [.int .i64 n, u]⟩) := (Up.refl _ H).push (Nat.le_refl _) _
  have e1 : (H.push ⟨28, true, [.int .i64 n, u]⟩).row H.next = some ⟨28, true, [.int .i64 n, u]⟩ := by rw [AH.push_row, if_pos rfl]
  have n1 : (H.push ⟨28, true, [.int .i64 n, u]⟩).next = H.next + 1 := rfl
  try simp (disch := first | omega | (simp only [ints_length, List.length_replicate, List.length_set]; done) | (simp only [ints_length, List.length_replicate, List.length_set]; omega)) only [Sall,evalOp,init,binE,binI,unE,convE,okNil,builtE,gv,TD.isAgg,resV,↓reduceIte,Nat.reduceEqDiff,reduceCtorEq,Nat.reduceAdd,Nat.reduceMul,Nat.reduceLeDiff,quietOp,blindOp,Int.reduceEq,Int.reduceLT,Int.reduceLE,Nat.reduceLT,ti2,ti3,ti4,ti41,ti42,ti62,ti22,ti45,ti37,ti47,ti39,ti74,ti138,ti101,ti103,ti108,ti24,ti28,ti96, hone]
  revert up e1 n1
  generalize H.push ⟨28, true, [.int .i64 n, u]⟩ = H1
  intro up e1 n1
  try simp (disch := first | omega | (simp only [ints_length, List.length_replicate, List.length_set]; done) | (simp only [ints_length, List.length_replicate, List.length_set]; omega)) only [Sall,evalOp,init,binE,binI,unE,convE,okNil,builtE,gv,TD.isAgg,resV,↓reduceIte,Nat.reduceEqDiff,reduceCtorEq,Nat.reduceAdd,Nat.reduceMul,Nat.reduceLeDiff,quietOp,blindOp,Int.reduceEq,Int.reduceLT,Int.reduceLE,Nat.reduceLT,ti2,ti3,ti4,ti41,ti42,ti62,ti22,ti45,ti37,ti47,ti39,ti74,ti138,ti101,ti103,ti108,ti24,ti28,ti96, zeros_zero]
  refine awp_loop (fun m t H' => ∃ (a : Nat) (o : Value) (lo hi : Nat), m = n - a ∧ a ≤ n ∧ t 6 = .int .i64 a ∧ t 5 = o ∧ t 1 = wv ∧ t 2 = .pointer (some ⟨H.next, 0, none⟩) ∧ Up H.next H H' ∧ H'.row H.next = some ⟨28, true, [.int .i64 n, u]⟩ ∧ H.next < lo ∧ lo ≤ hi ∧ hi ≤ H'.next ∧ Fr2 1 62 2 lo hi H' o (List.replicate a (List.replicate n 0))) n ?_ ?_
  · refine ⟨0, .slice (some ⟨H1.next, 0, some 1⟩) 0 0, H1.next, H1.next + 1, by omega, by omega, ?_⟩
    try simp (disch := first | omega | (simp only [ints_length, List.length_replicate, List.length_set]; done) | (simp only [ints_length, List.length_replicate, List.length_set]; omega)) only [Sall,evalOp,init,binE,binI,unE,convE,okNil,builtE,gv,TD.isAgg,resV,↓reduceIte,Nat.reduceEqDiff,reduceCtorEq,Nat.reduceAdd,Nat.reduceMul,Nat.reduceLeDiff,quietOp,blindOp,Int.reduceEq,Int.reduceLT,Int.reduceLE,Nat.reduceLT,ti2,ti3,ti4,ti41,ti42,ti62,ti22,ti45,ti37,ti47,ti39,ti74,ti138,ti101,ti103,ti108,ti24,ti28,ti96, Int.natCast_zero]
    refine ⟨by rw [n1], up.push (by omega) _, by rw [if_neg (by omega), e1], ?_⟩
    (repeat refine And.intro (by omega) ?_)
    exact .inr ⟨H1.next, [], fun _ => H1.next + 1, by omega, by omega, rfl, by rw [AH.push_row, if_pos rfl], rfl, by dsimp only; omega, by dsimp only; omega, .inl (by dsimp only; omega), fun _ => Nat.le_refl _, fun j hj => by simp at hj⟩
  · rintro m t H' ⟨a, o, lo, hi, hm, han, h6, h5, h1, h2, hup, hr1, hlo, hlh, hhi, hfr⟩
    have hup1 := hup.next
    try simp (disch := first | omega | (simp only [ints_length, List.length_replicate, List.length_set]; done) | (simp only [ints_length, List.length_replicate, List.length_set]; omega)) only [Sall,evalOp,init,binE,binI,unE,convE,okNil,builtE,gv,TD.isAgg,resV,↓reduceIte,Nat.reduceEqDiff,reduceCtorEq,Nat.reduceAdd,Nat.reduceMul,Nat.reduceLeDiff,quietOp,blindOp,Int.reduceEq,Int.reduceLT,Int.reduceLE,Nat.reduceLT,ti2,ti3,ti4,ti41,ti42,ti62,ti22,ti45,ti37,ti47,ti39,ti74,ti138,ti101,ti103,ti108,ti24,ti28,ti96, h6, h2, hr1]
    refine condC_dec (fun h => ?_) (fun h => ?_)
    · have zz : zeros 1 [.slice none 0 0] = [.slice none 0 0] := rfl
      have ne1 : ¬ H'.next = H'.next + 1 := by omega
      try simp (disch := first | omega | (simp only [ints_length, List.length_replicate, List.length_set]; done) | (simp only [ints_length, List.length_replicate, List.length_set]; omega)) only [Sall,evalOp,init,binE,binI,unE,convE,okNil,builtE,gv,TD.isAgg,resV,↓reduceIte,Nat.reduceEqDiff,reduceCtorEq,Nat.reduceAdd,Nat.reduceMul,Nat.reduceLeDiff,quietOp,blindOp,Int.reduceEq,Int.reduceLT,Int.reduceLE,Nat.reduceLT,ti2,ti3,ti4,ti41,ti42,ti62,ti22,ti45,ti37,ti47,ti39,ti74,ti138,ti101,ti103,ti108,ti24,ti28,ti96, h6, h5, h1, h2, hr1, zeros_int0, zz, slCells]
      (repeat refine And.intro (by omega) ?_)
      obtain ⟨H2, e2⟩ : ∃ H2, H2 = (H'.push ⟨2, true, ints (List.replicate n 0)⟩).push ⟨62, true, [.slice (some ⟨H'.next, 0, some 1⟩) n n]⟩ := ⟨_, rfl⟩
      have n2 : H2.next = H'.next + 2 := by rw [e2]; rfl
      have s2 : ∀ i, i < H'.next → H2.row i = H'.row i := fun i hi => by rw [e2, AH.push_row, if_neg (by rw [AH.push_next]; omega), AH.push_row, if_neg (by omega)]
      have x2 : H2.row H'.next = some ⟨2, true, ints (List.replicate n 0)⟩ := by rw [e2, AH.push_row, if_neg (by rw [AH.push_next]; omega), AH.push_row, if_pos rfl]
      rw [← e2]
      clear e2
      refine appE_fr2 (hfr.same fun i _ hi => s2 i (by omega)) (m := n) (l := List.replicate n 0) ⟨by simp, .inr ⟨H'.next, by omega, by omega, rfl, x2⟩⟩ rfl (by decide) (by rw [List.length_replicate]; omega) hlh (by omega) ?_
      intro v' H3 n3 s3 f3
      try simp (disch := first | omega | (simp only [ints_length, List.length_replicate, List.length_set]; done) | (simp only [ints_length, List.length_replicate, List.length_set]; omega)) only [Sall,evalOp,init,binE,binI,unE,convE,okNil,builtE,gv,TD.isAgg,resV,↓reduceIte,Nat.reduceEqDiff,reduceCtorEq,Nat.reduceAdd,Nat.reduceMul,Nat.reduceLeDiff,quietOp,blindOp,Int.reduceEq,Int.reduceLT,Int.reduceLE,Nat.reduceLT,ti2,ti3,ti4,ti41,ti42,ti62,ti22,ti45,ti37,ti47,ti39,ti74,ti138,ti101,ti103,ti108,ti24,ti28,ti96, h6, h1, h2, w64]
      refine ⟨n - (a + 1), by omega, a + 1, v', lo, H2.next + 1, rfl, by omega, rfl, rfl, ⟨by omega, fun i hi => ?_⟩, ?_, by omega, by omega, by omega, ?_⟩
      · rw [s3 i (by omega) (by omega), s2 i (by omega), hup.row i hi]
      · rw [s3 _ (by omega) (by omega), s2 _ (by omega), hr1]
      · rw [replicate_snoc]; exact f3
    · have ha : a = n := by omega
      subst ha
      try simp (disch := first | omega | (simp only [ints_length, List.length_replicate, List.length_set]; done) | (simp only [ints_length, List.length_replicate, List.length_set]; omega)) only [Sall,evalOp,init,binE,binI,unE,convE,okNil,builtE,gv,TD.isAgg,resV,↓reduceIte,Nat.reduceEqDiff,reduceCtorEq,Nat.reduceAdd,Nat.reduceMul,Nat.reduceLeDiff,quietOp,blindOp,Int.reduceEq,Int.reduceLT,Int.reduceLE,Nat.reduceLT,ti2,ti3,ti4,ti41,ti42,ti62,ti22,ti45,ti37,ti47,ti39,ti74,ti138,ti101,ti103,ti108,ti24,ti28,ti96, h5, h1, h2]
      have hf0 : Fr2 1 62 2 lo hi H' o (cntMx a (svA a us R 0)) := by rw [show svA a us R 0 = [] from rfl, cntMx_nil]; exact hfr
      refine awp_loop (fun m t H2 => ∃ i : Nat, m = R.length - i ∧ i ≤ R.length ∧ t 7 = .int .i64 i ∧ t 5 = o ∧ t 1 = wv ∧ t 2 = .pointer (some ⟨H.next, 0, none⟩) ∧ Up H.next H H2 ∧ hi ≤ H2.next ∧ H2.row H.next = some ⟨28, true, [.int .i64 a, u]⟩ ∧ Fr2 1 62 2 lo hi H2 o (cntMx a (svA a us R i))) R.length ?_ ?_
      · refine ⟨0, by omega, by omega, ?_⟩
        try simp (disch := first | omega | (simp only [ints_length, List.length_replicate, List.length_set]; done) | (simp only [ints_length, List.length_replicate, List.length_set]; omega)) only [Sall,evalOp,init,binE,binI,unE,convE,okNil,builtE,gv,TD.isAgg,resV,↓reduceIte,Nat.reduceEqDiff,reduceCtorEq,Nat.reduceAdd,Nat.reduceMul,Nat.reduceLeDiff,quietOp,blindOp,Int.reduceEq,Int.reduceLT,Int.reduceLE,Nat.reduceLT,ti2,ti3,ti4,ti41,ti42,ti62,ti22,ti45,ti37,ti47,ti39,ti74,ti138,ti101,ti103,ti108,ti24,ti28,ti96, Int.natCast_zero, h5, h1, h2]
        exact ⟨hup, hhi, hr1, hf0⟩
      · rintro m t H2 ⟨i, hm, hik, h7, h5, h1, h2, hup2, hn2, hr2, hf2⟩
        have hu2 := (hu.same (hup2.le hs).row).len
        try simp (disch := first | omega | (simp only [ints_length, List.length_replicate, List.length_set]; done) | (simp only [ints_length, List.length_replicate, List.length_set]; omega)) only [Sall,evalOp,init,binE,binI,unE,convE,okNil,builtE,gv,TD.isAgg,resV,↓reduceIte,Nat.reduceEqDiff,reduceCtorEq,Nat.reduceAdd,Nat.reduceMul,Nat.reduceLeDiff,quietOp,blindOp,Int.reduceEq,Int.reduceLT,Int.reduceLE,Nat.reduceLT,ti2,ti3,ti4,ti41,ti42,ti62,ti22,ti45,ti37,ti47,ti39,ti74,ti138,ti101,ti103,ti108,ti24,ti28,ti96, h7, h2, hr2, builtE, hu2]
        refine condC_dec (fun hh => ?_) (fun hh => ?_)
        · obtain ⟨xi, xo, xuu, xc, xr, y, my, ex, hxr, hy, hsx, hok⟩ := hu.get (j := i) (by omega)
          have hxr' : H2.row xi = some xr := (hup2.le hs).row _ _ hxr
          obtain ⟨hl16, hin⟩ := hR.2 i (by omega)
          have hl4 := hR4 i (by omega)
          have hmm := hsx.lenK1
          have hevS := svA_succ a us R i
          have hI0 : (svA a us R i).length ≤ 2000 := by
            have := svA_length (n := a) (ws := us) (fun i hi => (hR.2 i hi).1) i (by omega)
            have h2 : i * (16 * us.length) ≤ 20 * 64 := Nat.mul_le_mul (by have := hR.1; omega) (by omega)
            omega
          revert hsx hl16 hin hl4 hmm hevS
          generalize R.getD i [] = l
          intro hsx hl16 hin hl4 hmm hevS
          subst hmm
          have hold : ∀ {H3 : AH}, Up H.next H H3 → Rd 1 H3 y l.length l := fun hup3 => hsx.same (hup3.le hs).row
          try simp (disch := first | omega | (simp only [ints_length, List.length_replicate, List.length_set]; done) | (simp only [ints_length, List.length_replicate, List.length_set]; omega)) only [Sall,evalOp,init,binE,binI,unE,convE,okNil,builtE,gv,TD.isAgg,resV,↓reduceIte,Nat.reduceEqDiff,reduceCtorEq,Nat.reduceAdd,Nat.reduceMul,Nat.reduceLeDiff,quietOp,blindOp,Int.reduceEq,Int.reduceLT,Int.reduceLE,Nat.reduceLT,ti2,ti3,ti4,ti41,ti42,ti62,ti22,ti45,ti37,ti47,ti39,ti74,ti138,ti101,ti103,ti108,ti24,ti28,ti96, h7, h5, h1, h2, hr2, ex, hxr', hy, hok]
          (repeat refine And.intro (by omega) ?_)
          refine awp_loop (fun m t H3 => ∃ k : Nat, m = l.length - k ∧ k ≤ l.length ∧ t 9 = .int .i64 k ∧ t 8 = y ∧ t 7 = .int .i64 i ∧ t 5 = o ∧ t 1 = wv ∧ t 2 = .pointer (some ⟨H.next, 0, none⟩) ∧ Up H.next H H3 ∧ hi ≤ H3.next ∧ H3.row H.next = some ⟨28, true, [.int .i64 a, u]⟩ ∧ Fr2 1 62 2 lo hi H3 o (cntMx a (svA a us R i ++ svR a us l k))) l.length ?_ ?_
          · refine ⟨0, by omega, by omega, ?_⟩
            try simp (disch := first | omega | (simp only [ints_length, List.length_replicate, List.length_set]; done) | (simp only [ints_length, List.length_replicate, List.length_set]; omega)) only [Sall,evalOp,init,binE,binI,unE,convE,okNil,builtE,gv,TD.isAgg,resV,↓reduceIte,Nat.reduceEqDiff,reduceCtorEq,Nat.reduceAdd,Nat.reduceMul,Nat.reduceLeDiff,quietOp,blindOp,Int.reduceEq,Int.reduceLT,Int.reduceLE,Nat.reduceLT,ti2,ti3,ti4,ti41,ti42,ti62,ti22,ti45,ti37,ti47,ti39,ti74,ti138,ti101,ti103,ti108,ti24,ti28,ti96, Int.natCast_zero, h7, h5, h1, h2]
            refine ⟨hup2, hn2, ?_, ?_⟩
            · exact hr2
            · rw [show svR a us l 0 = [] from rfl, List.append_nil]; exact hf2
          · rintro m t H3 ⟨k, hm, hk, h9, h8, h7, h5, h1, h2, hup3, hn3, hr3, hf3⟩
            have hl3 := (hold hup3).len
            try simp (disch := first | omega | (simp only [ints_length, List.length_replicate, List.length_set]; done) | (simp only [ints_length, List.length_replicate, List.length_set]; omega)) only [Sall,evalOp,init,binE,binI,unE,convE,okNil,builtE,gv,TD.isAgg,resV,↓reduceIte,Nat.reduceEqDiff,reduceCtorEq,Nat.reduceAdd,Nat.reduceMul,Nat.reduceLeDiff,quietOp,blindOp,Int.reduceEq,Int.reduceLT,Int.reduceLE,Nat.reduceLT,ti2,ti3,ti4,ti41,ti42,ti62,ti22,ti45,ti37,ti47,ti39,ti74,ti138,ti101,ti103,ti108,ti24,ti28,ti96, h9, h8, builtE, hl3]
            refine condC_dec (fun hhh => ?_) (fun hhh => ?_)
            · obtain ⟨yi, yo, yu, yc, yr, ey, hyr, _, hyg, _⟩ := (hold (Up.refl H.next H)).get (by omega)
              have hyi := hs _ _ hyr
              have hyr3 : H3.row yi = some yr := by rw [hup3.row _ hyi]; exact hyr
              have mem : ∀ j, j < l.length → 0 ≤ l.getD j 0 ∧ l.getD j 0 < (a : Int) := fun j hj => hin _ (by rw [List.getD_eq_getElem?_getD, List.getElem?_eq_getElem hj]; exact List.getElem_mem _)
              have m1 := mem k (by omega)
              have g1 := hyg k (by omega)
              obtain ⟨p, ep⟩ : ∃ p : Nat, l.getD k 0 = (p : Int) := ⟨(l.getD k 0).toNat, by omega⟩
              rw [ep] at g1 m1
              have hsq0 := cntMx_sq a (svA a us R i ++ svR a us l k)
              have hrow0 := hsq0.2 p (by omega)
              obtain ⟨mi, mvs, i6, eo, q1, q2, q3, q4, q5, q6, q7, q8, q9⟩ := hf3.setF (j := p) (by rw [hsq0.1]; omega) (by omega)
              rw [hsq0.1] at eo
              rw [hrow0] at q4
              try simp (disch := first | omega | (simp only [ints_length, List.length_replicate, List.length_set]; done) | (simp only [ints_length, List.length_replicate, List.length_set]; omega)) only [Sall,evalOp,init,binE,binI,unE,convE,okNil,builtE,gv,TD.isAgg,resV,↓reduceIte,Nat.reduceEqDiff,reduceCtorEq,Nat.reduceAdd,Nat.reduceMul,Nat.reduceLeDiff,quietOp,blindOp,Int.reduceEq,Int.reduceLT,Int.reduceLE,Nat.reduceLT,ti2,ti3,ti4,ti41,ti42,ti62,ti22,ti45,ti37,ti47,ti39,ti74,ti138,ti101,ti103,ti108,ti24,ti28,ti96, h9, h8, h7, h5, h1, h2, ey, hyr3, g1, eo, q3, q4]
              (repeat refine And.intro (by omega) ?_)
              refine awp_loop (fun m t H4 => ∃ d : Nat, m = us.length - d ∧ d ≤ us.length ∧ t 11 = .int .i64 d ∧ t 10 = .slice (some ⟨i6, 0, some 1⟩) a a ∧ t 9 = .int .i64 k ∧ t 8 = y ∧ t 7 = .int .i64 i ∧ t 5 = o ∧ t 1 = wv ∧ t 2 = .pointer (some ⟨H.next, 0, none⟩) ∧ Up H.next H H4 ∧ hi ≤ H4.next ∧ H4.row H.next = some ⟨28, true, [.int .i64 a, u]⟩ ∧ H4.row mi = some ⟨62, true, mvs⟩ ∧ Fr2 1 62 2 lo hi H4 o (cntMx a (svA a us R i ++ svR a us l k ++ svW a l k (us.take d)))) us.length ?_ ?_
              · refine ⟨0, by omega, by omega, ?_⟩
                try simp (disch := first | omega | (simp only [ints_length, List.length_replicate, List.length_set]; done) | (simp only [ints_length, List.length_replicate, List.length_set]; omega)) only [Sall,evalOp,init,binE,binI,unE,convE,okNil,builtE,gv,TD.isAgg,resV,↓reduceIte,Nat.reduceEqDiff,reduceCtorEq,Nat.reduceAdd,Nat.reduceMul,Nat.reduceLeDiff,quietOp,blindOp,Int.reduceEq,Int.reduceLT,Int.reduceLE,Nat.reduceLT,ti2,ti3,ti4,ti41,ti42,ti62,ti22,ti45,ti37,ti47,ti39,ti74,ti138,ti101,ti103,ti108,ti24,ti28,ti96, Int.natCast_zero, h9, h8, h7, h5, h1, h2]
                refine ⟨hup3, hn3, hr3, q3, ?_⟩
                rw [List.take_zero, show svW a l k [] = [] from rfl, List.append_nil]; exact hf3
              · rintro m t H4 ⟨d, hm, hd, h11, h10, h9, h8, h7, h5, h1, h2, hup4, hn4, hr4, hmi4, hf4⟩
                have hw4 := hw.same (hup4.le hs).row
                try simp (disch := first | omega | (simp only [ints_length, List.length_replicate, List.length_set]; done) | (simp only [ints_length, List.length_replicate, List.length_set]; omega)) only [Sall,evalOp,init,binE,binI,unE,convE,okNil,builtE,gv,TD.isAgg,resV,↓reduceIte,Nat.reduceEqDiff,reduceCtorEq,Nat.reduceAdd,Nat.reduceMul,Nat.reduceLeDiff,quietOp,blindOp,Int.reduceEq,Int.reduceLT,Int.reduceLE,Nat.reduceLT,ti2,ti3,ti4,ti41,ti42,ti62,ti22,ti45,ti37,ti47,ti39,ti74,ti138,ti101,ti103,ti108,ti24,ti28,ti96, h11, h1, builtE, hw4.len]
                refine condC_dec (fun hh4 => ?_) (fun hh4 => ?_)
                · obtain ⟨wi, wo, wu, wc, wr, ew, hwr, _, hwg, _⟩ := hw4.get (by omega)
                  have hwa := hwg d (by omega)
                  have hwd : (us.map fun (w : Nat) => (w : Int)).getD d 0 = ((us.getD d 0 : Nat) : Int) := by
                    rw [List.getD_eq_getElem?_getD, List.getElem?_map, List.getD_eq_getElem?_getD, List.getElem?_eq_getElem (by omega)]; rfl
                  rw [hwd] at hwa
                  have w4 := hus (us.getD d 0) (by rw [List.getD_eq_getElem?_getD, List.getElem?_eq_getElem (by omega)]; exact List.getElem_mem _)
                  have hsn := take_snoc us 0 d (by omega)
                  revert hwa w4 hsn
                  generalize us.getD d 0 = w
                  intro hwa w4 hsn
                  have hyr4 : H4.row yi = some yr := by rw [hup4.row _ hyi]; exact hyr
                  have x4 := xor_lt4 (a := k % 4) (by omega) w4
                  have hxor := xor4' (a := k % 4) (by omega) w4
                  obtain ⟨q, hq⟩ : ∃ q, q = k / 4 * 4 + (k % 4 ^^^ w) := ⟨_, rfl⟩
                  have hql : q < l.length := by omega
                  have m2 := mem q hql
                  have g2 := hyg q (by omega)
                  have hsv := svW_snoc a l k (us.take d) w
                  rw [← hsn, ← hq, ep, Int.toNat_natCast] at hsv
                  obtain ⟨z, ez⟩ : ∃ z : Nat, l.getD q 0 = (z : Int) := ⟨(l.getD q 0).toNat, by omega⟩
                  rw [ez] at g2 m2 hsv
                  rw [Int.toNat_natCast] at hsv
                  have hq1 : Int.tdiv (k : Int) 4 = ((k / 4 : Nat) : Int) := rfl
                  have hq2 : Int.tmod (k : Int) 4 = ((k % 4 : Nat) : Int) := rfl
                  have hq3 : (((k / 4 : Nat) : Int) * 4 + ((k % 4 ^^^ w : Nat) : Int)).toNat = q := by omega
                  have hlenI : (svA a us R i ++ svR a us l k ++ svW a l k (us.take d)).length ≤ 10000 := by
                    rw [List.length_append, List.length_append, svR_length, svW_length, List.length_take]
                    have h1 : k * us.length ≤ 16 * 4 := Nat.mul_le_mul (by omega) (by omega)
                    omega
                  have hevX : svA a us R i ++ svR a us l k ++ svW a l k (us.take (d + 1)) = (svA a us R i ++ svR a us l k ++ svW a l k (us.take d)) ++ [ixN a p z] := by rw [hsv]; simp
                  obtain ⟨I, eI⟩ : ∃ I, I = svA a us R i ++ svR a us l k ++ svW a l k (us.take d) := ⟨_, rfl⟩
                  rw [← eI] at hevX hlenI hf4
                  have hsq1 := cntMx_sq a I
                  have hinc1 := cntMx_inc a I p z (by omega) (by omega) (by omega)
                  have hrow1 := hsq1.2 p (by omega)
                  obtain ⟨mj, mvt, i7, eo', p1, p2, p3, p4, p5, p6, p7, p8, p9⟩ := hf4.setF (j := p) (by rw [hsq1.1]; omega) (by omega)
                  have hMl1 := hsq1.1
                  have p10 := p9 (incR ((cntMx a I).getD p []) (z : Int)) (incR_length _ _)
                  rw [hrow1] at p4
                  have emj : mi = mj := by
                    rw [eo] at eo'
                    injection eo' with e
                    injection e with e
                    injection e with e
                  subst emj
                  have emv : mvs = mvt := by
                    rw [hmi4] at p3
                    injection p3 with e
                    injection e
                  subst emv
                  have ei : i6 = i7 := by
                    rw [q4] at p4
                    injection p4 with e
                    injection e with e
                    injection e with e
                    injection e with e
                  subst ei
                  have ne2 : ¬ H.next = i6 := by omega
                  try simp (disch := first | omega | (simp only [ints_length, List.length_replicate, List.length_set]; done) | (simp only [ints_length, List.length_replicate, List.length_set]; omega)) only [Sall,evalOp,init,binE,binI,unE,convE,okNil,builtE,gv,TD.isAgg,resV,↓reduceIte,Nat.reduceEqDiff,reduceCtorEq,Nat.reduceAdd,Nat.reduceMul,Nat.reduceLeDiff,quietOp,blindOp,Int.reduceEq,Int.reduceLT,Int.reduceLE,Nat.reduceLT,ti2,ti3,ti4,ti41,ti42,ti62,ti22,ti45,ti37,ti47,ti39,ti74,ti138,ti101,ti103,ti108,ti24,ti28,ti96, h11, h10, h9, h8, h7, h5, h1, h2, ey, hyr4, g2, ew, hwr, hwa, hq1, hq2, hxor, hq3, p8, Int.toNat_natCast, ints_get?, ints_set, w64]
                  (repeat refine And.intro (by omega) ?_)
                  refine ⟨us.length - (d + 1), by omega, d + 1, rfl, by omega, by omega, hup4.set (by omega) _, hn4, by rw [if_neg ne2]; exact hr4, by rw [if_neg p7]; exact hmi4, ?_⟩
                  rw [hevX, ← hinc1]
                  exact p10
                · have hd2 : d = us.length := by omega
                  subst hd2
                  rw [List.take_length] at hf4
                  try simp (disch := first | omega | (simp only [ints_length, List.length_replicate, List.length_set]; done) | (simp only [ints_length, List.length_replicate, List.length_set]; omega)) only [Sall,evalOp,init,binE,binI,unE,convE,okNil,builtE,gv,TD.isAgg,resV,↓reduceIte,Nat.reduceEqDiff,reduceCtorEq,Nat.reduceAdd,Nat.reduceMul,Nat.reduceLeDiff,quietOp,blindOp,Int.reduceEq,Int.reduceLT,Int.reduceLE,Nat.reduceLT,ti2,ti3,ti4,ti41,ti42,ti62,ti22,ti45,ti37,ti47,ti39,ti74,ti138,ti101,ti103,ti108,ti24,ti28,ti96, h9, h8, h7, h5, h1, h2, w64]
                  refine ⟨l.length - (k + 1), by omega, k + 1, rfl, by omega, by omega, hup4, hn4, hr4, ?_⟩
                  rw [svR_succ, ← List.append_assoc]; exact hf4
            · have hk2 : k = l.length := by omega
              subst hk2
              try simp (disch := first | omega | (simp only [ints_length, List.length_replicate, List.length_set]; done) | (simp only [ints_length, List.length_replicate, List.length_set]; omega)) only [Sall,evalOp,init,binE,binI,unE,convE,okNil,builtE,gv,TD.isAgg,resV,↓reduceIte,Nat.reduceEqDiff,reduceCtorEq,Nat.reduceAdd,Nat.reduceMul,Nat.reduceLeDiff,quietOp,blindOp,Int.reduceEq,Int.reduceLT,Int.reduceLE,Nat.reduceLT,ti2,ti3,ti4,ti41,ti42,ti62,ti22,ti45,ti37,ti47,ti39,ti74,ti138,ti101,ti103,ti108,ti24,ti28,ti96, h7, h5, h1, h2, w64]
              refine ⟨R.length - (i + 1), by omega, i + 1, rfl, by omega, by omega, hup3, hn3, hr3, ?_⟩
              rw [hevS]; exact hf3
        · have hi2 : i = R.length := by omega
          subst hi2
          try simp (disch := first | omega | (simp only [ints_length, List.length_replicate, List.length_set]; done) | (simp only [ints_length, List.length_replicate, List.length_set]; omega)) only [Sall,evalOp,init,binE,binI,unE,convE,okNil,builtE,gv,TD.isAgg,resV,↓reduceIte,Nat.reduceEqDiff,reduceCtorEq,Nat.reduceAdd,Nat.reduceMul,Nat.reduceLeDiff,quietOp,blindOp,Int.reduceEq,Int.reduceLT,Int.reduceLE,Nat.reduceLT,ti2,ti3,ti4,ti41,ti42,ti62,ti22,ti45,ti37,ti47,ti39,ti74,ti138,ti101,ti103,ti108,ti24,ti28,ti96, h5]
          exact ⟨hup2, hf2.wide (by omega) hn2⟩

theorem l06Each_c (v : Value) (n : Nat) (M : List (List Int)) (c : Int) (H : AH) (hv : Rd2 1 H v M) (hM : SqM n M) (hn : n ≤ 1024) :
    ACalls Try.prog 47 [v, .int .i64 c] H (is (.bool (eachB (fun x => x == c) M)) H) := by
  refine acalls_up rfl (acalls_of_awp [.tmp 4] Try.func47 (by kernel_rfl) rfl rfl (Nat.le_of_ble_eq_true rfl) (by kernel_rfl) ?_)
  have hlen := hv.len
  rw [hM.1] at hlen
  try simp (disch := first | omega | (simp only [ints_length, List.length_replicate, List.length_set]; done) | (simp only [ints_length, List.length_replicate, List.length_set]; omega)) only [Sall,evalOp,init,binE,binI,unE,convE,okNil,builtE,gv,TD.isAgg,resV,↓reduceIte,Nat.reduceEqDiff,reduceCtorEq,Nat.reduceAdd,Nat.reduceMul,Nat.reduceLeDiff,quietOp,blindOp,Int.reduceEq,Int.reduceLT,Int.reduceLE,Nat.reduceLT,ti2,ti3,ti4,ti41,ti42,ti62,ti22,ti45,ti37,ti47,ti39,ti74,ti138,ti101,ti103,ti108,ti24,ti28,ti96, true_and]
  refine awp_loop (fun m t H' => ∃ a : Nat, m = n - a ∧ a ≤ n ∧ t 5 = .int .i64 a ∧ t 0 = v ∧ t 1 = .int .i64 c ∧ H' = H ∧ (∀ i, i < a → ∀ j, j < n → eachAt (fun x => x == c) M i j = true)) n ?_ ?_
  · refine ⟨0, by omega, by omega, ?_⟩
    try simp (disch := first | omega | (simp only [ints_length, List.length_replicate, List.length_set]; done) | (simp only [ints_length, List.length_replicate, List.length_set]; omega)) only [Sall,evalOp,init,binE,binI,unE,convE,okNil,builtE,gv,TD.isAgg,resV,↓reduceIte,Nat.reduceEqDiff,reduceCtorEq,Nat.reduceAdd,Nat.reduceMul,Nat.reduceLeDiff,quietOp,blindOp,Int.reduceEq,Int.reduceLT,Int.reduceLE,Nat.reduceLT,ti2,ti3,ti4,ti41,ti42,ti62,ti22,ti45,ti37,ti47,ti39,ti74,ti138,ti101,ti103,ti108,ti24,ti28,ti96, Int.natCast_zero, Nat.not_lt_zero, false_implies]
  · rintro m t H' ⟨a, hm, han, h5, h0, h1, rfl, hall⟩
    try simp (disch := first | omega | (simp only [ints_length, List.length_replicate, List.length_set]; done) | (simp only [ints_length, List.length_replicate, List.length_set]; omega)) only [Sall,evalOp,init,binE,binI,unE,convE,okNil,builtE,gv,TD.isAgg,resV,↓reduceIte,Nat.reduceEqDiff,reduceCtorEq,Nat.reduceAdd,Nat.reduceMul,Nat.reduceLeDiff,quietOp,blindOp,Int.reduceEq,Int.reduceLT,Int.reduceLE,Nat.reduceLT,ti2,ti3,ti4,ti41,ti42,ti62,ti22,ti45,ti37,ti47,ti39,ti74,ti138,ti101,ti103,ti108,ti24,ti28,ti96, h5, h0, builtE, hlen]
    refine condC_dec (fun h => ?_) (fun h => ?_)
    · try simp (disch := first | omega | (simp only [ints_length, List.length_replicate, List.length_set]; done) | (simp only [ints_length, List.length_replicate, List.length_set]; omega)) only [Sall,evalOp,init,binE,binI,unE,convE,okNil,builtE,gv,TD.isAgg,resV,↓reduceIte,Nat.reduceEqDiff,reduceCtorEq,Nat.reduceAdd,Nat.reduceMul,Nat.reduceLeDiff,quietOp,blindOp,Int.reduceEq,Int.reduceLT,Int.reduceLE,Nat.reduceLT,ti2,ti3,ti4,ti41,ti42,ti62,ti22,ti45,ti37,ti47,ti39,ti74,ti138,ti101,ti103,ti108,ti24,ti28,ti96, h5, h0, h1]
      refine awp_loop (fun z t H7 => ∃ b : Nat, z = n - b ∧ b ≤ n ∧ t 6 = .int .i64 b ∧ t 5 = .int .i64 a ∧ t 0 = v ∧ t 1 = .int .i64 c ∧ H7 = H' ∧ (∀ j, j < b → eachAt (fun x => x == c) M a j = true)) n ?_ ?_
      · refine ⟨0, by omega, by omega, ?_⟩
        try simp (disch := first | omega | (simp only [ints_length, List.length_replicate, List.length_set]; done) | (simp only [ints_length, List.length_replicate, List.length_set]; omega)) only [Sall,evalOp,init,binE,binI,unE,convE,okNil,builtE,gv,TD.isAgg,resV,↓reduceIte,Nat.reduceEqDiff,reduceCtorEq,Nat.reduceAdd,Nat.reduceMul,Nat.reduceLeDiff,quietOp,blindOp,Int.reduceEq,Int.reduceLT,Int.reduceLE,Nat.reduceLT,ti2,ti3,ti4,ti41,ti42,ti62,ti22,ti45,ti37,ti47,ti39,ti74,ti138,ti101,ti103,ti108,ti24,ti28,ti96, Int.natCast_zero, Nat.not_lt_zero, false_implies, h5, h0, h1]
      · rintro z t H7 ⟨b, hz, hbn, h6, h5, h0, h1, rfl, hin⟩
        try simp (disch := first | omega | (simp only [ints_length, List.length_replicate, List.length_set]; done) | (simp only [ints_length, List.length_replicate, List.length_set]; omega)) only [Sall,evalOp,init,binE,binI,unE,convE,okNil,builtE,gv,TD.isAgg,resV,↓reduceIte,Nat.reduceEqDiff,reduceCtorEq,Nat.reduceAdd,Nat.reduceMul,Nat.reduceLeDiff,quietOp,blindOp,Int.reduceEq,Int.reduceLT,Int.reduceLE,Nat.reduceLT,ti2,ti3,ti4,ti41,ti42,ti62,ti22,ti45,ti37,ti47,ti39,ti74,ti138,ti101,ti103,ti108,ti24,ti28,ti96, h6, h0, builtE, hlen]
        refine condC_dec (fun hh => ?_) (fun hh => ?_)
        · have hMl := hM.1
          by_cases hab : a = b
          · have e2 : ((a : Int) != (b : Int)) = false := by rw [hab]; exact bne_self_eq_false _
            have hbal : eachAt (fun x => x == c) M a b = true := by unfold eachAt; rw [decide_eq_true hab]; rfl
            try simp (disch := first | omega | (simp only [ints_length, List.length_replicate, List.length_set]; done) | (simp only [ints_length, List.length_replicate, List.length_set]; omega)) only [Sall,evalOp,init,binE,binI,unE,convE,okNil,builtE,gv,TD.isAgg,resV,↓reduceIte,Nat.reduceEqDiff,reduceCtorEq,Nat.reduceAdd,Nat.reduceMul,Nat.reduceLeDiff,quietOp,blindOp,Int.reduceEq,Int.reduceLT,Int.reduceLE,Nat.reduceLT,ti2,ti3,ti4,ti41,ti42,ti62,ti22,ti45,ti37,ti47,ti39,ti74,ti138,ti101,ti103,ti108,ti24,ti28,ti96, h6, h5, h0, h1, e2, w64]
            refine ⟨n - (b + 1), by omega, b + 1, rfl, by omega, by omega, fun j hj => ?_⟩
            by_cases e : j = b
            · rw [e]; exact hbal
            · exact hin j (by omega)
          · have e2 : ((a : Int) != (b : Int)) = true := by rw [bne_iff_ne]; omega
            obtain ⟨i, o, u, cc, r, y, my, ev, hr, hy, hsx, hok⟩ := hv.get (j := a) (by rw [hM.1]; omega)
            have hmy := hsx.lenK1
            have hrow := hM.2 a (by omega)
            rw [hrow] at hmy
            subst hmy
            obtain ⟨i7, o7, u7, c7, r7, ey, hr7, hc7, hs7, hg7⟩ := hsx.get (by omega)
            have g1 := hs7 b (by omega)
            rw [hMl] at ev
            by_cases hx1 : (M.getD a []).getD b 0 = c
            · have e3 : ((M.getD a []).getD b 0 != c) = false := by rw [hx1]; exact bne_self_eq_false _
              have hbal : eachAt (fun x => x == c) M a b = true := by unfold eachAt; simp only [hx1, beq_self_eq_true, Bool.or_true]
              try simp (disch := first | omega | (simp only [ints_length, List.length_replicate, List.length_set]; done) | (simp only [ints_length, List.length_replicate, List.length_set]; omega)) only [Sall,evalOp,init,binE,binI,unE,convE,okNil,builtE,gv,TD.isAgg,resV,↓reduceIte,Nat.reduceEqDiff,reduceCtorEq,Nat.reduceAdd,Nat.reduceMul,Nat.reduceLeDiff,quietOp,blindOp,Int.reduceEq,Int.reduceLT,Int.reduceLE,Nat.reduceLT,ti2,ti3,ti4,ti41,ti42,ti62,ti22,ti45,ti37,ti47,ti39,ti74,ti138,ti101,ti103,ti108,ti24,ti28,ti96, h6, h5, h0, h1, ev, hr, hy, hok, ey, hr7, g1, e2, e3, w64]
              (repeat refine And.intro (by omega) ?_)
              refine ⟨my - (b + 1), by omega, b + 1, rfl, by omega, by omega, fun j hj => ?_⟩
              by_cases e : j = b
              · rw [e]; exact hbal
              · exact hin j (by omega)
            · have e3 : ((M.getD a []).getD b 0 != c) = true := bne_iff_ne.2 hx1
              have hbal : eachAt (fun x => x == c) M a b = false := by
                have e4 : ((M.getD a []).getD b 0 == c) = false := by rw [beq_eq_false_iff_ne]; exact hx1
                unfold eachAt
                rw [decide_eq_false hab, Bool.false_or]
                exact e4
              try simp (disch := first | omega | (simp only [ints_length, List.length_replicate, List.length_set]; done) | (simp only [ints_length, List.length_replicate, List.length_set]; omega)) only [Sall,evalOp,init,binE,binI,unE,convE,okNil,builtE,gv,TD.isAgg,resV,↓reduceIte,Nat.reduceEqDiff,reduceCtorEq,Nat.reduceAdd,Nat.reduceMul,Nat.reduceLeDiff,quietOp,blindOp,Int.reduceEq,Int.reduceLT,Int.reduceLE,Nat.reduceLT,ti2,ti3,ti4,ti41,ti42,ti62,ti22,ti45,ti37,ti47,ti39,ti74,ti138,ti101,ti103,ti108,ti24,ti28,ti96, h6, h5, h0, h1, ev, hr, hy, hok, ey, hr7, g1, e2, e3, w64]
              (repeat refine And.intro (by omega) ?_)
              rw [eachB_bad (i := a) (j := b) (by rw [hMl]; omega) (by omega) hbal]
              exact ⟨rfl, Up.refl _ _⟩
        · try simp (disch := first | omega | (simp only [ints_length, List.length_replicate, List.length_set]; done) | (simp only [ints_length, List.length_replicate, List.length_set]; omega)) only [Sall,evalOp,init,binE,binI,unE,convE,okNil,builtE,gv,TD.isAgg,resV,↓reduceIte,Nat.reduceEqDiff,reduceCtorEq,Nat.reduceAdd,Nat.reduceMul,Nat.reduceLeDiff,quietOp,blindOp,Int.reduceEq,Int.reduceLT,Int.reduceLE,Nat.reduceLT,ti2,ti3,ti4,ti41,ti42,ti62,ti22,ti45,ti37,ti47,ti39,ti74,ti138,ti101,ti103,ti108,ti24,ti28,ti96, h5, h0, h1, w64]
          refine ⟨n - (a + 1), by omega, a + 1, rfl, by omega, by omega, fun i hi j hj => ?_⟩
          by_cases e : i = a
          · rw [e]; exact hin j (by omega)
          · exact hall i (by omega) j hj
    · try simp (disch := first | omega | (simp only [ints_length, List.length_replicate, List.length_set]; done) | (simp only [ints_length, List.length_replicate, List.length_set]; omega)) only [Sall,evalOp,init,binE,binI,unE,convE,okNil,builtE,gv,TD.isAgg,resV,↓reduceIte,Nat.reduceEqDiff,reduceCtorEq,Nat.reduceAdd,Nat.reduceMul,Nat.reduceLeDiff,quietOp,blindOp,Int.reduceEq,Int.reduceLT,Int.reduceLE,Nat.reduceLT,ti2,ti3,ti4,ti41,ti42,ti62,ti22,ti45,ti37,ti47,ti39,ti74,ti138,ti101,ti103,ti108,ti24,ti28,ti96, true_and]
      rw [eachB_good (fun i hi j hj => hall i (by rw [hM.1] at hi; omega) j (by rw [hM.1] at hi; rw [hM.2 i hi] at hj; exact hj))]
      exact ⟨rfl, Up.refl _ _⟩
end Go.Proofs.Ytnpmidgikbbnbaa.A
end

section
set_option linter.unusedSimpArgs false
set_option linter.unusedVariables false
namespace Go.Abs
open Go Go.RowKit

def headIs (cs : List Nat) (i : Nat) : Bool := match cs with | c :: _ => i == c | [] => false

/-- cs one after the other, fs in any order, then post. -/
def okPool (ops : Array Oper) (post : OT) : Nat → List Nat → List Nat → Array Bool → Bool
  | 0, cs, fs, listed => cs.isEmpty && fs.isEmpty && okOT ops post listed
  | n + 1, cs, fs, listed =>
    if cs.isEmpty && fs.isEmpty then okOT ops post listed else
    !(Region.ready .any ops listed).isEmpty && (Region.ready .any ops listed).all (fun i => headIs cs i || fs.contains i) &&
    (match cs with | c :: cs' => (!(Region.ready .any ops listed).contains c) || okPool ops post n cs' fs (listed.setIfInBounds c true) | [] => true) &&
    fs.all fun a => (!(Region.ready .any ops listed).contains a) || okPool ops post n cs (fs.erase a) (listed.setIfInBounds a true)

def okPre (ops : Array Oper) (post : OT) (cs fs : List Nat) : List Nat → Array Bool → Bool
  | [], listed => okPool ops post (cs.length + fs.length) cs fs listed
  | i :: is, listed =>
    (match ops[i]? with
     | some o => if quietOp o.op = true then (Region.ready .any ops listed).contains i && Region.free .any ops listed i else Region.ready .any ops listed == [i]
     | none => false) && okPre ops post cs fs is (listed.setIfInBounds i true)

structure PoolJ (P : Program) (ops : Array Oper) (Q : T → AH → Prop) (post : OT) (J : List Nat → List Nat → T → AH → Prop) : Prop where
  call : ∀ c cs fs t H, J (c :: cs) fs t H → stepI P ops (J cs fs) c (ops.toList[c]?) t H
  free : ∀ a cs fs t H, a ∈ fs → J cs fs t H → stepI P ops (J cs (fs.erase a)) a (ops.toList[a]?) t H
  done : ∀ t H, J [] [] t H → awpT P ops Q post t H

theorem AAny_pool {P : Program} {ops : Array Oper} {Q : T → AH → Prop} {post : OT} {J : List Nat → List Nat → T → AH → Prop} (hJ : PoolJ P ops Q post J) : ∀ (n : Nat) (cs fs : List Nat) (listed : Array Bool) (t : T) (H : AH) (f : Nat), n + post.depth ≤ f → Closed ops listed → okPool ops post n cs fs listed = true → J cs fs t H → AAny P ops Q f listed t H
  | 0, cs, fs, listed, t, H, f, hf, hc, hok, h => by
    simp only [okPool, Bool.and_eq_true, List.isEmpty_iff] at hok
    obtain ⟨⟨rfl, rfl⟩, h3⟩ := hok
    exact AAny_tree post listed t H f (by omega) hc h3 (hJ.done t H h)
  | n + 1, cs, fs, listed, t, H, 0, hf, hc, hok, h => by omega
  | n + 1, cs, fs, listed, t, H, f + 1, hf, hc, hok, h => by
    unfold okPool at hok
    split at hok
    · rename_i he
      simp only [Bool.and_eq_true, List.isEmpty_iff] at he
      obtain ⟨rfl, rfl⟩ := he
      exact AAny_tree post listed t H (f + 1) (by omega) hc hok (hJ.done t H h)
    · simp only [Bool.and_eq_true] at hok
      obtain ⟨⟨⟨h1, h2⟩, h3⟩, h4⟩ := hok
      refine ⟨fun h0 => (by rw [h0] at h1; simp at h1), fun i hi => ?_⟩
      have hci : (Region.ready .any ops listed).contains i = true := by simpa using hi
      have h5 := List.all_eq_true.1 h2 i hi
      rw [Bool.or_eq_true] at h5
      rcases h5 with h5 | h5
      · cases cs with
        | nil => simp [headIs] at h5
        | cons c cs' =>
          have e : i = c := by simpa [headIs] using h5
          subst e
          simp only [hci, Bool.not_true, Bool.false_or] at h3
          exact aStep_mono (stepI_s (hJ.call i cs' fs t H h)) fun t' H' hk => ⟨hk.1, AAny_pool hJ n cs' fs _ t' H' f (by omega) (hc.set hi) h3 hk.2⟩
      · have hm : i ∈ fs := List.contains_iff_mem.1 h5
        have h6 := List.all_eq_true.1 h4 i hm
        simp only [hci, Bool.not_true, Bool.false_or] at h6
        exact aStep_mono (stepI_s (hJ.free i cs fs t H hm h)) fun t' H' hk => ⟨hk.1, AAny_pool hJ n cs (fs.erase i) _ t' H' f (by omega) (hc.set hi) h6 hk.2⟩

theorem AAny_pre {P : Program} {ops : Array Oper} {Q : T → AH → Prop} {post : OT} {J : List Nat → List Nat → T → AH → Prop} (hJ : PoolJ P ops Q post J) (cs fs : List Nat) : ∀ (is : List Nat) (listed : Array Bool) (t : T) (H : AH) (f : Nat), is.length + (cs.length + fs.length + post.depth) ≤ f → Closed ops listed → okPre ops post cs fs is listed = true → awpI P ops (J cs fs) is t H → AAny P ops Q f listed t H
  | [], listed, t, H, f, hf, hc, hok, h => AAny_pool hJ _ cs fs listed t H f (by simpa using hf) hc hok h
  | i :: is, listed, t, H, 0, hf, hc, hok, h => by simp at hf
  | i :: is, listed, t, H, f + 1, hf, hc, hok, h => by
    simp only [okPre, Bool.and_eq_true] at hok
    simp only [List.length_cons] at hf
    obtain ⟨h1, h2⟩ := hok
    unfold awpI at h
    cases ho : ops[i]? with
    | none => simp [ho] at h1
    | some o =>
      simp only [ho] at h1
      split at h1
      · rename_i hq
        simp only [Bool.and_eq_true] at h1
        obtain ⟨hr, hfr⟩ := h1
        have hr' : i ∈ Region.ready .any ops listed := by simpa using hr
        obtain ⟨v, hy, hk⟩ := aStep_quiet ho hq (stepI_s h)
        exact AAny_first ho hq f listed t H hc (Region.free_spec ho hfr) hr' hy (AAny_pre hJ cs fs is _ _ H f (by omega) (hc.set hr') h2 hk.2)
      · have hr : Region.ready .any ops listed = [i] := by simpa using h1
        refine ⟨fun h0 => (by rw [hr] at h0; cases h0), fun j hj => ?_⟩
        have hji : j = i := by rw [hr] at hj; simpa using hj
        subst hji
        exact aStep_mono (stepI_s h) fun t' H' hk => ⟨hk.1, AAny_pre hJ cs fs is _ t' H' f (by omega) (hc.set hj) h2 hk.2⟩

theorem draw_pool {P : Program} {id : Nat} {ops : Array Oper} {Q : Exit → T → AH → Prop} {t : T} {H : AH} (is cs fs : List Nat) (post : OT) (hm : P.follows .mixedOrders = true) (hok : okPre ops post cs fs is (Array.replicate ops.size false) = true) (hl : is.length + (cs.length + fs.length + post.depth) ≤ ops.size)
    (J : List Nat → List Nat → T → AH → Prop) (hJ : PoolJ P ops (Q .normal) post J) (h : awpI P ops (J cs fs) is t H) : awp P (.region id ops true) Q t H := by
  intro base ρ w tmps QC hS hd hQ
  have hA := AAny_pre hJ cs fs is _ t H ops.size hl ⟨by simp, fun j oj hj hl => by rw [getD_replicate_false'] at hl; cases hl⟩ hok h
  refine wp_region_any hm (AAny_ok ops.size _ t H ρ w.drew tmps hA ⟨hS.1.drew, hS.2.ext (ext_drew (base := base) (H := H) w)⟩ ?_ fun t' H' ρ' w' tmps' hq hs he hz => ?_)
  · intro o ho i hi
    have := List.all_eq_true.1 hd o ho
    simp only [hi, decide_eq_true_eq] at this
    exact this
  · exact hQ .normal t' H' ρ' w' tmps' hq hs ((ext_drew (base := base) (H := H) (ρ := ρ) w).trans he) hz
theorem ACalls.scf {P : Program} {f : FuncId} {args : List Value} {H : AH} {v0 : Value} {X : AH → Prop} (h : ACalls P f args H (fun v H' => v = v0 ∧ X H')) : ACalls P f args H (fun v H' => v = v0 ∧ X H' ∧ Sc H') :=
  h.sc.mono fun _ _ h => ⟨h.1.1, h.1.2, h.2⟩
end Go.Abs
end

section
set_option linter.unusedSimpArgs false
set_option linter.unusedVariables false
set_option maxRecDepth 100000
set_option maxHeartbeats 2000000
namespace Go.Proofs.Ytnpmidgikbbnbaa.A
open Go Go.Abs Go.RowKit

theorem l06Whist_c (n : Nat) (hn : 1 ≤ n ∧ n ≤ 16) (u : Value) (R : List (List Int)) (H : AH) (hu : Rd2 1 H u R) (hR : EvOk n R) :
    ACalls Try.prog 46 [.agg #[.int .i64 n, u]] H (is (.bool (whistB n R)) H) := by
  refine acalls_up (by simp [flat, Abs.scal]) (ACalls.wf (by kernel_rfl) fun hs => acalls_of_awp [.tmp 2] Try.func46 (by kernel_rfl) rfl rfl (Nat.le_of_ble_eq_true rfl) (by kernel_rfl) ?_)
  have hone := hu.one
  have hRl := hR.1
  have em : Int.tmod (n : Int) 4 = ((n % 4 : Nat) : Int) := rfl
  have up : Up H.next H (H.push ⟨28, true, [.int .i64 n, u]⟩) := (Up.refl _ H).push (Nat.le_refl _) _
  have e1 : (H.push ⟨28, true, [.int .i64 n, u]⟩).row H.next = some ⟨28, true, [.int .i64 n, u]⟩ := by rw [AH.push_row, if_pos rfl]
  have n1 : (H.push ⟨28, true, [.int .i64 n, u]⟩).next = H.next + 1 := rfl
  have sc1 : Sc (H.push ⟨28, true, [.int .i64 n, u]⟩) := Sc.push hs _
  try simp (disch := first | omega | (simp only [ints_length, List.length_replicate, List.length_set]; done) | (simp only [ints_length, List.length_replicate, List.length_set]; omega)) only [Sall,evalOp,init,binE,binI,unE,convE,okNil,builtE,gv,TD.isAgg,resV,↓reduceIte,Nat.reduceEqDiff,reduceCtorEq,Nat.reduceAdd,Nat.reduceMul,Nat.reduceLeDiff,quietOp,blindOp,Int.reduceEq,Int.reduceLT,Int.reduceLE,Nat.reduceLT,ti2,ti3,ti4,ti41,ti42,ti62,ti22,ti45,ti37,ti47,ti39,ti74,ti138,ti101,ti103,ti108,ti24,ti28,ti96, hone]
  revert up e1 n1 sc1
  generalize H.push ⟨28, true, [.int .i64 n, u]⟩ = H1
  intro up e1 n1 sc1
  have hu1 := hu.same (up.le hs).row
  have hln := hu1.len
  unfold whistB formB
  by_cases h4 : n % 4 ≤ 1
  · have d1 : ¬ (1 : Int) < ((n % 4 : Nat) : Int) := by omega
    rw [decide_eq_true h4]
    by_cases hm : R.length = n - 1 + n % 4
    · have d2 : ((R.length : Int) != (n : Int) - 1 + ((n % 4 : Nat) : Int)) = false := by rw [hm, show (((n - 1 + n % 4 : Nat)) : Int) = (n : Int) - 1 + ((n % 4 : Nat) : Int) by omega]; exact bne_self_eq_false _
      rw [decide_eq_true hm]
      try simp (disch := first | omega | (simp only [ints_length, List.length_replicate, List.length_set]; done) | (simp only [ints_length, List.length_replicate, List.length_set]; omega)) only [Sall,evalOp,init,binE,binI,unE,convE,okNil,builtE,gv,TD.isAgg,resV,↓reduceIte,Nat.reduceEqDiff,reduceCtorEq,Nat.reduceAdd,Nat.reduceMul,Nat.reduceLeDiff,quietOp,blindOp,Int.reduceEq,Int.reduceLT,Int.reduceLE,Nat.reduceLT,ti2,ti3,ti4,ti41,ti42,ti62,ti22,ti45,ti37,ti47,ti39,ti74,ti138,ti101,ti103,ti108,ti24,ti28,ti96, e1, em, d1, builtE, hln, d2, decide_false, w64]
      refine awp_loop (fun m t H' => ∃ i : Nat, m = R.length - i ∧ i ≤ R.length ∧ t 4 = .int .i64 i ∧ t 3 = .int .i64 n ∧ t 1 = .pointer (some ⟨H.next, 0, none⟩) ∧ H' = H1 ∧ (∀ j, j < i → decide ((R.getD j []).length = n - n % 4) = true)) R.length ?_ ?_
      · refine ⟨0, by omega, by omega, ?_⟩
        try simp (disch := first | omega | (simp only [ints_length, List.length_replicate, List.length_set]; done) | (simp only [ints_length, List.length_replicate, List.length_set]; omega)) only [Sall,evalOp,init,binE,binI,unE,convE,okNil,builtE,gv,TD.isAgg,resV,↓reduceIte,Nat.reduceEqDiff,reduceCtorEq,Nat.reduceAdd,Nat.reduceMul,Nat.reduceLeDiff,quietOp,blindOp,Int.reduceEq,Int.reduceLT,Int.reduceLE,Nat.reduceLT,ti2,ti3,ti4,ti41,ti42,ti62,ti22,ti45,ti37,ti47,ti39,ti74,ti138,ti101,ti103,ti108,ti24,ti28,ti96, Int.natCast_zero, Nat.not_lt_zero, false_implies]
      · rintro m t H' ⟨i, hm', hi, h4', h3, h1, rfl, hall⟩
        try simp (disch := first | omega | (simp only [ints_length, List.length_replicate, List.length_set]; done) | (simp only [ints_length, List.length_replicate, List.length_set]; omega)) only [Sall,evalOp,init,binE,binI,unE,convE,okNil,builtE,gv,TD.isAgg,resV,↓reduceIte,Nat.reduceEqDiff,reduceCtorEq,Nat.reduceAdd,Nat.reduceMul,Nat.reduceLeDiff,quietOp,blindOp,Int.reduceEq,Int.reduceLT,Int.reduceLE,Nat.reduceLT,ti2,ti3,ti4,ti41,ti42,ti62,ti22,ti45,ti37,ti47,ti39,ti74,ti138,ti101,ti103,ti108,ti24,ti28,ti96, h4', h1, e1, builtE, hln]
        refine condC_dec (fun h => ?_) (fun h => ?_)
        · obtain ⟨xi, xo, xuu, xc, xr, y, my, ex, hxr, hy, hsx, hok⟩ := hu1.get (j := i) (by omega)
          have hmm := hsx.lenK1
          have hl16 := (hR.2 i (by omega)).1
          subst hmm
          have hyl := hsx.len
          by_cases hl : (R.getD i []).length = n - n % 4
          · have e : (((R.getD i []).length : Int) != (n : Int) - ((n % 4 : Nat) : Int)) = false := by rw [hl, show (((n - n % 4 : Nat)) : Int) = (n : Int) - ((n % 4 : Nat) : Int) by omega]; exact bne_self_eq_false _
            try simp (disch := first | omega | (simp only [ints_length, List.length_replicate, List.length_set]; done) | (simp only [ints_length, List.length_replicate, List.length_set]; omega)) only [Sall,evalOp,init,binE,binI,unE,convE,okNil,builtE,gv,TD.isAgg,resV,↓reduceIte,Nat.reduceEqDiff,reduceCtorEq,Nat.reduceAdd,Nat.reduceMul,Nat.reduceLeDiff,quietOp,blindOp,Int.reduceEq,Int.reduceLT,Int.reduceLE,Nat.reduceLT,ti2,ti3,ti4,ti41,ti42,ti62,ti22,ti45,ti37,ti47,ti39,ti74,ti138,ti101,ti103,ti108,ti24,ti28,ti96, h4', h3, h1, e1, ex, hxr, hy, hok, builtE, hyl, em, e, w64]
            (repeat refine And.intro (by omega) ?_)
            refine ⟨R.length - (i + 1), by omega, i + 1, rfl, by omega, by omega, fun j hj => ?_⟩
            by_cases e : j = i
            · rw [e]; exact decide_eq_true hl
            · exact hall j (by omega)
          · have e : (((R.getD i []).length : Int) != (n : Int) - ((n % 4 : Nat) : Int)) = true := by rw [bne_iff_ne]; omega
            have hall2 : ((List.range R.length).all fun i => decide ((R.getD i []).length = n - n % 4)) = false := all_false_of (i := i) (by omega) (decide_eq_false hl)
            rw [hall2]
            try simp (disch := first | omega | (simp only [ints_length, List.length_replicate, List.length_set]; done) | (simp only [ints_length, List.length_replicate, List.length_set]; omega)) only [Sall,evalOp,init,binE,binI,unE,convE,okNil,builtE,gv,TD.isAgg,resV,↓reduceIte,Nat.reduceEqDiff,reduceCtorEq,Nat.reduceAdd,Nat.reduceMul,Nat.reduceLeDiff,quietOp,blindOp,Int.reduceEq,Int.reduceLT,Int.reduceLE,Nat.reduceLT,ti2,ti3,ti4,ti41,ti42,ti62,ti22,ti45,ti37,ti47,ti39,ti74,ti138,ti101,ti103,ti108,ti24,ti28,ti96, h4', h3, h1, e1, ex, hxr, hy, hok, builtE, hyl, em, e, w64, Bool.and_false, Bool.false_and]
            (repeat refine And.intro (by omega) ?_)
            exact up
        · have hi2 : i = R.length := by omega
          subst hi2
          have hall2 : ((List.range R.length).all fun i => decide ((R.getD i []).length = n - n % 4)) = true := all_true_of fun i hi => hall i hi
          have hR4 : ∀ i, i < R.length → (R.getD i []).length % 4 = 0 := fun i hi => by
            have := of_decide_eq_true (hall i hi)
            omega
          rw [hall2]
          have z1 : zeros 1 [.int .i64 0] = [.int .i64 0] := rfl
          have z2 : zeros 2 [.int .i64 0] = [.int .i64 0, .int .i64 0] := rfl
          try simp (disch := first | omega | (simp only [ints_length, List.length_replicate, List.length_set]; done) | (simp only [ints_length, List.length_replicate, List.length_set]; omega)) only [Sall,evalOp,init,binE,binI,unE,convE,okNil,builtE,gv,TD.isAgg,resV,↓reduceIte,Nat.reduceEqDiff,reduceCtorEq,Nat.reduceAdd,Nat.reduceMul,Nat.reduceLeDiff,quietOp,blindOp,Int.reduceEq,Int.reduceLT,Int.reduceLE,Nat.reduceLT,ti2,ti3,ti4,ti41,ti42,ti62,ti22,ti45,ti37,ti47,ti39,ti74,ti138,ti101,ti103,ti108,ti24,ti28,ti96, h1, e1, z1, slCells, Bool.true_and]
          obtain ⟨H3, e3⟩ : ∃ H3, H3 = H'.push ⟨3, true, [.int .i64 1]⟩ := ⟨_, rfl⟩
          have up3 : Up H'.next H' H3 := by rw [e3]; exact (Up.refl _ _).push (Nat.le_refl _) _
          have r3 : H3.row H'.next = some ⟨3, true, [.int .i64 1]⟩ := by rw [e3, AH.push_row, if_pos rfl]
          have n3 : H3.next = H'.next + 1 := by rw [e3]; rfl
          rw [← e3]
          clear e3
          have U3 : Up H.next H H3 := up.trans up3 (by omega)
          refine (l06Table_c n hn u R (.slice (some ⟨H'.next, 0, some 1⟩) 1 1) [1] wP way1 H3 (hu.same (U3.le hs).row) ⟨rfl, .inr ⟨H'.next, 0, _, _, _, rfl, r3, Nat.le_refl _, rfl⟩⟩ (by decide) (by decide) hR hR4).sc.mono ?_
          rintro v4 H4 ⟨⟨up4, f4⟩, sc4⟩
          have n4 := up4.next
          have r4 : H4.row H.next = some ⟨28, true, [.int .i64 n, u]⟩ := by rw [up4.row _ (by omega), up3.row _ (by omega), e1]
          have U4 : Up H.next H H4 := U3.trans up4 (by omega)
          refine Holds.mp ?_
          try simp (disch := first | omega | (simp only [ints_length, List.length_replicate, List.length_set]; done) | (simp only [ints_length, List.length_replicate, List.length_set]; omega)) only [Sall,evalOp,init,binE,binI,unE,convE,okNil,builtE,gv,TD.isAgg,resV,↓reduceIte,Nat.reduceEqDiff,reduceCtorEq,Nat.reduceAdd,Nat.reduceMul,Nat.reduceLeDiff,quietOp,blindOp,Int.reduceEq,Int.reduceLT,Int.reduceLE,Nat.reduceLT,ti2,ti3,ti4,ti41,ti42,ti62,ti22,ti45,ti37,ti47,ti39,ti74,ti138,ti101,ti103,ti108,ti24,ti28,ti96, true_and]
          refine (l06Each_c v4 n _ 1 H4 f4.rd (tabM_sq _ _ _) (by omega)).to ?_
          cases g1 : eachB (fun x => x == 1) (tabM n wP R) with
          | false =>
            try simp (disch := first | omega | (simp only [ints_length, List.length_replicate, List.length_set]; done) | (simp only [ints_length, List.length_replicate, List.length_set]; omega)) only [Sall,evalOp,init,binE,binI,unE,convE,okNil,builtE,gv,TD.isAgg,resV,↓reduceIte,Nat.reduceEqDiff,reduceCtorEq,Nat.reduceAdd,Nat.reduceMul,Nat.reduceLeDiff,quietOp,blindOp,Int.reduceEq,Int.reduceLT,Int.reduceLE,Nat.reduceLT,ti2,ti3,ti4,ti41,ti42,ti62,ti22,ti45,ti37,ti47,ti39,ti74,ti138,ti101,ti103,ti108,ti24,ti28,ti96, Bool.false_and]
            exact ⟨rfl, U4⟩
          | true =>
            try simp (disch := first | omega | (simp only [ints_length, List.length_replicate, List.length_set]; done) | (simp only [ints_length, List.length_replicate, List.length_set]; omega)) only [Sall,evalOp,init,binE,binI,unE,convE,okNil,builtE,gv,TD.isAgg,resV,↓reduceIte,Nat.reduceEqDiff,reduceCtorEq,Nat.reduceAdd,Nat.reduceMul,Nat.reduceLeDiff,quietOp,blindOp,Int.reduceEq,Int.reduceLT,Int.reduceLE,Nat.reduceLT,ti2,ti3,ti4,ti41,ti42,ti62,ti22,ti45,ti37,ti47,ti39,ti74,ti138,ti101,ti103,ti108,ti24,ti28,ti96, Bool.true_and, h1, r4, z2, slCells]
            obtain ⟨H5, e5⟩ : ∃ H5, H5 = H4.push ⟨3, true, [.int .i64 2, .int .i64 3]⟩ := ⟨_, rfl⟩
            have up5 : Up H4.next H4 H5 := by rw [e5]; exact (Up.refl _ _).push (Nat.le_refl _) _
            have r5 : H5.row H4.next = some ⟨3, true, [.int .i64 2, .int .i64 3]⟩ := by rw [e5, AH.push_row, if_pos rfl]
            have n5 : H5.next = H4.next + 1 := by rw [e5]; rfl
            rw [← e5]
            clear e5
            have U5 : Up H.next H H5 := U4.trans up5 (by omega)
            refine (l06Table_c n hn u R (.slice (some ⟨H4.next, 0, some 1⟩) 2 2) [2, 3] wO way23 H5 (hu.same (U5.le hs).row) ⟨rfl, .inr ⟨H4.next, 0, _, _, _, rfl, r5, Nat.le_refl _, rfl⟩⟩ (by decide) (by decide) hR hR4).sc.mono ?_
            rintro v6 H6 ⟨⟨up6, f6⟩, sc6⟩
            have n6 := up6.next
            refine Holds.mp ?_
            try simp (disch := first | omega | (simp only [ints_length, List.length_replicate, List.length_set]; done) | (simp only [ints_length, List.length_replicate, List.length_set]; omega)) only [Sall,evalOp,init,binE,binI,unE,convE,okNil,builtE,gv,TD.isAgg,resV,↓reduceIte,Nat.reduceEqDiff,reduceCtorEq,Nat.reduceAdd,Nat.reduceMul,Nat.reduceLeDiff,quietOp,blindOp,Int.reduceEq,Int.reduceLT,Int.reduceLE,Nat.reduceLT,ti2,ti3,ti4,ti41,ti42,ti62,ti22,ti45,ti37,ti47,ti39,ti74,ti138,ti101,ti103,ti108,ti24,ti28,ti96, true_and]
            refine (l06Each_c v6 n _ 2 H6 f6.rd (tabM_sq _ _ _) (by omega)).to ?_
            try simp (disch := first | omega | (simp only [ints_length, List.length_replicate, List.length_set]; done) | (simp only [ints_length, List.length_replicate, List.length_set]; omega)) only [Sall,evalOp,init,binE,binI,unE,convE,okNil,builtE,gv,TD.isAgg,resV,↓reduceIte,Nat.reduceEqDiff,reduceCtorEq,Nat.reduceAdd,Nat.reduceMul,Nat.reduceLeDiff,quietOp,blindOp,Int.reduceEq,Int.reduceLT,Int.reduceLE,Nat.reduceLT,ti2,ti3,ti4,ti41,ti42,ti62,ti22,ti45,ti37,ti47,ti39,ti74,ti138,ti101,ti103,ti108,ti24,ti28,ti96, true_and]
            exact ⟨rfl, U5.trans up6 (by omega)⟩
    · have d2 : ((R.length : Int) != (n : Int) - 1 + ((n % 4 : Nat) : Int)) = true := by rw [bne_iff_ne]; omega
      rw [decide_eq_false hm]
      try simp (disch := first | omega | (simp only [ints_length, List.length_replicate, List.length_set]; done) | (simp only [ints_length, List.length_replicate, List.length_set]; omega)) only [Sall,evalOp,init,binE,binI,unE,convE,okNil,builtE,gv,TD.isAgg,resV,↓reduceIte,Nat.reduceEqDiff,reduceCtorEq,Nat.reduceAdd,Nat.reduceMul,Nat.reduceLeDiff,quietOp,blindOp,Int.reduceEq,Int.reduceLT,Int.reduceLE,Nat.reduceLT,ti2,ti3,ti4,ti41,ti42,ti62,ti22,ti45,ti37,ti47,ti39,ti74,ti138,ti101,ti103,ti108,ti24,ti28,ti96, e1, em, d1, builtE, hln, d2, decide_false, w64, Bool.and_false, Bool.false_and]
      exact up
  · have d1 : (1 : Int) < ((n % 4 : Nat) : Int) := by omega
    rw [decide_eq_false h4]
    try simp (disch := first | omega | (simp only [ints_length, List.length_replicate, List.length_set]; done) | (simp only [ints_length, List.length_replicate, List.length_set]; omega)) only [Sall,evalOp,init,binE,binI,unE,convE,okNil,builtE,gv,TD.isAgg,resV,↓reduceIte,Nat.reduceEqDiff,reduceCtorEq,Nat.reduceAdd,Nat.reduceMul,Nat.reduceLeDiff,quietOp,blindOp,Int.reduceEq,Int.reduceLT,Int.reduceLE,Nat.reduceLT,ti2,ti3,ti4,ti41,ti42,ti62,ti22,ti45,ti37,ti47,ti39,ti74,ti138,ti101,ti103,ti108,ti24,ti28,ti96, e1, em, d1, decide_true, Bool.false_and, w64]
    exact up

/-- While the tables are still to come. -/
structure FtJ (A : AH) (n : Nat) (R : List (List Int)) (sv : Value) (cs fs : List Nat) (t : T) (H : AH) : Prop where
  hcs : cs = [1, 2] ∨ cs = [2] ∨ cs = []
  hfs : fs = [4] ∨ fs = []
  t13 : t 13 = sv
  t16 : t 16 = sv
  up : Up A.next A H
  sc : Sc H
  p1 : 1 ∉ cs → ∃ i, t 14 = .slice (some ⟨i, 0, some 1⟩) 1 1 ∧ i < H.next ∧ H.row i = some ⟨3, true, [.int .i64 1]⟩
  s2 : 2 ∉ cs → Fr2 1 62 2 A.next H.next H (t 15) (tabM n wP R)
  p4 : 4 ∉ fs → ∃ i, t 17 = .slice (some ⟨i, 0, some 1⟩) 2 2 ∧ i < H.next ∧ H.row i = some ⟨3, true, [.int .i64 2, .int .i64 3]⟩
theorem push_up (H : AH) (r : Row) : Up H.next H (H.push r) := (Up.refl _ H).push (Nat.le_refl _) _
theorem fr2_up {lo : Nat} {v : Value} {M : List (List Int)} {H H' : AH} (h : Fr2 1 62 2 lo H.next H v M) (u : Up H.next H H') : Fr2 1 62 2 lo H'.next H' v M :=
  (h.same fun i _ hi => u.row i hi).wide (Nat.le_refl _) u.next
theorem cell_up {i : Nat} {H H' : AH} {r : Row} (hi : i < H.next) (h : H.row i = some r) (u : Up H.next H H') : i < H'.next ∧ H'.row i = some r := ⟨by have := u.next; omega, by rw [u.row i hi]; exact h⟩

end Go.Proofs.Ytnpmidgikbbnbaa.A
end

section
set_option linter.unusedSimpArgs false
set_option linter.unusedVariables false
set_option maxRecDepth 100000
set_option maxHeartbeats 2000000
namespace Go.Proofs.Ytnpmidgikbbnbaa.A
open Go Go.Abs Go.RowKit

/-- What is read where nothing is nil is appended to a new list. -/
theorem rd_seg {k n i o c : Nat} {u : Option Nat} {H : AH} {l : List Int} (h : Rd k H (.slice (some ⟨i, o, u⟩) n c) n l) (hn : 0 < n) : ∃ r, H.row i = some r ∧ o + n * k ≤ r.cells.length ∧ seg r.cells o (n * k) = ints l := by
  rcases h.2 with ⟨h0, _⟩ | ⟨i', o', u', c', r, e, hr, h3, h4⟩
  · omega
  · cases e; exact ⟨r, hr, h3, h4⟩

/-- A list that may be copied: nil, or with a row behind it. -/
def Cp (H : AH) (v : Value) (y : List Int) : Prop := Rd 1 H v y.length y ∧ (y.length = 0 → v = .slice none 0 0 ∨ ∃ i c r, v = .slice (some ⟨i, 0, some 1⟩) 0 c ∧ H.row i = some r ∧ r.rw = true)

theorem Cp.of_fr {ty lo hi : Nat} {H : AH} {v : Value} {y : List Int} (h : Fr 1 ty lo hi H v y.length y) : Cp H v y := by
  refine ⟨h.rd, fun h0 => ?_⟩
  rcases h.2 with ⟨_, rfl⟩ | ⟨i, h1, h2, rfl, hr⟩
  · exact .inl rfl
  · rw [h0]; exact .inr ⟨i, 0, _, rfl, hr, rfl⟩

theorem cloneI_c (v : Value) (y : List Int) (H : AH) (hv : Cp H v y) (hy : y.length ≤ 4194304) :
    ACalls Try.prog 142 [v] H (fun u H' => Up H.next H H' ∧ Fr 1 2 H.next H'.next H' u y.length y) := by
  refine ACalls.wf (by kernel_rfl) fun hs => acalls_of_awp [.tmp 2] Try.func142 (by kernel_rfl) rfl rfl (Nat.le_of_ble_eq_true rfl) (by kernel_rfl) ?_
  obtain ⟨hrd, hz⟩ := hv
  by_cases h0 : y.length = 0
  · have hy0 : y = [] := List.eq_nil_of_length_eq_zero h0
    subst hy0
    rcases hz h0 with rfl | ⟨i, c, r, rfl, hr, hw⟩
    · try simp (disch := first | omega | (simp only [ints_length, List.length_replicate, List.length_set]; done) | (simp only [ints_length, List.length_replicate, List.length_set]; omega)) only [Sall,evalOp,init,binE,binI,unE,convE,okNil,builtE,gv,TD.isAgg,resV,↓reduceIte,Nat.reduceEqDiff,reduceCtorEq,Nat.reduceAdd,Nat.reduceMul,Nat.reduceLeDiff,quietOp,blindOp,Int.reduceEq,Int.reduceLT,Int.reduceLE,Nat.reduceLT,ti2,ti3,ti4,ti41,ti42,ti62,ti22,ti45,ti37,ti47,ti39,ti74,ti138,ti101,ti103,ti108,ti24,ti28,ti96, binE, Option.isNone_none]
      exact ⟨Up.refl _ _, ⟨rfl, .inl ⟨rfl, rfl⟩⟩⟩
    · have hi := hs _ _ hr
      have ne : ¬ i = H.next := by omega
      have hok : Go.Abs.Row.ok r [] = True := eq_true (.inl hw)
      try simp (disch := first | omega | (simp only [ints_length, List.length_replicate, List.length_set]; done) | (simp only [ints_length, List.length_replicate, List.length_set]; omega)) only [Sall,evalOp,init,binE,binI,unE,convE,okNil,builtE,gv,TD.isAgg,resV,↓reduceIte,Nat.reduceEqDiff,reduceCtorEq,Nat.reduceAdd,Nat.reduceMul,Nat.reduceLeDiff,quietOp,blindOp,Int.reduceEq,Int.reduceLT,Int.reduceLE,Nat.reduceLT,ti2,ti3,ti4,ti41,ti42,ti62,ti22,ti45,ti37,ti47,ti39,ti74,ti138,ti101,ti103,ti108,ti24,ti28,ti96, binE, zeros_zero, slCells, hr, ne, hok, appE]
      (repeat refine And.intro (by omega) ?_)
      refine ⟨(Up.refl _ H).push (Nat.le_refl _) _, ⟨rfl, .inr ⟨H.next, Nat.le_refl _, Nat.lt_succ_self _, rfl, by rw [AH.push_row, if_pos rfl]; rfl⟩⟩⟩
  · obtain ⟨i, o, u, c, r, rfl, hr, hc, _, _⟩ := hrd.get (by omega)
    obtain ⟨r', hr', hc', hseg⟩ := rd_seg hrd (by omega)
    rw [hr] at hr'
    cases hr'
    rw [Nat.mul_one] at hseg hc
    have hi := hs _ _ hr
    have ne : ¬ i = H.next := by omega
    try simp (disch := first | omega | (simp only [ints_length, List.length_replicate, List.length_set]; done) | (simp only [ints_length, List.length_replicate, List.length_set]; omega)) only [Sall,evalOp,init,binE,binI,unE,convE,okNil,builtE,gv,TD.isAgg,resV,↓reduceIte,Nat.reduceEqDiff,reduceCtorEq,Nat.reduceAdd,Nat.reduceMul,Nat.reduceLeDiff,quietOp,blindOp,Int.reduceEq,Int.reduceLT,Int.reduceLE,Nat.reduceLT,ti2,ti3,ti4,ti41,ti42,ti62,ti22,ti45,ti37,ti47,ti39,ti74,ti138,ti101,ti103,ti108,ti24,ti28,ti96, binE, zeros_zero, slCells, hr, ne, hseg]
    (repeat refine And.intro (by omega) ?_)
    have h3 : Fr 1 2 H.next (H.next + 1) (H.push ⟨2, true, []⟩) (.slice (some ⟨H.next, 0, some 1⟩) 0 0) 0 [] := ⟨rfl, .inr ⟨H.next, Nat.le_refl _, Nat.lt_succ_self _, rfl, by rw [AH.push_row, if_pos rfl]; rfl⟩⟩
    refine appE_fr h3 rfl (by omega) (by omega) (by omega) (by decide) (by omega) (by rw [AH.push_next]; omega) ?_
    intro v' H4 k1 k2 k3
    rw [AH.push_next] at k1 k2 k3
    rw [Nat.zero_add, List.nil_append] at k3
    have k5 := k3.rd.one
    try simp (disch := first | omega | (simp only [ints_length, List.length_replicate, List.length_set]; done) | (simp only [ints_length, List.length_replicate, List.length_set]; omega)) only [Sall,evalOp,init,binE,binI,unE,convE,okNil,builtE,gv,TD.isAgg,resV,↓reduceIte,Nat.reduceEqDiff,reduceCtorEq,Nat.reduceAdd,Nat.reduceMul,Nat.reduceLeDiff,quietOp,blindOp,Int.reduceEq,Int.reduceLT,Int.reduceLE,Nat.reduceLT,ti2,ti3,ti4,ti41,ti42,ti62,ti22,ti45,ti37,ti47,ti39,ti74,ti138,ti101,ti103,ti108,ti24,ti28,ti96, true_and]
    exact ⟨⟨by omega, fun i hi => by rw [k2 i (by omega) (by omega), AH.push_row, if_neg (by omega)]⟩, k3.wide (by omega) (by omega)⟩

theorem l01Own_c (v : Value) (y : List Int) (H : AH) (hv : Cp H v y) (hy : y.length ≤ 4194304) :
    ACalls Try.prog 138 [v] H (fun u H' => Up H.next H H' ∧ Fr 1 2 H.next H'.next H' u y.length y) := by
  refine ACalls.wf (by kernel_rfl) fun hs => acalls_of_awp [.tmp 2] Try.func138 (by kernel_rfl) rfl rfl (Nat.le_of_ble_eq_true rfl) (by kernel_rfl) ?_
  obtain ⟨hrd, hz⟩ := hv
  by_cases h0 : y.length = 0
  · have hy0 : y = [] := List.eq_nil_of_length_eq_zero h0
    subst hy0
    rcases hz h0 with rfl | ⟨i, c, r, rfl, hr, hw⟩
    · try simp (disch := first | omega | (simp only [ints_length, List.length_replicate, List.length_set]; done) | (simp only [ints_length, List.length_replicate, List.length_set]; omega)) only [Sall,evalOp,init,binE,binI,unE,convE,okNil,builtE,gv,TD.isAgg,resV,↓reduceIte,Nat.reduceEqDiff,reduceCtorEq,Nat.reduceAdd,Nat.reduceMul,Nat.reduceLeDiff,quietOp,blindOp,Int.reduceEq,Int.reduceLT,Int.reduceLE,Nat.reduceLT,ti2,ti3,ti4,ti41,ti42,ti62,ti22,ti45,ti37,ti47,ti39,ti74,ti138,ti101,ti103,ti108,ti24,ti28,ti96, zeros_zero, slCells, appE]
      refine ⟨(Up.refl _ H).push (Nat.le_refl _) _, ⟨rfl, .inr ⟨H.next, Nat.le_refl _, Nat.lt_succ_self _, rfl, by rw [AH.push_row, if_pos rfl]; rfl⟩⟩⟩
    · have hi := hs _ _ hr
      have ne : ¬ i = H.next := by omega
      have hok : Go.Abs.Row.ok r [] = True := eq_true (.inl hw)
      try simp (disch := first | omega | (simp only [ints_length, List.length_replicate, List.length_set]; done) | (simp only [ints_length, List.length_replicate, List.length_set]; omega)) only [Sall,evalOp,init,binE,binI,unE,convE,okNil,builtE,gv,TD.isAgg,resV,↓reduceIte,Nat.reduceEqDiff,reduceCtorEq,Nat.reduceAdd,Nat.reduceMul,Nat.reduceLeDiff,quietOp,blindOp,Int.reduceEq,Int.reduceLT,Int.reduceLE,Nat.reduceLT,ti2,ti3,ti4,ti41,ti42,ti62,ti22,ti45,ti37,ti47,ti39,ti74,ti138,ti101,ti103,ti108,ti24,ti28,ti96, zeros_zero, slCells, hr, ne, hok, appE]
      (repeat refine And.intro (by omega) ?_)
      refine ⟨(Up.refl _ H).push (Nat.le_refl _) _, ⟨rfl, .inr ⟨H.next, Nat.le_refl _, Nat.lt_succ_self _, rfl, by rw [AH.push_row, if_pos rfl]; rfl⟩⟩⟩
  · obtain ⟨i, o, u, c, r, rfl, hr, hc, _, _⟩ := hrd.get (by omega)
    obtain ⟨r', hr', hc', hseg⟩ := rd_seg hrd (by omega)
    rw [hr] at hr'
    cases hr'
    rw [Nat.mul_one] at hseg hc
    have hi := hs _ _ hr
    have ne : ¬ i = H.next := by omega
    try simp (disch := first | omega | (simp only [ints_length, List.length_replicate, List.length_set]; done) | (simp only [ints_length, List.length_replicate, List.length_set]; omega)) only [Sall,evalOp,init,binE,binI,unE,convE,okNil,builtE,gv,TD.isAgg,resV,↓reduceIte,Nat.reduceEqDiff,reduceCtorEq,Nat.reduceAdd,Nat.reduceMul,Nat.reduceLeDiff,quietOp,blindOp,Int.reduceEq,Int.reduceLT,Int.reduceLE,Nat.reduceLT,ti2,ti3,ti4,ti41,ti42,ti62,ti22,ti45,ti37,ti47,ti39,ti74,ti138,ti101,ti103,ti108,ti24,ti28,ti96, zeros_zero, slCells, hr, ne, hseg]
    (repeat refine And.intro (by omega) ?_)
    have h3 : Fr 1 2 H.next (H.next + 1) (H.push ⟨2, true, []⟩) (.slice (some ⟨H.next, 0, some 1⟩) 0 0) 0 [] := ⟨rfl, .inr ⟨H.next, Nat.le_refl _, Nat.lt_succ_self _, rfl, by rw [AH.push_row, if_pos rfl]; rfl⟩⟩
    refine appE_fr h3 rfl (by omega) (by omega) (by omega) (by decide) (by omega) (by rw [AH.push_next]; omega) ?_
    intro v' H4 k1 k2 k3
    rw [AH.push_next] at k1 k2 k3
    rw [Nat.zero_add, List.nil_append] at k3
    have k5 := k3.rd.one
    try simp (disch := first | omega | (simp only [ints_length, List.length_replicate, List.length_set]; done) | (simp only [ints_length, List.length_replicate, List.length_set]; omega)) only [Sall,evalOp,init,binE,binI,unE,convE,okNil,builtE,gv,TD.isAgg,resV,↓reduceIte,Nat.reduceEqDiff,reduceCtorEq,Nat.reduceAdd,Nat.reduceMul,Nat.reduceLeDiff,quietOp,blindOp,Int.reduceEq,Int.reduceLT,Int.reduceLE,Nat.reduceLT,ti2,ti3,ti4,ti41,ti42,ti62,ti22,ti45,ti37,ti47,ti39,ti74,ti138,ti101,ti103,ti108,ti24,ti28,ti96, true_and]
    exact ⟨⟨by omega, fun i hi => by rw [k2 i (by omega) (by omega), AH.push_row, if_neg (by omega)]⟩, k3.wide (by omega) (by omega)⟩

theorem seqL_succ (a : Int) (m : Nat) : seqL a (m + 1) = seqL a m ++ [a + m] := by simp [seqL, List.range_succ]

theorem numbersFrom_c (a b : Int) (m : Nat) (ha : 0 ≤ a ∧ a ≤ 1024) (hm : m ≤ 1024) (hb : b = a + m - 1) (H : AH) :
    ACalls Try.prog 98 [.int .i64 a, .int .i64 b] H (fun u H' => Up H.next H H' ∧ Fr 1 2 H.next H'.next H' u m (seqL a m)) := by
  refine acalls_of_awp [.tmp 4] Try.func98 (by kernel_rfl) rfl rfl (Nat.le_of_ble_eq_true rfl) (by kernel_rfl) ?_
  try simp (disch := first | omega | (simp only [ints_length, List.length_replicate, List.length_set]; done) | (simp only [ints_length, List.length_replicate, List.length_set]; omega)) only [Sall,evalOp,init,binE,binI,unE,convE,okNil,builtE,gv,TD.isAgg,resV,↓reduceIte,Nat.reduceEqDiff,reduceCtorEq,Nat.reduceAdd,Nat.reduceMul,Nat.reduceLeDiff,quietOp,blindOp,Int.reduceEq,Int.reduceLT,Int.reduceLE,Nat.reduceLT,ti2,ti3,ti4,ti41,ti42,ti62,ti22,ti45,ti37,ti47,ti39,ti74,ti138,ti101,ti103,ti108,ti24,ti28,ti96, zeros_zero]
  refine awp_loop (fun z t H' => ∃ (c : Nat) (u : Value) (lo hi : Nat), z = m - c ∧ c ≤ m ∧ t 6 = .int .i64 (a + c) ∧ t 5 = u ∧ t 1 = .int .i64 b ∧ Up H.next H H' ∧ H.next ≤ lo ∧ lo ≤ hi ∧ hi ≤ H'.next ∧ Fr 1 2 lo hi H' u c (seqL a c)) m ?_ ?_
  · refine ⟨0, .slice (some ⟨H.next, 0, some 1⟩) 0 0, H.next, H.next + 1, by omega, by omega, ?_⟩
    try simp (disch := first | omega | (simp only [ints_length, List.length_replicate, List.length_set]; done) | (simp only [ints_length, List.length_replicate, List.length_set]; omega)) only [Sall,evalOp,init,binE,binI,unE,convE,okNil,builtE,gv,TD.isAgg,resV,↓reduceIte,Nat.reduceEqDiff,reduceCtorEq,Nat.reduceAdd,Nat.reduceMul,Nat.reduceLeDiff,quietOp,blindOp,Int.reduceEq,Int.reduceLT,Int.reduceLE,Nat.reduceLT,ti2,ti3,ti4,ti41,ti42,ti62,ti22,ti45,ti37,ti47,ti39,ti74,ti138,ti101,ti103,ti108,ti24,ti28,ti96, Int.natCast_zero, Int.add_zero]
    refine ⟨(Up.refl _ H).push (Nat.le_refl _) _, ?_⟩
    (repeat refine And.intro (by omega) ?_)
    exact ⟨rfl, .inr ⟨H.next, Nat.le_refl _, Nat.lt_succ_self _, rfl, by rw [AH.push_row, if_pos rfl]; rfl⟩⟩
  · rintro z t H' ⟨c, u, lo, hi, hz, hcm, h6, h5, h1, hup, hlo, hlh, hhi, hfr⟩
    try simp (disch := first | omega | (simp only [ints_length, List.length_replicate, List.length_set]; done) | (simp only [ints_length, List.length_replicate, List.length_set]; omega)) only [Sall,evalOp,init,binE,binI,unE,convE,okNil,builtE,gv,TD.isAgg,resV,↓reduceIte,Nat.reduceEqDiff,reduceCtorEq,Nat.reduceAdd,Nat.reduceMul,Nat.reduceLeDiff,quietOp,blindOp,Int.reduceEq,Int.reduceLT,Int.reduceLE,Nat.reduceLT,ti2,ti3,ti4,ti41,ti42,ti62,ti22,ti45,ti37,ti47,ti39,ti74,ti138,ti101,ti103,ti108,ti24,ti28,ti96, h6, h1]
    refine condC_dec (fun h => ?_) (fun h => ?_)
    · have zz : zeros 1 [.int .i64 0] = [.int .i64 0] := rfl
      have hup1 := hup.next
      try simp (disch := first | omega | (simp only [ints_length, List.length_replicate, List.length_set]; done) | (simp only [ints_length, List.length_replicate, List.length_set]; omega)) only [Sall,evalOp,init,binE,binI,unE,convE,okNil,builtE,gv,TD.isAgg,resV,↓reduceIte,Nat.reduceEqDiff,reduceCtorEq,Nat.reduceAdd,Nat.reduceMul,Nat.reduceLeDiff,quietOp,blindOp,Int.reduceEq,Int.reduceLT,Int.reduceLE,Nat.reduceLT,ti2,ti3,ti4,ti41,ti42,ti62,ti22,ti45,ti37,ti47,ti39,ti74,ti138,ti101,ti103,ti108,ti24,ti28,ti96, h6, h5, zz, slCells]
      obtain ⟨H2, e2⟩ : ∃ H2, H2 = H'.push ⟨2, true, [.int .i64 (a + c)]⟩ := ⟨_, rfl⟩
      have n2 : H2.next = H'.next + 1 := by rw [e2]; rfl
      have s2 : ∀ i, i < H'.next → H2.row i = H'.row i := fun i hi => by rw [e2, AH.push_row, if_neg (by omega)]
      rw [← e2]
      clear e2
      refine appE_fr (k := 1) (lo := lo) (hi := hi) (l := seqL a c) (m := [a + (c : Int)]) (hfr.same fun i _ hi => s2 i (by omega)) rfl (by omega) rfl (by omega) (by decide) (by omega) (by omega) ?_
      intro v' H3 n3 s3 f3
      try simp (disch := first | omega | (simp only [ints_length, List.length_replicate, List.length_set]; done) | (simp only [ints_length, List.length_replicate, List.length_set]; omega)) only [Sall,evalOp,init,binE,binI,unE,convE,okNil,builtE,gv,TD.isAgg,resV,↓reduceIte,Nat.reduceEqDiff,reduceCtorEq,Nat.reduceAdd,Nat.reduceMul,Nat.reduceLeDiff,quietOp,blindOp,Int.reduceEq,Int.reduceLT,Int.reduceLE,Nat.reduceLT,ti2,ti3,ti4,ti41,ti42,ti62,ti22,ti45,ti37,ti47,ti39,ti74,ti138,ti101,ti103,ti108,ti24,ti28,ti96, h6, h1, w64]
      refine ⟨m - (c + 1), by omega, c + 1, v', H2.next, H2.next + 1, rfl, by omega, by omega, rfl, ⟨by omega, fun i hi => ?_⟩, by omega, by omega, by omega, ?_⟩
      · rw [s3 i (by omega) (by omega), s2 i (by omega), hup.row i hi]
      · rw [seqL_succ]; exact f3
    · try simp (disch := first | omega | (simp only [ints_length, List.length_replicate, List.length_set]; done) | (simp only [ints_length, List.length_replicate, List.length_set]; omega)) only [Sall,evalOp,init,binE,binI,unE,convE,okNil,builtE,gv,TD.isAgg,resV,↓reduceIte,Nat.reduceEqDiff,reduceCtorEq,Nat.reduceAdd,Nat.reduceMul,Nat.reduceLeDiff,quietOp,blindOp,Int.reduceEq,Int.reduceLT,Int.reduceLE,Nat.reduceLT,ti2,ti3,ti4,ti41,ti42,ti62,ti22,ti45,ti37,ti47,ti39,ti74,ti138,ti101,ti103,ti108,ti24,ti28,ti96, h5]
      have hc : c = m := by omega
      subst hc
      exact ⟨hup, hfr.wide hlo hhi⟩

/-! ### All orders -/
/-- A list that stays readable as long as the rows from b0 on stay. -/
def Per (b0 : Nat) (H : AH) (v : Value) (y : List Int) : Prop := ∀ H', (∀ i, b0 ≤ i → i < H.next → H'.row i = H.row i) → Cp H' v y
theorem Per.nil (b0 : Nat) (H : AH) : Per b0 H (.slice none 0 0) [] := fun H' _ => ⟨⟨rfl, .inl ⟨rfl, none, 0, rfl, fun _ => rfl⟩⟩, fun _ => .inl rfl⟩
theorem Per.fr {b0 ty lo hi : Nat} {H : AH} {v : Value} {y : List Int} (h : Fr 1 ty lo hi H v y.length y) (hb : b0 ≤ lo) (hn : hi ≤ H.next) : Per b0 H v y := by
  intro H' hr
  refine Cp.of_fr (ty := ty) (lo := lo) (hi := hi) ⟨h.1, ?_⟩
  rcases h.2 with h2 | ⟨i, h1, h2, hv, hri⟩
  · exact .inl h2
  · exact .inr ⟨i, h1, h2, hv, by rw [hr i (by omega) (by omega)]; exact hri⟩

/-- How a walk through all orders ends. -/
def OrdR (b0 : Nat) (cont : List Int → Bool) (S : List (List Int) → AH → Prop) (es L : List (List Int)) (H : AH) (r : Value) (H' : AH) : Prop :=
  H.next ≤ H'.next ∧ (∀ i, b0 ≤ i → i < H.next → H'.row i = H.row i) ∧
  ((r = .bool true ∧ (∀ z ∈ L, cont z = true) ∧ S (es ++ L) H') ∨ (r = .bool false ∧ ∃ L1 z L2, L = L1 ++ z :: L2 ∧ (∀ w ∈ L1, cont w = true) ∧ cont z = false ∧ S (es ++ L1 ++ [z]) H'))

end Go.Proofs.Ytnpmidgikbbnbaa.A
end

section
set_option linter.unusedSimpArgs false
set_option linter.unusedVariables false
set_option maxRecDepth 100000
set_option maxHeartbeats 2000000
namespace Go.Proofs.Ytnpmidgikbbnbaa.A
open Go Go.Abs Go.RowKit Go.Shelf Go.Sort

def compactRen : Go.Shelf.Ren := ⟨fun | 43 => 141 | n => n, fun | 22 => 62 | 23 => 2 | 3 => 3 | 4 => 4 | 0 => 0 | n => n, fun | n => n⟩
theorem compactLy : Go.Proofs.SlLaysN.n43 Try.prog compactRen := {
  mixed := by kernel_rfl
  f43 := ⟨Try.f141.name, by decide, Try.func141.trans (congrArg some (by kernel_rfl))⟩
  t0 := Try.underlying0
  a0 := Try.isAgg0
  z0 := Try.sizeOf0
  v0 := Try.zeroValue0
  t3 := Try.underlying3
  a3 := Try.isAgg3
  z3 := Try.sizeOf3
  v3 := Try.zeroValue3
  t4 := Try.underlying4
  a4 := Try.isAgg4
  z4 := Try.sizeOf4
  v4 := Try.zeroValue4
  t22 := Try.underlying62
  a22 := Try.isAgg62
  z22 := Try.sizeOf62
  v22 := Try.zeroValue62
  t23 := Try.underlying2
  a23 := Try.isAgg2
  z23 := Try.sizeOf2
  v23 := Try.zeroValue2
  i23 := by kernel_rfl }

theorem compact_c (v : Value) (y : List Int) (lo hi : Nat) (H : AH) (hv : Fr 1 2 lo hi H v y.length y) (hy : y.length ≤ 4294967296) :
    ACalls Try.prog 141 [v] H (fun u H' => (∀ H2, asSl u (.val (.int .i64 0) H2) (fun _ _ _ n _ => .val (.int .i64 (n : Int)) H2) = .val (.int .i64 (Lib.compact y).length) H2) ∧ H'.next = H.next ∧ ∀ i, ¬ (lo ≤ i ∧ i < hi) → H'.row i = H.row i) := by
  refine ⟨by kernel_rfl, fun base ρ w args' R hL => ?_⟩
  obtain ⟨hl, hx⟩ := hL
  match args', hl, hx with
  | [a], _, hx =>
    have hva := hx 0 _ _ rfl rfl
    obtain ⟨_, ⟨h0, rfl⟩ | ⟨i, h1, h2, rfl, hr⟩⟩ := hv
    · obtain ⟨_, _, rfl⟩ := hva.nils
      have hy0 : y = [] := List.eq_nil_of_length_eq_zero h0
      subst hy0
      refine (AnyG.slices_Compact_int_empty compactLy none 0 w).mono ?_
      rintro e w' ⟨rfl, rfl⟩
      exact ⟨_, .slice none 0 0, H, ρ, rfl, ⟨fun _ => rfl, rfl, fun _ _ => rfl⟩, R, .scal rfl, Ext.refl _ _ _ _⟩
    · obtain ⟨hi1, a', c', rfl, hc, ⟨rfl, hb⟩ | ⟨_, h⟩⟩ := hva.slu
      · obtain ⟨hbase, cs, hcs, hL1⟩ := R.rwr i _ hr rfl
        have hL2 : L1 ρ H.next w (ints y) (cs.toList.take y.length) := by simpa [ints_length] using hL1
        have ht : cs.toList.take y.length = y.map (Value.int .i64) := by
          have e : cs.toList.take y.length = ints y := by
            apply List.ext_getElem?
            intro j
            by_cases hj : j < (ints y).length
            · obtain ⟨z, hz, hv1⟩ := hL2.get (ints_get? y j (by rwa [ints_length] at hj))
              rw [hz, ints_get? y j (by rwa [ints_length] at hj), VR.int (.one hv1)]
            · rw [List.getElem?_eq_none (l := ints y) (by omega), List.getElem?_eq_none (by have := hL2.1; omega)]
          exact e
        have hH : Holds (Value.int .i64) w (ρ i) 0 y.toArray := holds_of_blockI hcs ht
        refine (AnyG.slices_Compact_int compactLy (ρ i) 0 c' y w hH (by omega) hc).mono ?_
        rintro e w' ⟨rfl, q, hw'⟩
        obtain ⟨d, hd⟩ : ∃ d, d = Lib.compact y ++ List.replicate (y.length - (Lib.compact y).length) 0 := ⟨_, rfl⟩
        have hle : (Lib.compact y).length ≤ y.length := by
          unfold Lib.compact Lib.compactUpTo
          rw [List.length_map]
          exact Nat.le_trans (List.length_filter_le _ _) (by simp)
        have hdl : d.length = y.length := by rw [hd, List.length_append, List.length_replicate]; omega
        rw [← hd] at hw'
        have hw2 : w' = grow (putRow (Value.int .i64) (Sort.ahead w q) (ρ i) 0 d.toArray) #[] := by rw [hw', grow_empty]
        have hg : w.grownBy w' (some (ρ i)) := by rw [hw2]; exact grownBy_sortedI _
        have h1' := heap_sortedI (n := q) (os := #[]) d.toArray hcs
        rw [← hw2] at h1'
        have hbs : cs.size = c' := by have := hb; simp [bsz, hcs] at this; omega
        have hx2 : L1 ρ H.next w (ints d) ((putCells (Value.int .i64) 0 d.toArray cs).toList.take (ints d).length) := by
          rw [ints_length, take_putCellsI cs d (by omega)]
          exact L1.self fun v hv => by obtain ⟨z, _, rfl⟩ := List.mem_map.1 hv; rfl
        obtain ⟨R', E⟩ := R.turned hr rfl hg hcs h1' (by simp [putCells]) hx2
        refine ⟨_, .slice (some ⟨i, 0, some 1⟩) (Lib.compact y).length (Lib.compact y).length, H.setCells i (ints d), ρ, rfl, ⟨fun _ => rfl, rfl, fun j hj => by rw [AH.setCells_row, if_neg (by rintro rfl; exact hj ⟨h1, h2⟩)]⟩, R', .one (.slu _ _ _ _ _ _ _ hi1 (by omega) (.inl ⟨rfl, ?_⟩)), E⟩
        have := E.st _ _ hb
        exact this
      · exact absurd h (by omega)
end Go.Proofs.Ytnpmidgikbbnbaa.A
end

section
set_option linter.unusedSimpArgs false
set_option linter.unusedVariables false
set_option maxRecDepth 100000
set_option maxHeartbeats 2000000
namespace Go.Proofs.Ytnpmidgikbbnbaa.A
open Go Go.Abs Go.RowKit

/-- What IsStepSequence answers. -/
def isqB (y : List Int) : Bool := listB y && stpB y.length y
def isqC (y : List Int) : Int := if listB y = true then 0 else 2

end Go.Proofs.Ytnpmidgikbbnbaa.A
end

section
set_option linter.unusedSimpArgs false
set_option linter.unusedVariables false
namespace Go.Abs

/-- Different numbers below n. -/
def distB (n : Nat) (l : List Int) : Bool := (l.all fun x => decide (0 ≤ x ∧ x < (n : Int))) && decide l.Nodup
theorem distB_at {n : Nat} {l : List Int} (h : distB n l = true) : (∀ x ∈ l, 0 ≤ x ∧ x < (n : Int)) ∧ l.Nodup := by
  unfold distB at h
  rw [Bool.and_eq_true, List.all_eq_true, decide_eq_true_iff] at h
  exact ⟨fun x hx => of_decide_eq_true (h.1 x hx), h.2⟩
theorem distB_len {n : Nat} {l : List Int} (h : distB n l = true) : l.length ≤ n := by
  obtain ⟨h1, h2⟩ := distB_at h
  by_cases hl : l.length ≤ n
  · exact hl
  · have hp := perm_of_nodup l (seqL 0 n) h2 (fun x hx => (mem_seqL_iff 0 n x).2 (by have := h1 x hx; omega)) (by rw [seqL_length]; omega)
    have := hp.length_eq
    rw [seqL_length] at this
    omega
theorem distB_bad {n : Nat} {y : List Int} {i : Nat} (hi : i < y.length) (h : ¬ (0 ≤ y.getD i 0 ∧ y.getD i 0 < (n : Int)) ∨ (y.take i).contains (y.getD i 0) = true) : distB n y = false := by
  rw [Bool.eq_false_iff]
  intro ho
  obtain ⟨h1, h2⟩ := distB_at ho
  rcases h with h | h
  · exact h (h1 _ (by rw [List.getD_eq_getElem?_getD, List.getElem?_eq_getElem hi]; exact List.getElem_mem _))
  · have h3 := nodup_take h2 (i + 1)
    rw [take_snoc y 0 i hi] at h3
    exact (nodup_snoc.1 h3).2 (List.contains_iff_mem.1 h)
theorem distB_all {n : Nat} {y : List Int} (h : goodTo n y y.length) : distB n y = true := by
  unfold goodTo at h
  rw [List.take_length] at h
  unfold distB
  rw [Bool.and_eq_true, List.all_eq_true]
  exact ⟨fun x hx => decide_eq_true (h.1 x hx), decide_eq_true h.2⟩
theorem sorted_first {y : List Int} (h : 0 < y.length) : (0 ≤ (sortedL y).getD 0 0) ↔ ∀ x ∈ y, 0 ≤ x := by
  have hl := sortedL_length y
  have hs := sortedL_sorted y
  have hp := sortedL_perm y
  cases e : sortedL y with
  | nil => rw [e] at hl; simp at hl; omega
  | cons a z =>
    rw [e] at hs hp
    constructor
    · intro h0 x hx
      have hx2 := hp.symm.subset hx
      rcases List.mem_cons.1 hx2 with h3 | h3
      · rw [h3]; simpa using h0
      · have := List.rel_of_pairwise_cons hs h3
        have h4 : 0 ≤ a := by simpa using h0
        omega
    · intro h0
      have := h0 a (hp.subset List.mem_cons_self)
      simpa using this
theorem sorted_last {y : List Int} {n : Int} (h : 0 < y.length) : ((sortedL y).getD (y.length - 1) 0 < n) ↔ ∀ x ∈ y, x < n := by
  have hl := sortedL_length y
  have hs := sortedL_sorted y
  have hp := sortedL_perm y
  rw [List.pairwise_iff_getElem] at hs
  constructor
  · intro h0 x hx
    obtain ⟨i, hi, rfl⟩ := List.getElem_of_mem (hp.symm.subset hx)
    rw [List.getD_eq_getElem?_getD, List.getElem?_eq_getElem (by omega)] at h0
    simp only [Option.getD_some] at h0
    by_cases e : i = y.length - 1
    · subst e; exact h0
    · have := hs i (y.length - 1) hi (by omega) (by omega)
      omega
  · intro h0
    rw [List.getD_eq_getElem?_getD, List.getElem?_eq_getElem (by omega)]
    exact h0 _ (hp.subset (List.getElem_mem _))
theorem distB_sorted {n : Nat} {y : List Int} (h : 0 < y.length) : distB n y = (decide (0 ≤ (sortedL y).getD 0 0) && decide ((sortedL y).getD (y.length - 1) 0 < (n : Int)) && decide y.Nodup) := by
  unfold distB
  congr 1
  rw [Bool.eq_iff_iff, List.all_eq_true, Bool.and_eq_true, decide_eq_true_iff, decide_eq_true_iff, sorted_first h, sorted_last h]
  constructor
  · intro h1
    exact ⟨fun x hx => (of_decide_eq_true (h1 x hx)).1, fun x hx => (of_decide_eq_true (h1 x hx)).2⟩
  · rintro ⟨h1, h2⟩ x hx
    exact decide_eq_true ⟨h1 x hx, h2 x hx⟩
theorem distB_nil (n : Nat) : distB n [] = true := rfl
/-- Is it an evening? -/
def evRow (n : Nat) (l : List Int) : Bool := decide (l.length % 4 = 0) && distB n l
def evB (q : Int) (R : List (List Int)) : Bool := decide (4 ≤ q ∧ q ≤ 16) && (decide (R.length ≤ 20) && (List.range R.length).all fun i => evRow q.toNat (R.getD i []))
theorem evB_at {q : Int} {R : List (List Int)} (h : evB q R = true) : ∃ n : Nat, q = n ∧ 4 ≤ n ∧ n ≤ 16 ∧ R.length ≤ 20 ∧ ∀ i, i < R.length → (R.getD i []).length % 4 = 0 ∧ (R.getD i []).length ≤ 16 ∧ (∀ x ∈ R.getD i [], 0 ≤ x ∧ x < (n : Int)) ∧ (R.getD i []).Nodup := by
  unfold evB at h
  rw [Bool.and_eq_true, Bool.and_eq_true, decide_eq_true_iff, decide_eq_true_iff, List.all_eq_true] at h
  obtain ⟨h1, h2, h3⟩ := h
  refine ⟨q.toNat, by omega, by omega, by omega, h2, fun i hi => ?_⟩
  have h4 := h3 i (by simpa using hi)
  unfold evRow at h4
  rw [Bool.and_eq_true, decide_eq_true_iff] at h4
  have h5 := distB_len h4.2
  have h6 := distB_at h4.2
  exact ⟨h4.1, by omega, h6.1, h6.2⟩
def evC (q : Int) (R : List (List Int)) : Int := if evB q R = true then 0 else 1
def poL (q : Int) (R : List (List Int)) : List (List Int) := if evB q R = true then tabM q.toNat wP R else []
def whB (q : Int) (R : List (List Int)) : Bool := evB q R && whistB q.toNat R
def trB (q : Int) (R : List (List Int)) : Bool := evB q R && (whistB q.toNat R && eachB (fun x => x == 1) (tabM q.toNat w1L R))
theorem sq_tot {n : Nat} {M : List (List Int)} (h : SqM n M) : tot M = n * n := by
  have key : ∀ (M : List (List Int)), (∀ r ∈ M, r.length = n) → tot M = M.length * n := by
    intro M
    induction M with
    | nil => intro _; simp [tot]
    | cons r M ih =>
      intro hM
      have e : tot (r :: M) = r.length + tot M := by simp [tot]
      rw [e, ih (fun r' hr' => hM r' (List.mem_cons_of_mem _ hr')), hM r List.mem_cons_self, List.length_cons, Nat.add_mul, Nat.one_mul]
      omega
  rw [key M fun r hr => ?_, h.1]
  obtain ⟨i, hi, rfl⟩ := List.getElem_of_mem hr
  have h2 := h.2 i (by rw [← h.1]; exact hi)
  rw [List.getD_eq_getElem?_getD, List.getElem?_eq_getElem hi] at h2
  simpa using h2
theorem poL_len (q : Int) (R : List (List Int)) : (poL q R).length ≤ 16 ∧ tot (poL q R) ≤ 256 ∧ ∀ r ∈ poL q R, r.length ≤ 16 := by
  unfold poL
  split
  · rename_i h
    obtain ⟨n, rfl, h4, h16, _⟩ := evB_at h
    rw [Int.toNat_natCast]
    have hs := tabM_sq n wP R
    refine ⟨by rw [hs.1]; exact h16, by rw [sq_tot hs]; exact Nat.mul_le_mul h16 h16, fun r hr => ?_⟩
    obtain ⟨i, hi, rfl⟩ := List.getElem_of_mem hr
    have h2 := hs.2 i (by rw [← hs.1]; exact hi)
    rw [List.getD_eq_getElem?_getD, List.getElem?_eq_getElem hi] at h2
    simp only [Option.getD_some] at h2
    omega
  · simp [tot]
end Go.Abs
end

section
set_option linter.unusedSimpArgs false
set_option linter.unusedVariables false
set_option maxRecDepth 100000
set_option maxHeartbeats 2000000
namespace Go.Proofs.Ytnpmidgikbbnbaa.A
open Go Go.Abs Go.RowKit

theorem areDistinct_c (n : Nat) (v : Value) (y : List Int) (H : AH) (hv : Rd 1 H v y.length y) (hy : y.length ≤ 4194304) :
    ACalls Try.prog 116 [v, .int .i64 n] H (is (.bool (distB n y)) H) := by
  refine acalls_up rfl (ACalls.wf (by kernel_rfl) fun hs => acalls_of_awp [.tmp 4] Try.func116 (by kernel_rfl) rfl rfl (Nat.le_of_ble_eq_true rfl) (by kernel_rfl) ?_)
  try simp (disch := first | omega | (simp only [ints_length, List.length_replicate, List.length_set]; done) | (simp only [ints_length, List.length_replicate, List.length_set]; omega)) only [Sall,evalOp,init,binE,binI,unE,convE,okNil,builtE,gv,TD.isAgg,resV,↓reduceIte,Nat.reduceEqDiff,reduceCtorEq,Nat.reduceAdd,Nat.reduceMul,Nat.reduceLeDiff,quietOp,blindOp,Int.reduceEq,Int.reduceLT,Int.reduceLE,Nat.reduceLT,ti2,ti3,ti4,ti41,ti42,ti62,ti22,ti45,ti37,ti47,ti39,ti74,ti138,ti101,ti103,ti108,ti24,ti28,ti96, true_and]
  refine (values_c v H hv.one).to ?_
  try simp (disch := first | omega | (simp only [ints_length, List.length_replicate, List.length_set]; done) | (simp only [ints_length, List.length_replicate, List.length_set]; omega)) only [Sall,evalOp,init,binE,binI,unE,convE,okNil,builtE,gv,TD.isAgg,resV,↓reduceIte,Nat.reduceEqDiff,reduceCtorEq,Nat.reduceAdd,Nat.reduceMul,Nat.reduceLeDiff,quietOp,blindOp,Int.reduceEq,Int.reduceLT,Int.reduceLE,Nat.reduceLT,ti2,ti3,ti4,ti41,ti42,ti62,ti22,ti45,ti37,ti47,ti39,ti74,ti138,ti101,ti103,ti108,ti24,ti28,ti96, true_and]
  have up : Up H.next H (H.push ⟨62, true, [v]⟩) := (Up.refl _ H).push (Nat.le_refl _) _
  have e1 : (H.push ⟨62, true, [v]⟩).row H.next = some ⟨62, true, [v]⟩ := by rw [AH.push_row, if_pos rfl]
  have n1 : (H.push ⟨62, true, [v]⟩).next = H.next + 1 := rfl
  revert up e1 n1
  generalize H.push ⟨62, true, [v]⟩ = H1
  intro up e1 n1
  refine (sorted_c H.next v y H1 e1 (hv.same (up.le hs).row) (by omega)).mono ?_
  rintro u H2 ⟨up2, hf⟩
  have hl2 := sortedL_length y
  have n2 := up2.next
  have u2 : Up H.next H H2 := up.trans up2 (by omega)
  have hf' : Fr 1 2 H1.next H2.next H2 u (sortedL y).length (sortedL y) := by rw [hl2]; exact hf
  have hul := hf'.rd.len
  rw [hl2] at hul
  refine Holds.mp ?_
  by_cases h0 : y.length = 0
  · have e0 : ((y.length : Int) == 0) = true := by rw [h0]; rfl
    have hy0 : y = [] := List.eq_nil_of_length_eq_zero h0
    have hd : distB n y = true := by rw [hy0]; rfl
    rw [hd]
    try simp (disch := first | omega | (simp only [ints_length, List.length_replicate, List.length_set]; done) | (simp only [ints_length, List.length_replicate, List.length_set]; omega)) only [Sall,evalOp,init,binE,binI,unE,convE,okNil,builtE,gv,TD.isAgg,resV,↓reduceIte,Nat.reduceEqDiff,reduceCtorEq,Nat.reduceAdd,Nat.reduceMul,Nat.reduceLeDiff,quietOp,blindOp,Int.reduceEq,Int.reduceLT,Int.reduceLE,Nat.reduceLT,ti2,ti3,ti4,ti41,ti42,ti62,ti22,ti45,ti37,ti47,ti39,ti74,ti138,ti101,ti103,ti108,ti24,ti28,ti96, builtE, hul, e0]
    exact u2
  · have e0 : ((y.length : Int) == 0) = false := by rw [beq_eq_false_iff_ne]; omega
    have hd := distB_sorted (n := n) (y := y) (by omega)
    have hcs := compact_sorted y
    obtain ⟨i, o, uu, cc, r, eu, hr, _, hg, _⟩ := hf'.rd.get (by omega)
    rw [hl2] at eu
    have g0 := hg 0 (by omega)
    rw [Nat.add_zero] at g0
    have g1 := hg (y.length - 1) (by omega)
    have i0 : (0 : Int).toNat = 0 := rfl
    have i1 : ((y.length : Int) - 1).toNat = y.length - 1 := by omega
    have k0 : (0 : Int) < (y.length : Int) := by omega
    rw [hd]
    revert g0 g1
    generalize (sortedL y).getD 0 0 = x0
    generalize (sortedL y).getD (y.length - 1) 0 = x1
    intro g0 g1
    by_cases c0 : 0 ≤ x0
    · rw [decide_eq_true c0]
      by_cases c1 : x1 < (n : Int)
      · rw [decide_eq_true c1]
        try simp (disch := first | omega | (simp only [ints_length, List.length_replicate, List.length_set]; done) | (simp only [ints_length, List.length_replicate, List.length_set]; omega)) only [Sall,evalOp,init,binE,binI,unE,convE,okNil,builtE,gv,TD.isAgg,resV,↓reduceIte,Nat.reduceEqDiff,reduceCtorEq,Nat.reduceAdd,Nat.reduceMul,Nat.reduceLeDiff,quietOp,blindOp,Int.reduceEq,Int.reduceLT,Int.reduceLE,Nat.reduceLT,ti2,ti3,ti4,ti41,ti42,ti62,ti22,ti45,ti37,ti47,ti39,ti74,ti138,ti101,ti103,ti108,ti24,ti28,ti96, builtE, hul, e0, eu, hr, g0, g1, i0, i1, k0, c0, c1, decide_true, w64]
        (repeat refine And.intro (by omega) ?_)
        have hclone := cloneI_c u (sortedL y) H2 (Cp.of_fr hf') (by omega)
        rw [eu] at hclone
        refine hclone.mono ?_
        rintro w H3 ⟨up3, hw⟩
        have n3 := up3.next
        refine Holds.mp ?_
        try simp (disch := first | omega | (simp only [ints_length, List.length_replicate, List.length_set]; done) | (simp only [ints_length, List.length_replicate, List.length_set]; omega)) only [Sall,evalOp,init,binE,binI,unE,convE,okNil,builtE,gv,TD.isAgg,resV,↓reduceIte,Nat.reduceEqDiff,reduceCtorEq,Nat.reduceAdd,Nat.reduceMul,Nat.reduceLeDiff,quietOp,blindOp,Int.reduceEq,Int.reduceLT,Int.reduceLE,Nat.reduceLT,ti2,ti3,ti4,ti41,ti42,ti62,ti22,ti45,ti37,ti47,ti39,ti74,ti138,ti101,ti103,ti108,ti24,ti28,ti96, true_and]
        refine (compact_c w (sortedL y) H2.next H3.next H3 hw (by omega)).mono ?_
        rintro z H4 ⟨hzl, n4, r4⟩
        refine Holds.mp ?_
        try simp (disch := first | omega | (simp only [ints_length, List.length_replicate, List.length_set]; done) | (simp only [ints_length, List.length_replicate, List.length_set]; omega)) only [Sall,evalOp,init,binE,binI,unE,convE,okNil,builtE,gv,TD.isAgg,resV,↓reduceIte,Nat.reduceEqDiff,reduceCtorEq,Nat.reduceAdd,Nat.reduceMul,Nat.reduceLeDiff,quietOp,blindOp,Int.reduceEq,Int.reduceLT,Int.reduceLE,Nat.reduceLT,ti2,ti3,ti4,ti41,ti42,ti62,ti22,ti45,ti37,ti47,ti39,ti74,ti138,ti101,ti103,ti108,ti24,ti28,ti96, builtE, hzl, hcs, Bool.true_and]
        exact ⟨by omega, fun i hi => by rw [r4 i (by omega), up3.row i (by omega), u2.row i hi]⟩
      · rw [decide_eq_false c1]
        try simp (disch := first | omega | (simp only [ints_length, List.length_replicate, List.length_set]; done) | (simp only [ints_length, List.length_replicate, List.length_set]; omega)) only [Sall,evalOp,init,binE,binI,unE,convE,okNil,builtE,gv,TD.isAgg,resV,↓reduceIte,Nat.reduceEqDiff,reduceCtorEq,Nat.reduceAdd,Nat.reduceMul,Nat.reduceLeDiff,quietOp,blindOp,Int.reduceEq,Int.reduceLT,Int.reduceLE,Nat.reduceLT,ti2,ti3,ti4,ti41,ti42,ti62,ti22,ti45,ti37,ti47,ti39,ti74,ti138,ti101,ti103,ti108,ti24,ti28,ti96, builtE, hul, e0, eu, hr, g0, g1, i0, i1, k0, c0, c1, decide_true, decide_false, Bool.and_false, Bool.false_and, w64]
        first | exact u2 | exact ⟨⟨by omega, by omega⟩, u2⟩
    · rw [decide_eq_false c0]
      try simp (disch := first | omega | (simp only [ints_length, List.length_replicate, List.length_set]; done) | (simp only [ints_length, List.length_replicate, List.length_set]; omega)) only [Sall,evalOp,init,binE,binI,unE,convE,okNil,builtE,gv,TD.isAgg,resV,↓reduceIte,Nat.reduceEqDiff,reduceCtorEq,Nat.reduceAdd,Nat.reduceMul,Nat.reduceLeDiff,quietOp,blindOp,Int.reduceEq,Int.reduceLT,Int.reduceLE,Nat.reduceLT,ti2,ti3,ti4,ti41,ti42,ti62,ti22,ti45,ti37,ti47,ti39,ti74,ti138,ti101,ti103,ti108,ti24,ti28,ti96, builtE, hul, e0, eu, hr, g0, g1, i0, i1, k0, c0, decide_false, Bool.false_and, w64]
      exact u2

theorem l06Round_c (n : Nat) (hn : n ≤ 1024) (v : Value) (y : List Int) (H : AH) (hv : Rd 1 H v y.length y) (hy : y.length ≤ 4294967296) :
    ACalls Try.prog 78 [.int .i64 n, v] H (is (.bool (evRow n y)) H) := by
  refine acalls_up rfl (ACalls.wf (by kernel_rfl) fun hs => acalls_of_awp [.tmp 4] Try.func78 (by kernel_rfl) rfl rfl (Nat.le_of_ble_eq_true rfl) (by kernel_rfl) ?_)
  unfold evRow
  try simp (disch := first | omega | (simp only [ints_length, List.length_replicate, List.length_set]; done) | (simp only [ints_length, List.length_replicate, List.length_set]; omega)) only [Sall,evalOp,init,binE,binI,unE,convE,okNil,builtE,gv,TD.isAgg,resV,↓reduceIte,Nat.reduceEqDiff,reduceCtorEq,Nat.reduceAdd,Nat.reduceMul,Nat.reduceLeDiff,quietOp,blindOp,Int.reduceEq,Int.reduceLT,Int.reduceLE,Nat.reduceLT,ti2,ti3,ti4,ti41,ti42,ti62,ti22,ti45,ti37,ti47,ti39,ti74,ti138,ti101,ti103,ti108,ti24,ti28,ti96, zeros_bools, ← metL_nil]
  (repeat refine And.intro (by omega) ?_)
  have hml := metL_length n []
  refine awp_loop (fun m t H' => ∃ a : Nat, m = y.length - a ∧ a ≤ y.length ∧ t 6 = .int .i64 a ∧ t 5 = .slice (some ⟨H.next, 0, some 1⟩) n n ∧ t 1 = v ∧ t 0 = .int .i64 n ∧ H.next < H'.next ∧ (∀ i, i < H.next → H'.row i = H.row i) ∧ H'.row H.next = some ⟨4, true, bools (metL n (y.take a))⟩ ∧ goodTo n y a) y.length ?_ ?_
  · refine ⟨0, by omega, by omega, ?_⟩
    try simp (disch := first | omega | (simp only [ints_length, List.length_replicate, List.length_set]; done) | (simp only [ints_length, List.length_replicate, List.length_set]; omega)) only [Sall,evalOp,init,binE,binI,unE,convE,okNil,builtE,gv,TD.isAgg,resV,↓reduceIte,Nat.reduceEqDiff,reduceCtorEq,Nat.reduceAdd,Nat.reduceMul,Nat.reduceLeDiff,quietOp,blindOp,Int.reduceEq,Int.reduceLT,Int.reduceLE,Nat.reduceLT,ti2,ti3,ti4,ti41,ti42,ti62,ti22,ti45,ti37,ti47,ti39,ti74,ti138,ti101,ti103,ti108,ti24,ti28,ti96, Int.natCast_zero, List.take_zero]
    refine ⟨by omega, fun i hi => by rw [if_neg (by omega)], goodTo_zero n y⟩
  · rintro m t H' ⟨a, hm, han, h6, h5, h1, h0, hnx, hrows, hrow, hgood⟩
    have hv' : Rd 1 H' v y.length y := hv.same fun i r hr => by rw [hrows i (hs _ _ hr)]; exact hr
    have up : Up H.next H H' := ⟨by omega, hrows⟩
    try simp (disch := first | omega | (simp only [ints_length, List.length_replicate, List.length_set]; done) | (simp only [ints_length, List.length_replicate, List.length_set]; omega)) only [Sall,evalOp,init,binE,binI,unE,convE,okNil,builtE,gv,TD.isAgg,resV,↓reduceIte,Nat.reduceEqDiff,reduceCtorEq,Nat.reduceAdd,Nat.reduceMul,Nat.reduceLeDiff,quietOp,blindOp,Int.reduceEq,Int.reduceLT,Int.reduceLE,Nat.reduceLT,ti2,ti3,ti4,ti41,ti42,ti62,ti22,ti45,ti37,ti47,ti39,ti74,ti138,ti101,ti103,ti108,ti24,ti28,ti96, h6, h1, builtE, hv'.len]
    refine condC_dec (fun h => ?_) (fun h => ?_)
    · obtain ⟨i, o, uu, cc, r, rfl, hr, hc, hg, _⟩ := hv'.get (by omega)
      have g1 := hg a (by omega)
      obtain ⟨x, hx⟩ : ∃ x, x = y.getD a 0 := ⟨_, rfl⟩
      rw [← hx] at g1
      by_cases hin : 0 ≤ x ∧ x ≤ (n : Int) - 1
      · have hin' : 0 ≤ x ∧ x < (n : Int) := by omega
        have g2 := metL_get? n (y.take a) x hin'
        have g3 := metL_put n (y.take a) x hin'
        try simp (disch := first | omega | (simp only [ints_length, List.length_replicate, List.length_set]; done) | (simp only [ints_length, List.length_replicate, List.length_set]; omega)) only [Sall,evalOp,init,binE,binI,unE,convE,okNil,builtE,gv,TD.isAgg,resV,↓reduceIte,Nat.reduceEqDiff,reduceCtorEq,Nat.reduceAdd,Nat.reduceMul,Nat.reduceLeDiff,quietOp,blindOp,Int.reduceEq,Int.reduceLT,Int.reduceLE,Nat.reduceLT,ti2,ti3,ti4,ti41,ti42,ti62,ti22,ti45,ti37,ti47,ti39,ti74,ti138,ti101,ti103,ti108,ti24,ti28,ti96, h6, h0, h1, hr, g1, w64]
        (repeat refine And.intro (by omega) ?_)
        refine (l01In_c _ _ _ _).to ?_
        rw [decide_eq_true hin]
        cases hct : (y.take a).contains x with
        | true =>
          rw [hct] at g2
          try simp (disch := first | omega | (simp only [ints_length, List.length_replicate, List.length_set]; done) | (simp only [ints_length, List.length_replicate, List.length_set]; omega)) only [Sall,evalOp,init,binE,binI,unE,convE,okNil,builtE,gv,TD.isAgg,resV,↓reduceIte,Nat.reduceEqDiff,reduceCtorEq,Nat.reduceAdd,Nat.reduceMul,Nat.reduceLeDiff,quietOp,blindOp,Int.reduceEq,Int.reduceLT,Int.reduceLE,Nat.reduceLT,ti2,ti3,ti4,ti41,ti42,ti62,ti22,ti45,ti37,ti47,ti39,ti74,ti138,ti101,ti103,ti108,ti24,ti28,ti96, Bool.not_true, h6, h5, h0, h1, hr, g1, hrow, g2, w64]
          (repeat refine And.intro (by omega) ?_)
          rw [distB_bad (i := a) (by omega) (.inr (by rw [← hx]; exact hct)), Bool.and_false]
          exact ⟨rfl, up⟩
        | false =>
          rw [hct] at g2
          have ne : ¬ i = H.next := by
            rintro rfl
            rw [hrow] at hr
            cases hr
            rcases hv.2 with ⟨h9, _⟩ | ⟨i9, o9, u9, c9, r9, e9, hr9, _⟩
            · omega
            · cases e9
              have := hs _ _ hr9
              omega
          try simp (disch := first | omega | (simp only [ints_length, List.length_replicate, List.length_set]; done) | (simp only [ints_length, List.length_replicate, List.length_set]; omega)) only [Sall,evalOp,init,binE,binI,unE,convE,okNil,builtE,gv,TD.isAgg,resV,↓reduceIte,Nat.reduceEqDiff,reduceCtorEq,Nat.reduceAdd,Nat.reduceMul,Nat.reduceLeDiff,quietOp,blindOp,Int.reduceEq,Int.reduceLT,Int.reduceLE,Nat.reduceLT,ti2,ti3,ti4,ti41,ti42,ti62,ti22,ti45,ti37,ti47,ti39,ti74,ti138,ti101,ti103,ti108,ti24,ti28,ti96, Bool.not_true, h6, h5, h0, h1, hr, g1, hrow, g2, g3, ne, w64]
          (repeat refine And.intro (by omega) ?_)
          refine ⟨by rw [bools_length, metL_length]; omega, y.length - (a + 1), by omega, a + 1, rfl, by omega, rfl, hnx, fun i hi => by rw [if_neg (by omega)]; exact hrows i hi, by rw [take_snoc y 0 a (by omega), ← hx], goodTo_succ (by omega) hgood (by rw [← hx]; exact hin') (by rw [← hx]; exact hct)⟩
      · try simp (disch := first | omega | (simp only [ints_length, List.length_replicate, List.length_set]; done) | (simp only [ints_length, List.length_replicate, List.length_set]; omega)) only [Sall,evalOp,init,binE,binI,unE,convE,okNil,builtE,gv,TD.isAgg,resV,↓reduceIte,Nat.reduceEqDiff,reduceCtorEq,Nat.reduceAdd,Nat.reduceMul,Nat.reduceLeDiff,quietOp,blindOp,Int.reduceEq,Int.reduceLT,Int.reduceLE,Nat.reduceLT,ti2,ti3,ti4,ti41,ti42,ti62,ti22,ti45,ti37,ti47,ti39,ti74,ti138,ti101,ti103,ti108,ti24,ti28,ti96, h6, h0, h1, hr, g1, w64]
        (repeat refine And.intro (by omega) ?_)
        refine (l01In_c _ _ _ _).to ?_
        rw [decide_eq_false hin]
        try simp (disch := first | omega | (simp only [ints_length, List.length_replicate, List.length_set]; done) | (simp only [ints_length, List.length_replicate, List.length_set]; omega)) only [Sall,evalOp,init,binE,binI,unE,convE,okNil,builtE,gv,TD.isAgg,resV,↓reduceIte,Nat.reduceEqDiff,reduceCtorEq,Nat.reduceAdd,Nat.reduceMul,Nat.reduceLeDiff,quietOp,blindOp,Int.reduceEq,Int.reduceLT,Int.reduceLE,Nat.reduceLT,ti2,ti3,ti4,ti41,ti42,ti62,ti22,ti45,ti37,ti47,ti39,ti74,ti138,ti101,ti103,ti108,ti24,ti28,ti96, Bool.not_false]
        rw [distB_bad (i := a) (by omega) (.inl (by rw [← hx]; omega)), Bool.and_false]
        exact ⟨rfl, up⟩
    · have ha : a = y.length := by omega
      subst ha
      have em : Int.tmod (y.length : Int) 4 = ((y.length % 4 : Nat) : Int) := rfl
      try simp (disch := first | omega | (simp only [ints_length, List.length_replicate, List.length_set]; done) | (simp only [ints_length, List.length_replicate, List.length_set]; omega)) only [Sall,evalOp,init,binE,binI,unE,convE,okNil,builtE,gv,TD.isAgg,resV,↓reduceIte,Nat.reduceEqDiff,reduceCtorEq,Nat.reduceAdd,Nat.reduceMul,Nat.reduceLeDiff,quietOp,blindOp,Int.reduceEq,Int.reduceLT,Int.reduceLE,Nat.reduceLT,ti2,ti3,ti4,ti41,ti42,ti62,ti22,ti45,ti37,ti47,ti39,ti74,ti138,ti101,ti103,ti108,ti24,ti28,ti96, h0, h1, builtE, hv'.len, em, w64]
      rw [distB_all hgood, Bool.and_true]
      refine ⟨?_, up⟩
      by_cases e : y.length % 4 = 0
      · rw [decide_eq_true e, e]; rfl
      · rw [decide_eq_false e, beq_eq_false_iff_ne]; omega

theorem IsEveningC_c (n : Nat) (u : Value) (y : Value) (l : List Int) (c0 : Nat) (H : AH) (h0 : H.row c0 = some ⟨28, true, [.int .i64 n, u]⟩) (hy : Rd 1 H y l.length l) (hl : l.length ≤ 4194304) :
    ACalls Try.prog 115 [y, .pointer (some ⟨c0, 0, none⟩)] H (is (.bool (!evRow n l)) H) := by
  refine acalls_of_awp [.tmp 3] Try.func115 (by kernel_rfl) rfl rfl (Nat.le_of_ble_eq_true rfl) (by kernel_rfl) ?_
  have em : Int.tmod (l.length : Int) 4 = ((l.length % 4 : Nat) : Int) := rfl
  unfold evRow
  by_cases h4 : l.length % 4 = 0
  · have e0 : (Int.tmod (l.length : Int) 4 != 0) = false := by rw [em, h4]; rfl
    rw [decide_eq_true h4]
    try simp (disch := first | omega | (simp only [ints_length, List.length_replicate, List.length_set]; done) | (simp only [ints_length, List.length_replicate, List.length_set]; omega)) only [Sall,evalOp,init,binE,binI,unE,convE,okNil,builtE,gv,TD.isAgg,resV,↓reduceIte,Nat.reduceEqDiff,reduceCtorEq,Nat.reduceAdd,Nat.reduceMul,Nat.reduceLeDiff,quietOp,blindOp,Int.reduceEq,Int.reduceLT,Int.reduceLE,Nat.reduceLT,ti2,ti3,ti4,ti41,ti42,ti62,ti22,ti45,ti37,ti47,ti39,ti74,ti138,ti101,ti103,ti108,ti24,ti28,ti96, builtE, hy.len, e0, h0, w64]
    refine (areDistinct_c n y l H hy hl).to ?_
    try simp (disch := first | omega | (simp only [ints_length, List.length_replicate, List.length_set]; done) | (simp only [ints_length, List.length_replicate, List.length_set]; omega)) only [Sall,evalOp,init,binE,binI,unE,convE,okNil,builtE,gv,TD.isAgg,resV,↓reduceIte,Nat.reduceEqDiff,reduceCtorEq,Nat.reduceAdd,Nat.reduceMul,Nat.reduceLeDiff,quietOp,blindOp,Int.reduceEq,Int.reduceLT,Int.reduceLE,Nat.reduceLT,ti2,ti3,ti4,ti41,ti42,ti62,ti22,ti45,ti37,ti47,ti39,ti74,ti138,ti101,ti103,ti108,ti24,ti28,ti96, is, Bool.true_and]
  · have e0 : (Int.tmod (l.length : Int) 4 != 0) = true := by rw [em, bne_iff_ne]; omega
    rw [decide_eq_false h4]
    try simp (disch := first | omega | (simp only [ints_length, List.length_replicate, List.length_set]; done) | (simp only [ints_length, List.length_replicate, List.length_set]; omega)) only [Sall,evalOp,init,binE,binI,unE,convE,okNil,builtE,gv,TD.isAgg,resV,↓reduceIte,Nat.reduceEqDiff,reduceCtorEq,Nat.reduceAdd,Nat.reduceMul,Nat.reduceLeDiff,quietOp,blindOp,Int.reduceEq,Int.reduceLT,Int.reduceLE,Nat.reduceLT,ti2,ti3,ti4,ti41,ti42,ti62,ti22,ti45,ti37,ti47,ti39,ti74,ti138,ti101,ti103,ti108,ti24,ti28,ti96, builtE, hy.len, e0, h0, w64, is, Bool.false_and, Bool.not_false]

theorem IsEvening_c (q : Int) (v : Value) (R : List (List Int)) (H : AH) (hv : Rd2 1 H v R) (hl : R.length ≤ 4194304) (hl2 : ∀ r ∈ R, r.length ≤ 4194304) :
    ACalls Try.prog 79 [.agg #[.int .i64 q, v]] H (is (.bool (evB q R)) H) := by
  refine acalls_up rfl (ACalls.wf (by kernel_rfl) fun hs => acalls_of_awp [.tmp 2] Try.func79 (by kernel_rfl) rfl rfl (Nat.le_of_ble_eq_true rfl) (by kernel_rfl) ?_)
  have hone := hv.one
  have up : Up H.next H (H.push ⟨28, true, [.int .i64 q, v]⟩) := (Up.refl _ H).push (Nat.le_refl _) _
  have e1 : (H.push ⟨28, true, [.int .i64 q, v]⟩).row H.next = some ⟨28, true, [.int .i64 q, v]⟩ := by rw [AH.push_row, if_pos rfl]
  try simp (disch := first | omega | (simp only [ints_length, List.length_replicate, List.length_set]; done) | (simp only [ints_length, List.length_replicate, List.length_set]; omega)) only [Sall,evalOp,init,binE,binI,unE,convE,okNil,builtE,gv,TD.isAgg,resV,↓reduceIte,Nat.reduceEqDiff,reduceCtorEq,Nat.reduceAdd,Nat.reduceMul,Nat.reduceLeDiff,quietOp,blindOp,Int.reduceEq,Int.reduceLT,Int.reduceLE,Nat.reduceLT,ti2,ti3,ti4,ti41,ti42,ti62,ti22,ti45,ti37,ti47,ti39,ti74,ti138,ti101,ti103,ti108,ti24,ti28,ti96, hone]
  revert up e1
  generalize H.push ⟨28, true, [.int .i64 q, v]⟩ = H1
  intro up e1
  have hv1 := hv.same (up.le hs).row
  try simp (disch := first | omega | (simp only [ints_length, List.length_replicate, List.length_set]; done) | (simp only [ints_length, List.length_replicate, List.length_set]; omega)) only [Sall,evalOp,init,binE,binI,unE,convE,okNil,builtE,gv,TD.isAgg,resV,↓reduceIte,Nat.reduceEqDiff,reduceCtorEq,Nat.reduceAdd,Nat.reduceMul,Nat.reduceLeDiff,quietOp,blindOp,Int.reduceEq,Int.reduceLT,Int.reduceLE,Nat.reduceLT,ti2,ti3,ti4,ti41,ti42,ti62,ti22,ti45,ti37,ti47,ti39,ti74,ti138,ti101,ti103,ti108,ti24,ti28,ti96, e1]
  refine (between_c _ _ _ _).to ?_
  unfold evB
  by_cases hq : 4 ≤ q ∧ q ≤ 16
  · obtain ⟨n, rfl⟩ : ∃ n : Nat, q = n := ⟨q.toNat, by omega⟩
    rw [decide_eq_true hq, Int.toNat_natCast]
    by_cases h20 : R.length ≤ 20
    · have k : (R.length : Int) ≤ 20 := by omega
      rw [decide_eq_true h20]
      try simp (disch := first | omega | (simp only [ints_length, List.length_replicate, List.length_set]; done) | (simp only [ints_length, List.length_replicate, List.length_set]; omega)) only [Sall,evalOp,init,binE,binI,unE,convE,okNil,builtE,gv,TD.isAgg,resV,↓reduceIte,Nat.reduceEqDiff,reduceCtorEq,Nat.reduceAdd,Nat.reduceMul,Nat.reduceLeDiff,quietOp,blindOp,Int.reduceEq,Int.reduceLT,Int.reduceLE,Nat.reduceLT,ti2,ti3,ti4,ti41,ti42,ti62,ti22,ti45,ti37,ti47,ti39,ti74,ti138,ti101,ti103,ti108,ti24,ti28,ti96, e1, builtE, hv1.len, k, decide_true, List.mem_cons, List.not_mem_nil, or_false, forall_eq_or_imp, forall_eq, Array.size_empty]
      refine (containsFuncLL_c 115 [.pointer (some ⟨H.next, 0, none⟩)] (fun l => !evRow n l) v R H1 hv1 (by omega) fun y r hr hy => IsEveningC_c n v y r H.next H1 e1 hy (hl2 r hr)).to ?_
      have hany : ((List.range R.length).any fun i => !evRow n (R.getD i [])) = !((List.range R.length).all fun i => evRow n (R.getD i [])) := by rw [List.not_all_eq_any_not]
      rw [hany]
      try simp (disch := first | omega | (simp only [ints_length, List.length_replicate, List.length_set]; done) | (simp only [ints_length, List.length_replicate, List.length_set]; omega)) only [Sall,evalOp,init,binE,binI,unE,convE,okNil,builtE,gv,TD.isAgg,resV,↓reduceIte,Nat.reduceEqDiff,reduceCtorEq,Nat.reduceAdd,Nat.reduceMul,Nat.reduceLeDiff,quietOp,blindOp,Int.reduceEq,Int.reduceLT,Int.reduceLE,Nat.reduceLT,ti2,ti3,ti4,ti41,ti42,ti62,ti22,ti45,ti37,ti47,ti39,ti74,ti138,ti101,ti103,ti108,ti24,ti28,ti96, Bool.not_not, Bool.true_and]
      first | exact up | exact ⟨rfl, up⟩
    · have k : ¬ (R.length : Int) ≤ 20 := by omega
      rw [decide_eq_false h20]
      try simp (disch := first | omega | (simp only [ints_length, List.length_replicate, List.length_set]; done) | (simp only [ints_length, List.length_replicate, List.length_set]; omega)) only [Sall,evalOp,init,binE,binI,unE,convE,okNil,builtE,gv,TD.isAgg,resV,↓reduceIte,Nat.reduceEqDiff,reduceCtorEq,Nat.reduceAdd,Nat.reduceMul,Nat.reduceLeDiff,quietOp,blindOp,Int.reduceEq,Int.reduceLT,Int.reduceLE,Nat.reduceLT,ti2,ti3,ti4,ti41,ti42,ti62,ti22,ti45,ti37,ti47,ti39,ti74,ti138,ti101,ti103,ti108,ti24,ti28,ti96, e1, builtE, hv1.len, k, decide_false, Bool.false_and, Bool.and_false]
      exact up
  · rw [decide_eq_false hq]
    try simp (disch := first | omega | (simp only [ints_length, List.length_replicate, List.length_set]; done) | (simp only [ints_length, List.length_replicate, List.length_set]; omega)) only [Sall,evalOp,init,binE,binI,unE,convE,okNil,builtE,gv,TD.isAgg,resV,↓reduceIte,Nat.reduceEqDiff,reduceCtorEq,Nat.reduceAdd,Nat.reduceMul,Nat.reduceLeDiff,quietOp,blindOp,Int.reduceEq,Int.reduceLT,Int.reduceLE,Nat.reduceLT,ti2,ti3,ti4,ti41,ti42,ti62,ti22,ti45,ti37,ti47,ti39,ti74,ti138,ti101,ti103,ti108,ti24,ti28,ti96, Bool.false_and]
    exact up

theorem l06Is_c (q : Int) (v : Value) (R : List (List Int)) (H : AH) (hv : Rd2 1 H v R) (hl : R.length ≤ 4194304) (hl2 : ∀ r ∈ R, r.length ≤ 4194304) :
    ACalls Try.prog 42 [.agg #[.int .i64 q, v]] H (is (.bool (evB q R)) H) := by
  refine acalls_up rfl (ACalls.wf (by kernel_rfl) fun hs => acalls_of_awp [.tmp 2] Try.func42 (by kernel_rfl) rfl rfl (Nat.le_of_ble_eq_true rfl) (by kernel_rfl) ?_)
  have hone := hv.one
  have up : Up H.next H (H.push ⟨28, true, [.int .i64 q, v]⟩) := (Up.refl _ H).push (Nat.le_refl _) _
  have e1 : (H.push ⟨28, true, [.int .i64 q, v]⟩).row H.next = some ⟨28, true, [.int .i64 q, v]⟩ := by rw [AH.push_row, if_pos rfl]
  try simp (disch := first | omega | (simp only [ints_length, List.length_replicate, List.length_set]; done) | (simp only [ints_length, List.length_replicate, List.length_set]; omega)) only [Sall,evalOp,init,binE,binI,unE,convE,okNil,builtE,gv,TD.isAgg,resV,↓reduceIte,Nat.reduceEqDiff,reduceCtorEq,Nat.reduceAdd,Nat.reduceMul,Nat.reduceLeDiff,quietOp,blindOp,Int.reduceEq,Int.reduceLT,Int.reduceLE,Nat.reduceLT,ti2,ti3,ti4,ti41,ti42,ti62,ti22,ti45,ti37,ti47,ti39,ti74,ti138,ti101,ti103,ti108,ti24,ti28,ti96, hone]
  revert up e1
  generalize H.push ⟨28, true, [.int .i64 q, v]⟩ = H1
  intro up e1
  have hv1 := hv.same (up.le hs).row
  have hvl := hv1.len
  try simp (disch := first | omega | (simp only [ints_length, List.length_replicate, List.length_set]; done) | (simp only [ints_length, List.length_replicate, List.length_set]; omega)) only [Sall,evalOp,init,binE,binI,unE,convE,okNil,builtE,gv,TD.isAgg,resV,↓reduceIte,Nat.reduceEqDiff,reduceCtorEq,Nat.reduceAdd,Nat.reduceMul,Nat.reduceLeDiff,quietOp,blindOp,Int.reduceEq,Int.reduceLT,Int.reduceLE,Nat.reduceLT,ti2,ti3,ti4,ti41,ti42,ti62,ti22,ti45,ti37,ti47,ti39,ti74,ti138,ti101,ti103,ti108,ti24,ti28,ti96, e1]
  refine (l01In_c _ _ _ _).to ?_
  unfold evB
  by_cases hq : 4 ≤ q ∧ q ≤ 16
  · obtain ⟨n, rfl⟩ : ∃ n : Nat, q = n := ⟨q.toNat, by omega⟩
    rw [decide_eq_true hq, Int.toNat_natCast]
    by_cases h20 : R.length ≤ 20
    · have k : ¬ (20 : Int) < (R.length : Int) := by omega
      rw [decide_eq_true h20]
      try simp (disch := first | omega | (simp only [ints_length, List.length_replicate, List.length_set]; done) | (simp only [ints_length, List.length_replicate, List.length_set]; omega)) only [Sall,evalOp,init,binE,binI,unE,convE,okNil,builtE,gv,TD.isAgg,resV,↓reduceIte,Nat.reduceEqDiff,reduceCtorEq,Nat.reduceAdd,Nat.reduceMul,Nat.reduceLeDiff,quietOp,blindOp,Int.reduceEq,Int.reduceLT,Int.reduceLE,Nat.reduceLT,ti2,ti3,ti4,ti41,ti42,ti62,ti22,ti45,ti37,ti47,ti39,ti74,ti138,ti101,ti103,ti108,ti24,ti28,ti96, e1, builtE, hvl, k, decide_false, Bool.not_true]
      refine awp_loop (fun m t H' => ∃ a : Nat, m = R.length - a ∧ a ≤ R.length ∧ t 3 = .int .i64 a ∧ t 1 = .pointer (some ⟨H.next, 0, none⟩) ∧ H' = H1 ∧ (∀ i, i < a → evRow n (R.getD i []) = true)) R.length ?_ ?_
      · refine ⟨0, by omega, by omega, ?_⟩
        try simp (disch := first | omega | (simp only [ints_length, List.length_replicate, List.length_set]; done) | (simp only [ints_length, List.length_replicate, List.length_set]; omega)) only [Sall,evalOp,init,binE,binI,unE,convE,okNil,builtE,gv,TD.isAgg,resV,↓reduceIte,Nat.reduceEqDiff,reduceCtorEq,Nat.reduceAdd,Nat.reduceMul,Nat.reduceLeDiff,quietOp,blindOp,Int.reduceEq,Int.reduceLT,Int.reduceLE,Nat.reduceLT,ti2,ti3,ti4,ti41,ti42,ti62,ti22,ti45,ti37,ti47,ti39,ti74,ti138,ti101,ti103,ti108,ti24,ti28,ti96, Int.natCast_zero, Nat.not_lt_zero, false_implies]
      · rintro m t H' ⟨a, hm, ha, h3, h1, rfl, hall⟩
        try simp (disch := first | omega | (simp only [ints_length, List.length_replicate, List.length_set]; done) | (simp only [ints_length, List.length_replicate, List.length_set]; omega)) only [Sall,evalOp,init,binE,binI,unE,convE,okNil,builtE,gv,TD.isAgg,resV,↓reduceIte,Nat.reduceEqDiff,reduceCtorEq,Nat.reduceAdd,Nat.reduceMul,Nat.reduceLeDiff,quietOp,blindOp,Int.reduceEq,Int.reduceLT,Int.reduceLE,Nat.reduceLT,ti2,ti3,ti4,ti41,ti42,ti62,ti22,ti45,ti37,ti47,ti39,ti74,ti138,ti101,ti103,ti108,ti24,ti28,ti96, h3, h1, e1, builtE, hvl]
        refine condC_dec (fun h => ?_) (fun h => ?_)
        · obtain ⟨xi, xo, xuu, xc, xr, y, my, ex, hxr, hy, hsx, hok⟩ := hv1.get (j := a) (by omega)
          have hmm := hsx.lenK1
          subst hmm
          have hll := hl2 (R.getD a []) (by rw [List.getD_eq_getElem?_getD, List.getElem?_eq_getElem (by omega)]; exact List.getElem_mem _)
          refine draw_id (by kernel_rfl) (by kernel_rfl) ?_
          try simp (disch := first | omega | (simp only [ints_length, List.length_replicate, List.length_set]; done) | (simp only [ints_length, List.length_replicate, List.length_set]; omega)) only [Sall,evalOp,init,binE,binI,unE,convE,okNil,builtE,gv,TD.isAgg,resV,↓reduceIte,Nat.reduceEqDiff,reduceCtorEq,Nat.reduceAdd,Nat.reduceMul,Nat.reduceLeDiff,quietOp,blindOp,Int.reduceEq,Int.reduceLT,Int.reduceLE,Nat.reduceLT,ti2,ti3,ti4,ti41,ti42,ti62,ti22,ti45,ti37,ti47,ti39,ti74,ti138,ti101,ti103,ti108,ti24,ti28,ti96, h3, h1, e1, ex, hxr, hy, hok]
          (repeat refine And.intro (by omega) ?_)
          refine (l06Round_c n (by omega) y _ H' hsx (by omega)).to ?_
          refine ⟨.inr (.inr (LE.refl _)), ?_⟩
          cases hr : evRow n (R.getD a []) with
          | true =>
            try simp (disch := first | omega | (simp only [ints_length, List.length_replicate, List.length_set]; done) | (simp only [ints_length, List.length_replicate, List.length_set]; omega)) only [Sall,evalOp,init,binE,binI,unE,convE,okNil,builtE,gv,TD.isAgg,resV,↓reduceIte,Nat.reduceEqDiff,reduceCtorEq,Nat.reduceAdd,Nat.reduceMul,Nat.reduceLeDiff,quietOp,blindOp,Int.reduceEq,Int.reduceLT,Int.reduceLE,Nat.reduceLT,ti2,ti3,ti4,ti41,ti42,ti62,ti22,ti45,ti37,ti47,ti39,ti74,ti138,ti101,ti103,ti108,ti24,ti28,ti96, Bool.not_true, h3, h1, w64]
            refine ⟨R.length - (a + 1), by omega, a + 1, rfl, by omega, by omega, fun i hi => ?_⟩
            by_cases e : i = a
            · rw [e]; exact hr
            · exact hall i (by omega)
          | false =>
            try simp (disch := first | omega | (simp only [ints_length, List.length_replicate, List.length_set]; done) | (simp only [ints_length, List.length_replicate, List.length_set]; omega)) only [Sall,evalOp,init,binE,binI,unE,convE,okNil,builtE,gv,TD.isAgg,resV,↓reduceIte,Nat.reduceEqDiff,reduceCtorEq,Nat.reduceAdd,Nat.reduceMul,Nat.reduceLeDiff,quietOp,blindOp,Int.reduceEq,Int.reduceLT,Int.reduceLE,Nat.reduceLT,ti2,ti3,ti4,ti41,ti42,ti62,ti22,ti45,ti37,ti47,ti39,ti74,ti138,ti101,ti103,ti108,ti24,ti28,ti96, Bool.not_false]
            rw [all_false_of (i := a) (by omega) hr]
            exact ⟨rfl, up⟩
        · try simp (disch := first | omega | (simp only [ints_length, List.length_replicate, List.length_set]; done) | (simp only [ints_length, List.length_replicate, List.length_set]; omega)) only [Sall,evalOp,init,binE,binI,unE,convE,okNil,builtE,gv,TD.isAgg,resV,↓reduceIte,Nat.reduceEqDiff,reduceCtorEq,Nat.reduceAdd,Nat.reduceMul,Nat.reduceLeDiff,quietOp,blindOp,Int.reduceEq,Int.reduceLT,Int.reduceLE,Nat.reduceLT,ti2,ti3,ti4,ti41,ti42,ti62,ti22,ti45,ti37,ti47,ti39,ti74,ti138,ti101,ti103,ti108,ti24,ti28,ti96, true_and]
          have ha2 : a = R.length := by omega
          subst ha2
          rw [all_true_of hall]
          exact ⟨rfl, up⟩
    · have k : (20 : Int) < (R.length : Int) := by omega
      rw [decide_eq_false h20]
      try simp (disch := first | omega | (simp only [ints_length, List.length_replicate, List.length_set]; done) | (simp only [ints_length, List.length_replicate, List.length_set]; omega)) only [Sall,evalOp,init,binE,binI,unE,convE,okNil,builtE,gv,TD.isAgg,resV,↓reduceIte,Nat.reduceEqDiff,reduceCtorEq,Nat.reduceAdd,Nat.reduceMul,Nat.reduceLeDiff,quietOp,blindOp,Int.reduceEq,Int.reduceLT,Int.reduceLE,Nat.reduceLT,ti2,ti3,ti4,ti41,ti42,ti62,ti22,ti45,ti37,ti47,ti39,ti74,ti138,ti101,ti103,ti108,ti24,ti28,ti96, e1, builtE, hvl, k, decide_true, Bool.not_true, Bool.false_and, Bool.and_false]
      exact up
  · rw [decide_eq_false hq]
    try simp (disch := first | omega | (simp only [ints_length, List.length_replicate, List.length_set]; done) | (simp only [ints_length, List.length_replicate, List.length_set]; omega)) only [Sall,evalOp,init,binE,binI,unE,convE,okNil,builtE,gv,TD.isAgg,resV,↓reduceIte,Nat.reduceEqDiff,reduceCtorEq,Nat.reduceAdd,Nat.reduceMul,Nat.reduceLeDiff,quietOp,blindOp,Int.reduceEq,Int.reduceLT,Int.reduceLE,Nat.reduceLT,ti2,ti3,ti4,ti41,ti42,ti62,ti22,ti45,ti37,ti47,ti39,ti74,ti138,ti101,ti103,ti108,ti24,ti28,ti96, Bool.not_false, Bool.false_and]
    exact up

theorem eveningCode_c (q : Int) (v : Value) (R : List (List Int)) (b : Bool) (H : AH) (hv : Rd2 1 H v R) (hl : R.length ≤ 4194304) (hl2 : ∀ r ∈ R, r.length ≤ 4194304) :
    ACalls Try.prog 44 [.agg #[.int .i64 q, v], .bool b] H (is (.int .i64 (if evB q R = true then (if b = true then 0 else 2) else 1)) H) := by
  refine acalls_up rfl (ACalls.wf (by kernel_rfl) fun hs => acalls_of_awp [.tmp 4] Try.func44 (by kernel_rfl) rfl rfl (Nat.le_of_ble_eq_true rfl) (by kernel_rfl) ?_)
  have hone := hv.one
  have up : Up H.next H (H.push ⟨28, true, [.int .i64 q, v]⟩) := (Up.refl _ H).push (Nat.le_refl _) _
  try simp (disch := first | omega | (simp only [ints_length, List.length_replicate, List.length_set]; done) | (simp only [ints_length, List.length_replicate, List.length_set]; omega)) only [Sall,evalOp,init,binE,binI,unE,convE,okNil,builtE,gv,TD.isAgg,resV,↓reduceIte,Nat.reduceEqDiff,reduceCtorEq,Nat.reduceAdd,Nat.reduceMul,Nat.reduceLeDiff,quietOp,blindOp,Int.reduceEq,Int.reduceLT,Int.reduceLE,Nat.reduceLT,ti2,ti3,ti4,ti41,ti42,ti62,ti22,ti45,ti37,ti47,ti39,ti74,ti138,ti101,ti103,ti108,ti24,ti28,ti96, hone]
  refine (IsEvening_c q v R _ (hv.same (up.le hs).row) hl hl2).to ?_
  obtain hE | hE : evB q R = true ∨ evB q R = false := by cases evB q R <;> simp
  · rw [hE, if_pos rfl]
    obtain hb | hb : b = true ∨ b = false := by cases b <;> simp
    · rw [hb, if_pos rfl]
      try simp (disch := first | omega | (simp only [ints_length, List.length_replicate, List.length_set]; done) | (simp only [ints_length, List.length_replicate, List.length_set]; omega)) only [Sall,evalOp,init,binE,binI,unE,convE,okNil,builtE,gv,TD.isAgg,resV,↓reduceIte,Nat.reduceEqDiff,reduceCtorEq,Nat.reduceAdd,Nat.reduceMul,Nat.reduceLeDiff,quietOp,blindOp,Int.reduceEq,Int.reduceLT,Int.reduceLE,Nat.reduceLT,ti2,ti3,ti4,ti41,ti42,ti62,ti22,ti45,ti37,ti47,ti39,ti74,ti138,ti101,ti103,ti108,ti24,ti28,ti96, Bool.not_true]
      exact up
    · rw [hb, if_neg (by simp)]
      try simp (disch := first | omega | (simp only [ints_length, List.length_replicate, List.length_set]; done) | (simp only [ints_length, List.length_replicate, List.length_set]; omega)) only [Sall,evalOp,init,binE,binI,unE,convE,okNil,builtE,gv,TD.isAgg,resV,↓reduceIte,Nat.reduceEqDiff,reduceCtorEq,Nat.reduceAdd,Nat.reduceMul,Nat.reduceLeDiff,quietOp,blindOp,Int.reduceEq,Int.reduceLT,Int.reduceLE,Nat.reduceLT,ti2,ti3,ti4,ti41,ti42,ti62,ti22,ti45,ti37,ti47,ti39,ti74,ti138,ti101,ti103,ti108,ti24,ti28,ti96, Bool.not_true, Bool.not_false]
      exact up
  · rw [hE, if_neg (by simp)]
    try simp (disch := first | omega | (simp only [ints_length, List.length_replicate, List.length_set]; done) | (simp only [ints_length, List.length_replicate, List.length_set]; omega)) only [Sall,evalOp,init,binE,binI,unE,convE,okNil,builtE,gv,TD.isAgg,resV,↓reduceIte,Nat.reduceEqDiff,reduceCtorEq,Nat.reduceAdd,Nat.reduceMul,Nat.reduceLeDiff,quietOp,blindOp,Int.reduceEq,Int.reduceLT,Int.reduceLE,Nat.reduceLT,ti2,ti3,ti4,ti41,ti42,ti62,ti22,ti45,ti37,ti47,ti39,ti74,ti138,ti101,ti103,ti108,ti24,ti28,ti96, Bool.not_false]
    exact up
end Go.Proofs.Ytnpmidgikbbnbaa.A
end

section
set_option linter.unusedSimpArgs false
set_option linter.unusedVariables false
set_option maxRecDepth 100000
set_option maxHeartbeats 2000000
namespace Go.Proofs.Ytnpmidgikbbnbaa.A
open Go Go.Abs Go.RowKit

theorem opponents1_c (n : Nat) (hn : 1 ≤ n ∧ n ≤ 16) (u : Value) (R : List (List Int)) (H : AH) (hu : Rd2 1 H u R) (hR : EvOk n R) :
    ACalls Try.prog 50 [.agg #[.int .i64 n, u], .int .i64 1] H (fun r H' => Up H.next H H' ∧ Fr2 1 62 2 H.next H'.next H' r (tabM n w1L R)) := by
  have hone := hu.one
  have zz : zeros 4 [.int .i64 0, .int .i64 0] = [.int .i64 0, .int .i64 0, .int .i64 0, .int .i64 0, .int .i64 0, .int .i64 0, .int .i64 0, .int .i64 0] := rfl
  have sp0 : splice ([.int .i64 0, .int .i64 0, .int .i64 0, .int .i64 0, .int .i64 0, .int .i64 0, .int .i64 0, .int .i64 0] : List Value) 0 [.int .i64 0, .int .i64 2] = [.int .i64 0, .int .i64 2, .int .i64 0, .int .i64 0, .int .i64 0, .int .i64 0, .int .i64 0, .int .i64 0] := rfl
  have sp1 : splice ([.int .i64 0, .int .i64 2, .int .i64 0, .int .i64 0, .int .i64 0, .int .i64 0, .int .i64 0, .int .i64 0] : List Value) 2 [.int .i64 1, .int .i64 3] = [.int .i64 0, .int .i64 2, .int .i64 1, .int .i64 3, .int .i64 0, .int .i64 0, .int .i64 0, .int .i64 0] := rfl
  have sp2 : splice ([.int .i64 0, .int .i64 2, .int .i64 1, .int .i64 3, .int .i64 0, .int .i64 0, .int .i64 0, .int .i64 0] : List Value) 4 [.int .i64 0, .int .i64 3] = [.int .i64 0, .int .i64 2, .int .i64 1, .int .i64 3, .int .i64 0, .int .i64 3, .int .i64 0, .int .i64 0] := rfl
  have sp3 : splice ([.int .i64 0, .int .i64 2, .int .i64 1, .int .i64 3, .int .i64 0, .int .i64 3, .int .i64 0, .int .i64 0] : List Value) 6 [.int .i64 1, .int .i64 2] = [.int .i64 0, .int .i64 2, .int .i64 1, .int .i64 3, .int .i64 0, .int .i64 3, .int .i64 1, .int .i64 2] := rfl
  refine ACalls.wf (by kernel_rfl) fun hs => acalls_of_awp [.tmp 4] Try.func50 (by kernel_rfl) rfl rfl (Nat.le_of_ble_eq_true rfl) (by kernel_rfl) ?_
  have e1 : ((1 : Int) == 1) = true := rfl
  try simp (disch := first | omega | (simp only [ints_length, List.length_replicate, List.length_set]; done) | (simp only [ints_length, List.length_replicate, List.length_set]; omega)) only [Sall,evalOp,init,binE,binI,unE,convE,okNil,builtE,gv,TD.isAgg,resV,↓reduceIte,Nat.reduceEqDiff,reduceCtorEq,Nat.reduceAdd,Nat.reduceMul,Nat.reduceLeDiff,quietOp,blindOp,Int.reduceEq,Int.reduceLT,Int.reduceLE,Nat.reduceLT,ti2,ti3,ti4,ti41,ti42,ti62,ti22,ti45,ti37,ti47,ti39,ti74,ti138,ti101,ti103,ti108,ti24,ti28,ti96, hone, slCells, zz, sp0, sp1, sp2, sp3, e1, sliceE, Option.getD_none, Option.getD_some, Option.isSome_none, Option.isSome_some]
  obtain ⟨H2, e2⟩ : ∃ H2, H2 = (H.push ⟨28, true, [.int .i64 n, u]⟩).push ⟨103, true, [.int .i64 0, .int .i64 2, .int .i64 1, .int .i64 3, .int .i64 0, .int .i64 3, .int .i64 1, .int .i64 2]⟩ := ⟨_, rfl⟩
  have up2 : Up H.next H H2 := by rw [e2]; exact ((Up.refl _ H).push (Nat.le_refl _) _).push (by simp only [AH.push_next]; omega) _
  have r2 : H2.row (H.next + 1) = some ⟨103, true, [.int .i64 0, .int .i64 2, .int .i64 1, .int .i64 3, .int .i64 0, .int .i64 3, .int .i64 1, .int .i64 2]⟩ := by rw [e2, AH.push_row, AH.push_next, if_pos rfl]
  have n2 : H2.next = H.next + 2 := by rw [e2]; rfl
  rw [← e2]
  clear e2
  refine ⟨by decide, ?_⟩
  refine (together_c n hn u R (.slice (some ⟨H.next + 1, 0, some 2⟩) 2 2) w1L H2 (hu.same (up2.le hs).row) ⟨rfl, .inr ⟨H.next + 1, 0, _, _, _, rfl, r2, by decide, rfl⟩⟩ (by decide) (by decide) hR.1 hR.2).mono ?_
  rintro r H3 ⟨up3, f3⟩
  have n3 := up3.next
  have ho := f3.rd.one
  refine Holds.mp ?_
  try simp (disch := first | omega | (simp only [ints_length, List.length_replicate, List.length_set]; done) | (simp only [ints_length, List.length_replicate, List.length_set]; omega)) only [Sall,evalOp,init,binE,binI,unE,convE,okNil,builtE,gv,TD.isAgg,resV,↓reduceIte,Nat.reduceEqDiff,reduceCtorEq,Nat.reduceAdd,Nat.reduceMul,Nat.reduceLeDiff,quietOp,blindOp,Int.reduceEq,Int.reduceLT,Int.reduceLE,Nat.reduceLT,ti2,ti3,ti4,ti41,ti42,ti62,ti22,ti45,ti37,ti47,ti39,ti74,ti138,ti101,ti103,ti108,ti24,ti28,ti96, ho]
  exact ⟨up2.trans up3 (by omega), f3.wide (by omega) (Nat.le_refl _)⟩


theorem PartnersOf_c (q : Int) (v : Value) (R : List (List Int)) (H : AH) (hv : Rd2 1 H v R) (hl : R.length ≤ 4194304) (hl2 : ∀ r ∈ R, r.length ≤ 4194304) :
    ACalls Try.prog 12 [.agg #[.int .i64 q, v]] H (fun r H' => ∃ u, r = .tuple #[u, .int .i64 (evC q R)] ∧ Up H.next H H' ∧ Fr2 1 62 2 H.next H'.next H' u (poL q R)) := by
  refine ACalls.wf (by kernel_rfl) fun hs => acalls_of_awp [.tmp 2, .tmp 3] Try.func12 (by kernel_rfl) rfl rfl (Nat.le_of_ble_eq_true rfl) (by kernel_rfl) ?_
  have hone := hv.one
  have up : Up H.next H (H.push ⟨28, true, [.int .i64 q, v]⟩) := (Up.refl _ H).push (Nat.le_refl _) _
  have e1 : (H.push ⟨28, true, [.int .i64 q, v]⟩).row H.next = some ⟨28, true, [.int .i64 q, v]⟩ := by rw [AH.push_row, if_pos rfl]
  have n1 : (H.push ⟨28, true, [.int .i64 q, v]⟩).next = H.next + 1 := rfl
  try simp (disch := first | omega | (simp only [ints_length, List.length_replicate, List.length_set]; done) | (simp only [ints_length, List.length_replicate, List.length_set]; omega)) only [Sall,evalOp,init,binE,binI,unE,convE,okNil,builtE,gv,TD.isAgg,resV,↓reduceIte,Nat.reduceEqDiff,reduceCtorEq,Nat.reduceAdd,Nat.reduceMul,Nat.reduceLeDiff,quietOp,blindOp,Int.reduceEq,Int.reduceLT,Int.reduceLE,Nat.reduceLT,ti2,ti3,ti4,ti41,ti42,ti62,ti22,ti45,ti37,ti47,ti39,ti74,ti138,ti101,ti103,ti108,ti24,ti28,ti96, hone]
  revert up e1 n1
  generalize H.push ⟨28, true, [.int .i64 q, v]⟩ = H1
  intro up e1 n1
  have hv1 := hv.same (up.le hs).row
  try simp (disch := first | omega | (simp only [ints_length, List.length_replicate, List.length_set]; done) | (simp only [ints_length, List.length_replicate, List.length_set]; omega)) only [Sall,evalOp,init,binE,binI,unE,convE,okNil,builtE,gv,TD.isAgg,resV,↓reduceIte,Nat.reduceEqDiff,reduceCtorEq,Nat.reduceAdd,Nat.reduceMul,Nat.reduceLeDiff,quietOp,blindOp,Int.reduceEq,Int.reduceLT,Int.reduceLE,Nat.reduceLT,ti2,ti3,ti4,ti41,ti42,ti62,ti22,ti45,ti37,ti47,ti39,ti74,ti138,ti101,ti103,ti108,ti24,ti28,ti96, e1]
  refine (eveningCode_c q v R true H1 hv1 hl hl2).to ?_
  unfold evC poL
  obtain hE | hE : evB q R = true ∨ evB q R = false := by cases evB q R <;> simp
  · rw [hE]
    have hE2 := hE
    obtain ⟨n, rfl, h4, h16, h20, hall⟩ := evB_at hE2
    have hEv : EvOk n R := ⟨h20, fun i hi => ⟨(hall i hi).2.1, (hall i hi).2.2.1⟩⟩
    have hR4 : ∀ i, i < R.length → (R.getD i []).length % 4 = 0 := fun i hi => (hall i hi).1
    rw [Int.toNat_natCast]
    try simp (disch := first | omega | (simp only [ints_length, List.length_replicate, List.length_set]; done) | (simp only [ints_length, List.length_replicate, List.length_set]; omega)) only [Sall,evalOp,init,binE,binI,unE,convE,okNil,builtE,gv,TD.isAgg,resV,↓reduceIte,Nat.reduceEqDiff,reduceCtorEq,Nat.reduceAdd,Nat.reduceMul,Nat.reduceLeDiff,quietOp,blindOp,Int.reduceEq,Int.reduceLT,Int.reduceLE,Nat.reduceLT,ti2,ti3,ti4,ti41,ti42,ti62,ti22,ti45,ti37,ti47,ti39,ti74,ti138,ti101,ti103,ti108,ti24,ti28,ti96, if_true, e1, bne_self_eq_false]
    refine (partners_c n (by omega) v R H1 hv1 hEv).mono ?_
    rintro u H2 ⟨up2, f2⟩
    have ho := f2.rd.one
    have n2 := up2.next
    refine Holds.mp ?_
    try simp (disch := first | omega | (simp only [ints_length, List.length_replicate, List.length_set]; done) | (simp only [ints_length, List.length_replicate, List.length_set]; omega)) only [Sall,evalOp,init,binE,binI,unE,convE,okNil,builtE,gv,TD.isAgg,resV,↓reduceIte,Nat.reduceEqDiff,reduceCtorEq,Nat.reduceAdd,Nat.reduceMul,Nat.reduceLeDiff,quietOp,blindOp,Int.reduceEq,Int.reduceLT,Int.reduceLE,Nat.reduceLT,ti2,ti3,ti4,ti41,ti42,ti62,ti22,ti45,ti37,ti47,ti39,ti74,ti138,ti101,ti103,ti108,ti24,ti28,ti96, ho]
    exact ⟨u, rfl, up.trans up2 (by omega), f2.wide (by omega) (Nat.le_refl _)⟩
  · rw [hE]
    have e2 : ((1 : Int) != 0) = true := rfl
    try simp (disch := first | omega | (simp only [ints_length, List.length_replicate, List.length_set]; done) | (simp only [ints_length, List.length_replicate, List.length_set]; omega)) only [Sall,evalOp,init,binE,binI,unE,convE,okNil,builtE,gv,TD.isAgg,resV,↓reduceIte,Nat.reduceEqDiff,reduceCtorEq,Nat.reduceAdd,Nat.reduceMul,Nat.reduceLeDiff,quietOp,blindOp,Int.reduceEq,Int.reduceLT,Int.reduceLE,Nat.reduceLT,ti2,ti3,ti4,ti41,ti42,ti62,ti22,ti45,ti37,ti47,ti39,ti74,ti138,ti101,ti103,ti108,ti24,ti28,ti96, e2]
    exact ⟨_, rfl, up, .inl ⟨rfl, rfl⟩⟩

theorem specPartnersOf_c (q : Int) (v : Value) (R : List (List Int)) (H : AH) (hv : Rd2 1 H v R) (hl : R.length ≤ 4194304) (hl2 : ∀ r ∈ R, r.length ≤ 4194304) :
    ACalls Try.prog 10 [.agg #[.int .i64 q, v]] H (fun r H' => ∃ u, r = .tuple #[u, .int .i64 (evC q R)] ∧ Up H.next H H' ∧ Fr2 1 62 2 H.next H'.next H' u (poL q R)) := by
  refine ACalls.wf (by kernel_rfl) fun hs => acalls_of_awp [.tmp 2, .tmp 3] Try.func10 (by kernel_rfl) rfl rfl (Nat.le_of_ble_eq_true rfl) (by kernel_rfl) ?_
  have hone := hv.one
  have up : Up H.next H (H.push ⟨28, true, [.int .i64 q, v]⟩) := (Up.refl _ H).push (Nat.le_refl _) _
  have e1 : (H.push ⟨28, true, [.int .i64 q, v]⟩).row H.next = some ⟨28, true, [.int .i64 q, v]⟩ := by rw [AH.push_row, if_pos rfl]
  have n1 : (H.push ⟨28, true, [.int .i64 q, v]⟩).next = H.next + 1 := rfl
  try simp (disch := first | omega | (simp only [ints_length, List.length_replicate, List.length_set]; done) | (simp only [ints_length, List.length_replicate, List.length_set]; omega)) only [Sall,evalOp,init,binE,binI,unE,convE,okNil,builtE,gv,TD.isAgg,resV,↓reduceIte,Nat.reduceEqDiff,reduceCtorEq,Nat.reduceAdd,Nat.reduceMul,Nat.reduceLeDiff,quietOp,blindOp,Int.reduceEq,Int.reduceLT,Int.reduceLE,Nat.reduceLT,ti2,ti3,ti4,ti41,ti42,ti62,ti22,ti45,ti37,ti47,ti39,ti74,ti138,ti101,ti103,ti108,ti24,ti28,ti96, hone]
  revert up e1 n1
  generalize H.push ⟨28, true, [.int .i64 q, v]⟩ = H1
  intro up e1 n1
  have hv1 := hv.same (up.le hs).row
  try simp (disch := first | omega | (simp only [ints_length, List.length_replicate, List.length_set]; done) | (simp only [ints_length, List.length_replicate, List.length_set]; omega)) only [Sall,evalOp,init,binE,binI,unE,convE,okNil,builtE,gv,TD.isAgg,resV,↓reduceIte,Nat.reduceEqDiff,reduceCtorEq,Nat.reduceAdd,Nat.reduceMul,Nat.reduceLeDiff,quietOp,blindOp,Int.reduceEq,Int.reduceLT,Int.reduceLE,Nat.reduceLT,ti2,ti3,ti4,ti41,ti42,ti62,ti22,ti45,ti37,ti47,ti39,ti74,ti138,ti101,ti103,ti108,ti24,ti28,ti96, e1]
  refine (l06Is_c q v R H1 hv1 hl hl2).to ?_
  unfold evC poL
  obtain hE | hE : evB q R = true ∨ evB q R = false := by cases evB q R <;> simp
  · rw [hE]
    have hE2 := hE
    obtain ⟨n, rfl, h4, h16, h20, hall⟩ := evB_at hE2
    have hEv : EvOk n R := ⟨h20, fun i hi => ⟨(hall i hi).2.1, (hall i hi).2.2.1⟩⟩
    have hR4 : ∀ i, i < R.length → (R.getD i []).length % 4 = 0 := fun i hi => (hall i hi).1
    rw [Int.toNat_natCast]
    have z1 : zeros 1 [.int .i64 0] = [.int .i64 0] := rfl
    try simp (disch := first | omega | (simp only [ints_length, List.length_replicate, List.length_set]; done) | (simp only [ints_length, List.length_replicate, List.length_set]; omega)) only [Sall,evalOp,init,binE,binI,unE,convE,okNil,builtE,gv,TD.isAgg,resV,↓reduceIte,Nat.reduceEqDiff,reduceCtorEq,Nat.reduceAdd,Nat.reduceMul,Nat.reduceLeDiff,quietOp,blindOp,Int.reduceEq,Int.reduceLT,Int.reduceLE,Nat.reduceLT,ti2,ti3,ti4,ti41,ti42,ti62,ti22,ti45,ti37,ti47,ti39,ti74,ti138,ti101,ti103,ti108,ti24,ti28,ti96, Bool.not_true, e1, z1, slCells]
    obtain ⟨H3, e3⟩ : ∃ H3, H3 = H1.push ⟨3, true, [.int .i64 1]⟩ := ⟨_, rfl⟩
    have up3 : Up H1.next H1 H3 := by rw [e3]; exact (Up.refl _ _).push (Nat.le_refl _) _
    have r3 : H3.row H1.next = some ⟨3, true, [.int .i64 1]⟩ := by rw [e3, AH.push_row, if_pos rfl]
    have n3 : H3.next = H1.next + 1 := by rw [e3]; rfl
    rw [← e3]
    clear e3
    have U3 : Up H.next H H3 := up.trans up3 (by omega)
    refine (l06Table_c n (by omega) v R (.slice (some ⟨H1.next, 0, some 1⟩) 1 1) [1] wP way1 H3 (hv.same (U3.le hs).row) ⟨rfl, .inr ⟨H1.next, 0, _, _, _, rfl, r3, Nat.le_refl _, rfl⟩⟩ (by decide) (by decide) hEv hR4).mono ?_
    rintro u H4 ⟨up4, f4⟩
    have ho := f4.rd.one
    have n4 := up4.next
    refine Holds.mp ?_
    try simp (disch := first | omega | (simp only [ints_length, List.length_replicate, List.length_set]; done) | (simp only [ints_length, List.length_replicate, List.length_set]; omega)) only [Sall,evalOp,init,binE,binI,unE,convE,okNil,builtE,gv,TD.isAgg,resV,↓reduceIte,Nat.reduceEqDiff,reduceCtorEq,Nat.reduceAdd,Nat.reduceMul,Nat.reduceLeDiff,quietOp,blindOp,Int.reduceEq,Int.reduceLT,Int.reduceLE,Nat.reduceLT,ti2,ti3,ti4,ti41,ti42,ti62,ti22,ti45,ti37,ti47,ti39,ti74,ti138,ti101,ti103,ti108,ti24,ti28,ti96, ho]
    exact ⟨u, rfl, U3.trans up4 (by omega), f4.wide (by omega) (Nat.le_refl _)⟩
  · rw [hE]
    try simp (disch := first | omega | (simp only [ints_length, List.length_replicate, List.length_set]; done) | (simp only [ints_length, List.length_replicate, List.length_set]; omega)) only [Sall,evalOp,init,binE,binI,unE,convE,okNil,builtE,gv,TD.isAgg,resV,↓reduceIte,Nat.reduceEqDiff,reduceCtorEq,Nat.reduceAdd,Nat.reduceMul,Nat.reduceLeDiff,quietOp,blindOp,Int.reduceEq,Int.reduceLT,Int.reduceLE,Nat.reduceLT,ti2,ti3,ti4,ti41,ti42,ti62,ti22,ti45,ti37,ti47,ti39,ti74,ti138,ti101,ti103,ti108,ti24,ti28,ti96, Bool.not_false]
    exact ⟨_, rfl, up, .inl ⟨rfl, rfl⟩⟩

theorem IsWhist_c (q : Int) (v : Value) (R : List (List Int)) (H : AH) (hv : Rd2 1 H v R) (hl : R.length ≤ 4194304) (hl2 : ∀ r ∈ R, r.length ≤ 4194304) :
    ACalls Try.prog 21 [.agg #[.int .i64 q, v]] H (is (.tuple #[.bool (whB q R), .int .i64 (evC q R)]) H) := by
  refine acalls_up (by simp [flat, Abs.scal]) (ACalls.wf (by kernel_rfl) fun hs => acalls_of_awp [.tmp 2, .tmp 3] Try.func21 (by kernel_rfl) rfl rfl (Nat.le_of_ble_eq_true rfl) (by kernel_rfl) ?_)
  have hone := hv.one
  have up : Up H.next H (H.push ⟨28, true, [.int .i64 q, v]⟩) := (Up.refl _ H).push (Nat.le_refl _) _
  have e1 : (H.push ⟨28, true, [.int .i64 q, v]⟩).row H.next = some ⟨28, true, [.int .i64 q, v]⟩ := by rw [AH.push_row, if_pos rfl]
  have n1 : (H.push ⟨28, true, [.int .i64 q, v]⟩).next = H.next + 1 := rfl
  try simp (disch := first | omega | (simp only [ints_length, List.length_replicate, List.length_set]; done) | (simp only [ints_length, List.length_replicate, List.length_set]; omega)) only [Sall,evalOp,init,binE,binI,unE,convE,okNil,builtE,gv,TD.isAgg,resV,↓reduceIte,Nat.reduceEqDiff,reduceCtorEq,Nat.reduceAdd,Nat.reduceMul,Nat.reduceLeDiff,quietOp,blindOp,Int.reduceEq,Int.reduceLT,Int.reduceLE,Nat.reduceLT,ti2,ti3,ti4,ti41,ti42,ti62,ti22,ti45,ti37,ti47,ti39,ti74,ti138,ti101,ti103,ti108,ti24,ti28,ti96, hone]
  revert up e1 n1
  generalize H.push ⟨28, true, [.int .i64 q, v]⟩ = H1
  intro up e1 n1
  have hv1 := hv.same (up.le hs).row
  try simp (disch := first | omega | (simp only [ints_length, List.length_replicate, List.length_set]; done) | (simp only [ints_length, List.length_replicate, List.length_set]; omega)) only [Sall,evalOp,init,binE,binI,unE,convE,okNil,builtE,gv,TD.isAgg,resV,↓reduceIte,Nat.reduceEqDiff,reduceCtorEq,Nat.reduceAdd,Nat.reduceMul,Nat.reduceLeDiff,quietOp,blindOp,Int.reduceEq,Int.reduceLT,Int.reduceLE,Nat.reduceLT,ti2,ti3,ti4,ti41,ti42,ti62,ti22,ti45,ti37,ti47,ti39,ti74,ti138,ti101,ti103,ti108,ti24,ti28,ti96, e1]
  refine (eveningCode_c q v R true H1 hv1 hl hl2).to ?_
  unfold evC whB
  obtain hE | hE : evB q R = true ∨ evB q R = false := by cases evB q R <;> simp
  · rw [hE]
    have hE2 := hE
    obtain ⟨n, rfl, h4, h16, h20, hall⟩ := evB_at hE2
    have hEv : EvOk n R := ⟨h20, fun i hi => ⟨(hall i hi).2.1, (hall i hi).2.2.1⟩⟩
    have hR4 : ∀ i, i < R.length → (R.getD i []).length % 4 = 0 := fun i hi => (hall i hi).1
    rw [Int.toNat_natCast]
    try simp (disch := first | omega | (simp only [ints_length, List.length_replicate, List.length_set]; done) | (simp only [ints_length, List.length_replicate, List.length_set]; omega)) only [Sall,evalOp,init,binE,binI,unE,convE,okNil,builtE,gv,TD.isAgg,resV,↓reduceIte,Nat.reduceEqDiff,reduceCtorEq,Nat.reduceAdd,Nat.reduceMul,Nat.reduceLeDiff,quietOp,blindOp,Int.reduceEq,Int.reduceLT,Int.reduceLE,Nat.reduceLT,ti2,ti3,ti4,ti41,ti42,ti62,ti22,ti45,ti37,ti47,ti39,ti74,ti138,ti101,ti103,ti108,ti24,ti28,ti96, if_true, e1, bne_self_eq_false]
    refine (isWhist_c n (by omega) v R H1 hv1 hEv).to ?_
    try simp (disch := first | omega | (simp only [ints_length, List.length_replicate, List.length_set]; done) | (simp only [ints_length, List.length_replicate, List.length_set]; omega)) only [Sall,evalOp,init,binE,binI,unE,convE,okNil,builtE,gv,TD.isAgg,resV,↓reduceIte,Nat.reduceEqDiff,reduceCtorEq,Nat.reduceAdd,Nat.reduceMul,Nat.reduceLeDiff,quietOp,blindOp,Int.reduceEq,Int.reduceLT,Int.reduceLE,Nat.reduceLT,ti2,ti3,ti4,ti41,ti42,ti62,ti22,ti45,ti37,ti47,ti39,ti74,ti138,ti101,ti103,ti108,ti24,ti28,ti96, Bool.true_and]
    exact up
  · rw [hE]
    have e2 : ((1 : Int) != 0) = true := rfl
    try simp (disch := first | omega | (simp only [ints_length, List.length_replicate, List.length_set]; done) | (simp only [ints_length, List.length_replicate, List.length_set]; omega)) only [Sall,evalOp,init,binE,binI,unE,convE,okNil,builtE,gv,TD.isAgg,resV,↓reduceIte,Nat.reduceEqDiff,reduceCtorEq,Nat.reduceAdd,Nat.reduceMul,Nat.reduceLeDiff,quietOp,blindOp,Int.reduceEq,Int.reduceLT,Int.reduceLE,Nat.reduceLT,ti2,ti3,ti4,ti41,ti42,ti62,ti22,ti45,ti37,ti47,ti39,ti74,ti138,ti101,ti103,ti108,ti24,ti28,ti96, e2, Bool.false_and]
    exact up

theorem specIsWhist_c (q : Int) (v : Value) (R : List (List Int)) (H : AH) (hv : Rd2 1 H v R) (hl : R.length ≤ 4194304) (hl2 : ∀ r ∈ R, r.length ≤ 4194304) :
    ACalls Try.prog 20 [.agg #[.int .i64 q, v]] H (is (.tuple #[.bool (whB q R), .int .i64 (evC q R)]) H) := by
  refine acalls_up (by simp [flat, Abs.scal]) (ACalls.wf (by kernel_rfl) fun hs => acalls_of_awp [.tmp 2, .tmp 3] Try.func20 (by kernel_rfl) rfl rfl (Nat.le_of_ble_eq_true rfl) (by kernel_rfl) ?_)
  have hone := hv.one
  have up : Up H.next H (H.push ⟨28, true, [.int .i64 q, v]⟩) := (Up.refl _ H).push (Nat.le_refl _) _
  have e1 : (H.push ⟨28, true, [.int .i64 q, v]⟩).row H.next = some ⟨28, true, [.int .i64 q, v]⟩ := by rw [AH.push_row, if_pos rfl]
  have n1 : (H.push ⟨28, true, [.int .i64 q, v]⟩).next = H.next + 1 := rfl
  try simp (disch := first | omega | (simp only [ints_length, List.length_replicate, List.length_set]; done) | (simp only [ints_length, List.length_replicate, List.length_set]; omega)) only [Sall,evalOp,init,binE,binI,unE,convE,okNil,builtE,gv,TD.isAgg,resV,↓reduceIte,Nat.reduceEqDiff,reduceCtorEq,Nat.reduceAdd,Nat.reduceMul,Nat.reduceLeDiff,quietOp,blindOp,Int.reduceEq,Int.reduceLT,Int.reduceLE,Nat.reduceLT,ti2,ti3,ti4,ti41,ti42,ti62,ti22,ti45,ti37,ti47,ti39,ti74,ti138,ti101,ti103,ti108,ti24,ti28,ti96, hone]
  revert up e1 n1
  generalize H.push ⟨28, true, [.int .i64 q, v]⟩ = H1
  intro up e1 n1
  have hv1 := hv.same (up.le hs).row
  try simp (disch := first | omega | (simp only [ints_length, List.length_replicate, List.length_set]; done) | (simp only [ints_length, List.length_replicate, List.length_set]; omega)) only [Sall,evalOp,init,binE,binI,unE,convE,okNil,builtE,gv,TD.isAgg,resV,↓reduceIte,Nat.reduceEqDiff,reduceCtorEq,Nat.reduceAdd,Nat.reduceMul,Nat.reduceLeDiff,quietOp,blindOp,Int.reduceEq,Int.reduceLT,Int.reduceLE,Nat.reduceLT,ti2,ti3,ti4,ti41,ti42,ti62,ti22,ti45,ti37,ti47,ti39,ti74,ti138,ti101,ti103,ti108,ti24,ti28,ti96, e1]
  refine (l06Is_c q v R H1 hv1 hl hl2).to ?_
  unfold evC whB
  obtain hE | hE : evB q R = true ∨ evB q R = false := by cases evB q R <;> simp
  · rw [hE]
    have hE2 := hE
    obtain ⟨n, rfl, h4, h16, h20, hall⟩ := evB_at hE2
    have hEv : EvOk n R := ⟨h20, fun i hi => ⟨(hall i hi).2.1, (hall i hi).2.2.1⟩⟩
    have hR4 : ∀ i, i < R.length → (R.getD i []).length % 4 = 0 := fun i hi => (hall i hi).1
    rw [Int.toNat_natCast]
    try simp (disch := first | omega | (simp only [ints_length, List.length_replicate, List.length_set]; done) | (simp only [ints_length, List.length_replicate, List.length_set]; omega)) only [Sall,evalOp,init,binE,binI,unE,convE,okNil,builtE,gv,TD.isAgg,resV,↓reduceIte,Nat.reduceEqDiff,reduceCtorEq,Nat.reduceAdd,Nat.reduceMul,Nat.reduceLeDiff,quietOp,blindOp,Int.reduceEq,Int.reduceLT,Int.reduceLE,Nat.reduceLT,ti2,ti3,ti4,ti41,ti42,ti62,ti22,ti45,ti37,ti47,ti39,ti74,ti138,ti101,ti103,ti108,ti24,ti28,ti96, Bool.not_true, e1]
    refine (l06Whist_c n (by omega) v R H1 hv1 hEv).to ?_
    try simp (disch := first | omega | (simp only [ints_length, List.length_replicate, List.length_set]; done) | (simp only [ints_length, List.length_replicate, List.length_set]; omega)) only [Sall,evalOp,init,binE,binI,unE,convE,okNil,builtE,gv,TD.isAgg,resV,↓reduceIte,Nat.reduceEqDiff,reduceCtorEq,Nat.reduceAdd,Nat.reduceMul,Nat.reduceLeDiff,quietOp,blindOp,Int.reduceEq,Int.reduceLT,Int.reduceLE,Nat.reduceLT,ti2,ti3,ti4,ti41,ti42,ti62,ti22,ti45,ti37,ti47,ti39,ti74,ti138,ti101,ti103,ti108,ti24,ti28,ti96, Bool.true_and]
    exact up
  · rw [hE]
    try simp (disch := first | omega | (simp only [ints_length, List.length_replicate, List.length_set]; done) | (simp only [ints_length, List.length_replicate, List.length_set]; omega)) only [Sall,evalOp,init,binE,binI,unE,convE,okNil,builtE,gv,TD.isAgg,resV,↓reduceIte,Nat.reduceEqDiff,reduceCtorEq,Nat.reduceAdd,Nat.reduceMul,Nat.reduceLeDiff,quietOp,blindOp,Int.reduceEq,Int.reduceLT,Int.reduceLE,Nat.reduceLT,ti2,ti3,ti4,ti41,ti42,ti62,ti22,ti45,ti37,ti47,ti39,ti74,ti138,ti101,ti103,ti108,ti24,ti28,ti96, Bool.not_false, Bool.false_and]
    exact up

theorem IsTriple_c (q : Int) (v : Value) (R : List (List Int)) (H : AH) (hv : Rd2 1 H v R) (hl : R.length ≤ 4194304) (hl2 : ∀ r ∈ R, r.length ≤ 4194304) :
    ACalls Try.prog 19 [.agg #[.int .i64 q, v]] H (is (.tuple #[.bool (trB q R), .int .i64 (evC q R)]) H) := by
  refine acalls_up (by simp [flat, Abs.scal]) (ACalls.wf (by kernel_rfl) fun hs => acalls_of_awp [.tmp 2, .tmp 3] Try.func19 (by kernel_rfl) rfl rfl (Nat.le_of_ble_eq_true rfl) (by kernel_rfl) ?_)
  have hone := hv.one
  have up : Up H.next H (H.push ⟨28, true, [.int .i64 q, v]⟩) := (Up.refl _ H).push (Nat.le_refl _) _
  have e1 : (H.push ⟨28, true, [.int .i64 q, v]⟩).row H.next = some ⟨28, true, [.int .i64 q, v]⟩ := by rw [AH.push_row, if_pos rfl]
  have n1 : (H.push ⟨28, true, [.int .i64 q, v]⟩).next = H.next + 1 := rfl
  try simp (disch := first | omega | (simp only [ints_length, List.length_replicate, List.length_set]; done) | (simp only [ints_length, List.length_replicate, List.length_set]; omega)) only [Sall,evalOp,init,binE,binI,unE,convE,okNil,builtE,gv,TD.isAgg,resV,↓reduceIte,Nat.reduceEqDiff,reduceCtorEq,Nat.reduceAdd,Nat.reduceMul,Nat.reduceLeDiff,quietOp,blindOp,Int.reduceEq,Int.reduceLT,Int.reduceLE,Nat.reduceLT,ti2,ti3,ti4,ti41,ti42,ti62,ti22,ti45,ti37,ti47,ti39,ti74,ti138,ti101,ti103,ti108,ti24,ti28,ti96, hone]
  revert up e1 n1
  generalize H.push ⟨28, true, [.int .i64 q, v]⟩ = H1
  intro up e1 n1
  have hv1 := hv.same (up.le hs).row
  try simp (disch := first | omega | (simp only [ints_length, List.length_replicate, List.length_set]; done) | (simp only [ints_length, List.length_replicate, List.length_set]; omega)) only [Sall,evalOp,init,binE,binI,unE,convE,okNil,builtE,gv,TD.isAgg,resV,↓reduceIte,Nat.reduceEqDiff,reduceCtorEq,Nat.reduceAdd,Nat.reduceMul,Nat.reduceLeDiff,quietOp,blindOp,Int.reduceEq,Int.reduceLT,Int.reduceLE,Nat.reduceLT,ti2,ti3,ti4,ti41,ti42,ti62,ti22,ti45,ti37,ti47,ti39,ti74,ti138,ti101,ti103,ti108,ti24,ti28,ti96, e1]
  refine (eveningCode_c q v R true H1 hv1 hl hl2).to ?_
  unfold evC trB
  obtain hE | hE : evB q R = true ∨ evB q R = false := by cases evB q R <;> simp
  · rw [hE]
    have hE2 := hE
    obtain ⟨n, rfl, h4, h16, h20, hall⟩ := evB_at hE2
    have hEv : EvOk n R := ⟨h20, fun i hi => ⟨(hall i hi).2.1, (hall i hi).2.2.1⟩⟩
    have hR4 : ∀ i, i < R.length → (R.getD i []).length % 4 = 0 := fun i hi => (hall i hi).1
    rw [Int.toNat_natCast]
    try simp (disch := first | omega | (simp only [ints_length, List.length_replicate, List.length_set]; done) | (simp only [ints_length, List.length_replicate, List.length_set]; omega)) only [Sall,evalOp,init,binE,binI,unE,convE,okNil,builtE,gv,TD.isAgg,resV,↓reduceIte,Nat.reduceEqDiff,reduceCtorEq,Nat.reduceAdd,Nat.reduceMul,Nat.reduceLeDiff,quietOp,blindOp,Int.reduceEq,Int.reduceLT,Int.reduceLE,Nat.reduceLT,ti2,ti3,ti4,ti41,ti42,ti62,ti22,ti45,ti37,ti47,ti39,ti74,ti138,ti101,ti103,ti108,ti24,ti28,ti96, if_true, e1, bne_self_eq_false]
    refine (isWhist_c n (by omega) v R H1 hv1 hEv).to ?_
    obtain hW | hW : whistB n R = true ∨ whistB n R = false := by cases whistB n R <;> simp
    · rw [hW]
      try simp (disch := first | omega | (simp only [ints_length, List.length_replicate, List.length_set]; done) | (simp only [ints_length, List.length_replicate, List.length_set]; omega)) only [Sall,evalOp,init,binE,binI,unE,convE,okNil,builtE,gv,TD.isAgg,resV,↓reduceIte,Nat.reduceEqDiff,reduceCtorEq,Nat.reduceAdd,Nat.reduceMul,Nat.reduceLeDiff,quietOp,blindOp,Int.reduceEq,Int.reduceLT,Int.reduceLE,Nat.reduceLT,ti2,ti3,ti4,ti41,ti42,ti62,ti22,ti45,ti37,ti47,ti39,ti74,ti138,ti101,ti103,ti108,ti24,ti28,ti96, e1]
      refine (opponents1_c n (by omega) v R H1 hv1 hEv).mono ?_
      rintro u H2 ⟨up2, f2⟩
      have n2 := up2.next
      refine Holds.mp ?_
      try simp (disch := first | omega | (simp only [ints_length, List.length_replicate, List.length_set]; done) | (simp only [ints_length, List.length_replicate, List.length_set]; omega)) only [Sall,evalOp,init,binE,binI,unE,convE,okNil,builtE,gv,TD.isAgg,resV,↓reduceIte,Nat.reduceEqDiff,reduceCtorEq,Nat.reduceAdd,Nat.reduceMul,Nat.reduceLeDiff,quietOp,blindOp,Int.reduceEq,Int.reduceLT,Int.reduceLE,Nat.reduceLT,ti2,ti3,ti4,ti41,ti42,ti62,ti22,ti45,ti37,ti47,ti39,ti74,ti138,ti101,ti103,ti108,ti24,ti28,ti96, true_and]
      refine (areAll_c 51 (fun x => x == 1) once_c u n _ H2 f2.rd (tabM_sq _ _ _) (by omega)).to ?_
      try simp (disch := first | omega | (simp only [ints_length, List.length_replicate, List.length_set]; done) | (simp only [ints_length, List.length_replicate, List.length_set]; omega)) only [Sall,evalOp,init,binE,binI,unE,convE,okNil,builtE,gv,TD.isAgg,resV,↓reduceIte,Nat.reduceEqDiff,reduceCtorEq,Nat.reduceAdd,Nat.reduceMul,Nat.reduceLeDiff,quietOp,blindOp,Int.reduceEq,Int.reduceLT,Int.reduceLE,Nat.reduceLT,ti2,ti3,ti4,ti41,ti42,ti62,ti22,ti45,ti37,ti47,ti39,ti74,ti138,ti101,ti103,ti108,ti24,ti28,ti96, Bool.true_and]
      exact up.trans up2 (by omega)
    · rw [hW]
      try simp (disch := first | omega | (simp only [ints_length, List.length_replicate, List.length_set]; done) | (simp only [ints_length, List.length_replicate, List.length_set]; omega)) only [Sall,evalOp,init,binE,binI,unE,convE,okNil,builtE,gv,TD.isAgg,resV,↓reduceIte,Nat.reduceEqDiff,reduceCtorEq,Nat.reduceAdd,Nat.reduceMul,Nat.reduceLeDiff,quietOp,blindOp,Int.reduceEq,Int.reduceLT,Int.reduceLE,Nat.reduceLT,ti2,ti3,ti4,ti41,ti42,ti62,ti22,ti45,ti37,ti47,ti39,ti74,ti138,ti101,ti103,ti108,ti24,ti28,ti96, Bool.false_and, Bool.and_false]
      exact up
  · rw [hE]
    have e2 : ((1 : Int) != 0) = true := rfl
    try simp (disch := first | omega | (simp only [ints_length, List.length_replicate, List.length_set]; done) | (simp only [ints_length, List.length_replicate, List.length_set]; omega)) only [Sall,evalOp,init,binE,binI,unE,convE,okNil,builtE,gv,TD.isAgg,resV,↓reduceIte,Nat.reduceEqDiff,reduceCtorEq,Nat.reduceAdd,Nat.reduceMul,Nat.reduceLeDiff,quietOp,blindOp,Int.reduceEq,Int.reduceLT,Int.reduceLE,Nat.reduceLT,ti2,ti3,ti4,ti41,ti42,ti62,ti22,ti45,ti37,ti47,ti39,ti74,ti138,ti101,ti103,ti108,ti24,ti28,ti96, e2, Bool.false_and]
    exact up

theorem specIsTriple_c (q : Int) (v : Value) (R : List (List Int)) (H : AH) (hv : Rd2 1 H v R) (hl : R.length ≤ 4194304) (hl2 : ∀ r ∈ R, r.length ≤ 4194304) :
    ACalls Try.prog 18 [.agg #[.int .i64 q, v]] H (is (.tuple #[.bool (trB q R), .int .i64 (evC q R)]) H) := by
  refine acalls_up (by simp [flat, Abs.scal]) (ACalls.wf (by kernel_rfl) fun hs => acalls_of_awp [.tmp 2, .tmp 3] Try.func18 (by kernel_rfl) rfl rfl (Nat.le_of_ble_eq_true rfl) (by kernel_rfl) ?_)
  have hone := hv.one
  have up : Up H.next H (H.push ⟨28, true, [.int .i64 q, v]⟩) := (Up.refl _ H).push (Nat.le_refl _) _
  have e1 : (H.push ⟨28, true, [.int .i64 q, v]⟩).row H.next = some ⟨28, true, [.int .i64 q, v]⟩ := by rw [AH.push_row, if_pos rfl]
  have n1 : (H.push ⟨28, true, [.int .i64 q, v]⟩).next = H.next + 1 := rfl
  try simp (disch := first | omega | (simp only [ints_length, List.length_replicate, List.length_set]; done) | (simp only [ints_length, List.length_replicate, List.length_set]; omega)) only [Sall,evalOp,init,binE,binI,unE,convE,okNil,builtE,gv,TD.isAgg,resV,↓reduceIte,Nat.reduceEqDiff,reduceCtorEq,Nat.reduceAdd,Nat.reduceMul,Nat.reduceLeDiff,quietOp,blindOp,Int.reduceEq,Int.reduceLT,Int.reduceLE,Nat.reduceLT,ti2,ti3,ti4,ti41,ti42,ti62,ti22,ti45,ti37,ti47,ti39,ti74,ti138,ti101,ti103,ti108,ti24,ti28,ti96, hone]
  revert up e1 n1
  generalize H.push ⟨28, true, [.int .i64 q, v]⟩ = H1
  intro up e1 n1
  have hv1 := hv.same (up.le hs).row
  try simp (disch := first | omega | (simp only [ints_length, List.length_replicate, List.length_set]; done) | (simp only [ints_length, List.length_replicate, List.length_set]; omega)) only [Sall,evalOp,init,binE,binI,unE,convE,okNil,builtE,gv,TD.isAgg,resV,↓reduceIte,Nat.reduceEqDiff,reduceCtorEq,Nat.reduceAdd,Nat.reduceMul,Nat.reduceLeDiff,quietOp,blindOp,Int.reduceEq,Int.reduceLT,Int.reduceLE,Nat.reduceLT,ti2,ti3,ti4,ti41,ti42,ti62,ti22,ti45,ti37,ti47,ti39,ti74,ti138,ti101,ti103,ti108,ti24,ti28,ti96, e1]
  refine (l06Is_c q v R H1 hv1 hl hl2).to ?_
  unfold evC trB
  obtain hE | hE : evB q R = true ∨ evB q R = false := by cases evB q R <;> simp
  · rw [hE]
    have hE2 := hE
    obtain ⟨n, rfl, h4, h16, h20, hall⟩ := evB_at hE2
    have hEv : EvOk n R := ⟨h20, fun i hi => ⟨(hall i hi).2.1, (hall i hi).2.2.1⟩⟩
    have hR4 : ∀ i, i < R.length → (R.getD i []).length % 4 = 0 := fun i hi => (hall i hi).1
    rw [Int.toNat_natCast]
    try simp (disch := first | omega | (simp only [ints_length, List.length_replicate, List.length_set]; done) | (simp only [ints_length, List.length_replicate, List.length_set]; omega)) only [Sall,evalOp,init,binE,binI,unE,convE,okNil,builtE,gv,TD.isAgg,resV,↓reduceIte,Nat.reduceEqDiff,reduceCtorEq,Nat.reduceAdd,Nat.reduceMul,Nat.reduceLeDiff,quietOp,blindOp,Int.reduceEq,Int.reduceLT,Int.reduceLE,Nat.reduceLT,ti2,ti3,ti4,ti41,ti42,ti62,ti22,ti45,ti37,ti47,ti39,ti74,ti138,ti101,ti103,ti108,ti24,ti28,ti96, Bool.not_true, e1]
    refine (l06Whist_c n (by omega) v R H1 hv1 hEv).to ?_
    obtain hW | hW : whistB n R = true ∨ whistB n R = false := by cases whistB n R <;> simp
    · rw [hW]
      have z1 : zeros 1 [.int .i64 0] = [.int .i64 0] := rfl
      try simp (disch := first | omega | (simp only [ints_length, List.length_replicate, List.length_set]; done) | (simp only [ints_length, List.length_replicate, List.length_set]; omega)) only [Sall,evalOp,init,binE,binI,unE,convE,okNil,builtE,gv,TD.isAgg,resV,↓reduceIte,Nat.reduceEqDiff,reduceCtorEq,Nat.reduceAdd,Nat.reduceMul,Nat.reduceLeDiff,quietOp,blindOp,Int.reduceEq,Int.reduceLT,Int.reduceLE,Nat.reduceLT,ti2,ti3,ti4,ti41,ti42,ti62,ti22,ti45,ti37,ti47,ti39,ti74,ti138,ti101,ti103,ti108,ti24,ti28,ti96, e1, z1, slCells]
      obtain ⟨H3, e3⟩ : ∃ H3, H3 = H1.push ⟨3, true, [.int .i64 2]⟩ := ⟨_, rfl⟩
      have up3 : Up H1.next H1 H3 := by rw [e3]; exact (Up.refl _ _).push (Nat.le_refl _) _
      have r3 : H3.row H1.next = some ⟨3, true, [.int .i64 2]⟩ := by rw [e3, AH.push_row, if_pos rfl]
      have n3 : H3.next = H1.next + 1 := by rw [e3]; rfl
      rw [← e3]
      clear e3
      have U3 : Up H.next H H3 := up.trans up3 (by omega)
      refine (l06Table_c n (by omega) v R (.slice (some ⟨H1.next, 0, some 1⟩) 1 1) [2] w1L way2 H3 (hv.same (U3.le hs).row) ⟨rfl, .inr ⟨H1.next, 0, _, _, _, rfl, r3, Nat.le_refl _, rfl⟩⟩ (by decide) (by decide) hEv hR4).mono ?_
      rintro u H4 ⟨up4, f4⟩
      have n4 := up4.next
      refine Holds.mp ?_
      try simp (disch := first | omega | (simp only [ints_length, List.length_replicate, List.length_set]; done) | (simp only [ints_length, List.length_replicate, List.length_set]; omega)) only [Sall,evalOp,init,binE,binI,unE,convE,okNil,builtE,gv,TD.isAgg,resV,↓reduceIte,Nat.reduceEqDiff,reduceCtorEq,Nat.reduceAdd,Nat.reduceMul,Nat.reduceLeDiff,quietOp,blindOp,Int.reduceEq,Int.reduceLT,Int.reduceLE,Nat.reduceLT,ti2,ti3,ti4,ti41,ti42,ti62,ti22,ti45,ti37,ti47,ti39,ti74,ti138,ti101,ti103,ti108,ti24,ti28,ti96, true_and]
      refine (l06Each_c u n _ 1 H4 f4.rd (tabM_sq _ _ _) (by omega)).to ?_
      try simp (disch := first | omega | (simp only [ints_length, List.length_replicate, List.length_set]; done) | (simp only [ints_length, List.length_replicate, List.length_set]; omega)) only [Sall,evalOp,init,binE,binI,unE,convE,okNil,builtE,gv,TD.isAgg,resV,↓reduceIte,Nat.reduceEqDiff,reduceCtorEq,Nat.reduceAdd,Nat.reduceMul,Nat.reduceLeDiff,quietOp,blindOp,Int.reduceEq,Int.reduceLT,Int.reduceLE,Nat.reduceLT,ti2,ti3,ti4,ti41,ti42,ti62,ti22,ti45,ti37,ti47,ti39,ti74,ti138,ti101,ti103,ti108,ti24,ti28,ti96, Bool.true_and]
      exact U3.trans up4 (by omega)
    · rw [hW]
      try simp (disch := first | omega | (simp only [ints_length, List.length_replicate, List.length_set]; done) | (simp only [ints_length, List.length_replicate, List.length_set]; omega)) only [Sall,evalOp,init,binE,binI,unE,convE,okNil,builtE,gv,TD.isAgg,resV,↓reduceIte,Nat.reduceEqDiff,reduceCtorEq,Nat.reduceAdd,Nat.reduceMul,Nat.reduceLeDiff,quietOp,blindOp,Int.reduceEq,Int.reduceLT,Int.reduceLE,Nat.reduceLT,ti2,ti3,ti4,ti41,ti42,ti62,ti22,ti45,ti37,ti47,ti39,ti74,ti138,ti101,ti103,ti108,ti24,ti28,ti96, Bool.false_and, Bool.and_false]
      exact up
  · rw [hE]
    try simp (disch := first | omega | (simp only [ints_length, List.length_replicate, List.length_set]; done) | (simp only [ints_length, List.length_replicate, List.length_set]; omega)) only [Sall,evalOp,init,binE,binI,unE,convE,okNil,builtE,gv,TD.isAgg,resV,↓reduceIte,Nat.reduceEqDiff,reduceCtorEq,Nat.reduceAdd,Nat.reduceMul,Nat.reduceLeDiff,quietOp,blindOp,Int.reduceEq,Int.reduceLT,Int.reduceLE,Nat.reduceLT,ti2,ti3,ti4,ti41,ti42,ti62,ti22,ti45,ti37,ti47,ti39,ti74,ti138,ti101,ti103,ti108,ti24,ti28,ti96, Bool.not_false, Bool.false_and]
    exact up
end Go.Proofs.Ytnpmidgikbbnbaa.A
end

section
set_option linter.unusedSimpArgs false
set_option linter.unusedVariables false
set_option maxRecDepth 100000
namespace Go.Proofs.Ytnpmidgikbbnbaa.A
open Go Go.Abs Go.RowKit

theorem eqRound_c (l : List Int) (hl : l.length = 14) (H : AH) : ACalls Try.prog 28 [.agg (ints l).toArray, .agg (ints l).toArray] H (is (.bool true) H) := by
  refine acalls_up rfl (acalls_of_awp [.tmp 4] Try.func28 (by kernel_rfl) rfl rfl (Nat.le_of_ble_eq_true rfl) (by kernel_rfl) ?_)
  try simp (disch := first | omega | (simp only [ints_length, List.length_replicate]; done) | (simp only [ints_length, List.length_replicate]; omega)) only [Sall,evalOp,init,binE,binI,unE,convE,okNil,builtE,gv,TD.isAgg,resV,↓reduceIte,Nat.reduceEqDiff,reduceCtorEq,Nat.reduceAdd,Nat.reduceMul,Nat.reduceLeDiff,quietOp,blindOp,Int.reduceEq,Int.reduceLT,Int.reduceLE,Nat.reduceLT,ti2,ti3,ti4,ti41,ti42,ti62,ti22,ti45,ti37,ti47,ti39,ti74,ti138,ti101,ti103,ti108,ti24,ti28,ti96, true_and]
  refine awp_loop (fun m t H' => ∃ a : Int, m = (14 - a).toNat ∧ 0 ≤ a ∧ a ≤ 14 ∧ t 5 = .int .i64 a ∧ t 2 = .pointer (some ⟨H.next, 0, none⟩) ∧ t 3 = .pointer (some ⟨H.next + 1, 0, none⟩) ∧ Up H.next H H' ∧
    H'.row H.next = some ⟨42, true, ints l⟩ ∧ H'.row (H.next + 1) = some ⟨42, true, ints l⟩) 14 ?_ ?_
  · refine ⟨0, by omega, by omega, by omega, ?_⟩
    try simp (disch := first | omega | (simp only [ints_length, List.length_replicate]; done) | (simp only [ints_length, List.length_replicate]; omega)) only [Sall,evalOp,init,binE,binI,unE,convE,okNil,builtE,gv,TD.isAgg,resV,↓reduceIte,Nat.reduceEqDiff,reduceCtorEq,Nat.reduceAdd,Nat.reduceMul,Nat.reduceLeDiff,quietOp,blindOp,Int.reduceEq,Int.reduceLT,Int.reduceLE,Nat.reduceLT,ti2,ti3,ti4,ti41,ti42,ti62,ti22,ti45,ti37,ti47,ti39,ti74,ti138,ti101,ti103,ti108,ti24,ti28,ti96, true_and]
    exact ((Up.refl _ H).push (by omega) _).push (Nat.le_succ _) _
  · rintro m t H' ⟨a, hm, h0, h14, h5, h2, h3, hup, hr0, hr1⟩
    try simp (disch := first | omega | (simp only [ints_length, List.length_replicate]; done) | (simp only [ints_length, List.length_replicate]; omega)) only [Sall,evalOp,init,binE,binI,unE,convE,okNil,builtE,gv,TD.isAgg,resV,↓reduceIte,Nat.reduceEqDiff,reduceCtorEq,Nat.reduceAdd,Nat.reduceMul,Nat.reduceLeDiff,quietOp,blindOp,Int.reduceEq,Int.reduceLT,Int.reduceLE,Nat.reduceLT,ti2,ti3,ti4,ti41,ti42,ti62,ti22,ti45,ti37,ti47,ti39,ti74,ti138,ti101,ti103,ti108,ti24,ti28,ti96, h5]
    refine condC_dec (fun h => ?_) (fun h => ?_)
    · skip
      try simp (disch := first | omega | (simp only [ints_length, List.length_replicate]; done) | (simp only [ints_length, List.length_replicate]; omega)) only [Sall,evalOp,init,binE,binI,unE,convE,okNil,builtE,gv,TD.isAgg,resV,↓reduceIte,Nat.reduceEqDiff,reduceCtorEq,Nat.reduceAdd,Nat.reduceMul,Nat.reduceLeDiff,quietOp,blindOp,Int.reduceEq,Int.reduceLT,Int.reduceLE,Nat.reduceLT,ti2,ti3,ti4,ti41,ti42,ti62,ti22,ti45,ti37,ti47,ti39,ti74,ti138,ti101,ti103,ti108,ti24,ti28,ti96, h5]
      refine draw_id (by kernel_rfl) (by kernel_rfl) ?_
      try simp (disch := first | omega | (simp only [ints_length, List.length_replicate]; done) | (simp only [ints_length, List.length_replicate]; omega)) only [Sall,evalOp,init,binE,binI,unE,convE,okNil,builtE,gv,TD.isAgg,resV,↓reduceIte,Nat.reduceEqDiff,reduceCtorEq,Nat.reduceAdd,Nat.reduceMul,Nat.reduceLeDiff,quietOp,blindOp,Int.reduceEq,Int.reduceLT,Int.reduceLE,Nat.reduceLT,ti2,ti3,ti4,ti41,ti42,ti62,ti22,ti45,ti37,ti47,ti39,ti74,ti138,ti101,ti103,ti108,ti24,ti28,ti96, h5, h2, h3, hr0, hr1, ints_get?, bne_self_eq_false, w64]
      refine ⟨⟨h0, by omega⟩, ⟨h0, by omega⟩, (14 - (a + 1)).toNat, by omega, a + 1, rfl, by omega, by omega, rfl, hup⟩
    · try simp (disch := first | omega | (simp only [ints_length, List.length_replicate]; done) | (simp only [ints_length, List.length_replicate]; omega)) only [Sall,evalOp,init,binE,binI,unE,convE,okNil,builtE,gv,TD.isAgg,resV,↓reduceIte,Nat.reduceEqDiff,reduceCtorEq,Nat.reduceAdd,Nat.reduceMul,Nat.reduceLeDiff,quietOp,blindOp,Int.reduceEq,Int.reduceLT,Int.reduceLE,Nat.reduceLT,ti2,ti3,ti4,ti41,ti42,ti62,ti22,ti45,ti37,ti47,ti39,ti74,ti138,ti101,ti103,ti108,ti24,ti28,ti96, true_and]
      exact hup

theorem eqRoundS_c (va vb : Value) (n : Nat) (l : List Int) (hn : n ≤ 4294967296) (H : AH) (ha : Rd 14 H va n l) (hb : Rd 14 H vb n l) : ACalls Try.prog 69 [va, vb] H (is (.bool true) H) := by
  refine acalls_up rfl (acalls_of_awp [.tmp 4] Try.func69 (by kernel_rfl) rfl rfl (Nat.le_of_ble_eq_true rfl) (by kernel_rfl) ?_)
  try simp (disch := first | omega | (simp only [ints_length, List.length_replicate]; done) | (simp only [ints_length, List.length_replicate]; omega)) only [Sall,evalOp,init,binE,binI,unE,convE,okNil,builtE,gv,TD.isAgg,resV,↓reduceIte,Nat.reduceEqDiff,reduceCtorEq,Nat.reduceAdd,Nat.reduceMul,Nat.reduceLeDiff,quietOp,blindOp,Int.reduceEq,Int.reduceLT,Int.reduceLE,Nat.reduceLT,ti2,ti3,ti4,ti41,ti42,ti62,ti22,ti45,ti37,ti47,ti39,ti74,ti138,ti101,ti103,ti108,ti24,ti28,ti96, builtE, ha.len, hb.len, bne_self_eq_false]
  refine awp_loop (fun m t H' => ∃ a : Int, m = (n - a).toNat ∧ 0 ≤ a ∧ a ≤ n ∧ t 5 = .int .i64 a ∧ t 0 = va ∧ t 1 = vb ∧ H' = H) n ?_ ?_
  · refine ⟨0, by omega, by omega, by omega, ?_⟩
    try simp (disch := first | omega | (simp only [ints_length, List.length_replicate]; done) | (simp only [ints_length, List.length_replicate]; omega)) only [Sall,evalOp,init,binE,binI,unE,convE,okNil,builtE,gv,TD.isAgg,resV,↓reduceIte,Nat.reduceEqDiff,reduceCtorEq,Nat.reduceAdd,Nat.reduceMul,Nat.reduceLeDiff,quietOp,blindOp,Int.reduceEq,Int.reduceLT,Int.reduceLE,Nat.reduceLT,ti2,ti3,ti4,ti41,ti42,ti62,ti22,ti45,ti37,ti47,ti39,ti74,ti138,ti101,ti103,ti108,ti24,ti28,ti96, true_and]
  · rintro m t H' ⟨a, hm, h0, h14, h5, h2, h3, rfl⟩
    try simp (disch := first | omega | (simp only [ints_length, List.length_replicate]; done) | (simp only [ints_length, List.length_replicate]; omega)) only [Sall,evalOp,init,binE,binI,unE,convE,okNil,builtE,gv,TD.isAgg,resV,↓reduceIte,Nat.reduceEqDiff,reduceCtorEq,Nat.reduceAdd,Nat.reduceMul,Nat.reduceLeDiff,quietOp,blindOp,Int.reduceEq,Int.reduceLT,Int.reduceLE,Nat.reduceLT,ti2,ti3,ti4,ti41,ti42,ti62,ti22,ti45,ti37,ti47,ti39,ti74,ti138,ti101,ti103,ti108,ti24,ti28,ti96, h5, h2, builtE, ha.len]
    refine condC_dec (fun h => ?_) (fun h => ?_)
    · obtain ⟨i, o, u, c, r, rfl, hr, hc, hs, hg⟩ := ha.get (by omega)
      obtain ⟨i', o', u', c', r', rfl, hr', hc', hs', hg'⟩ := hb.get (by omega)
      try simp (disch := first | omega | (simp only [ints_length, List.length_replicate]; done) | (simp only [ints_length, List.length_replicate]; omega)) only [Sall,evalOp,init,binE,binI,unE,convE,okNil,builtE,gv,TD.isAgg,resV,↓reduceIte,Nat.reduceEqDiff,reduceCtorEq,Nat.reduceAdd,Nat.reduceMul,Nat.reduceLeDiff,quietOp,blindOp,Int.reduceEq,Int.reduceLT,Int.reduceLE,Nat.reduceLT,ti2,ti3,ti4,ti41,ti42,ti62,ti22,ti45,ti37,ti47,ti39,ti74,ti138,ti101,ti103,ti108,ti24,ti28,ti96, h5]
      refine draw_id (by kernel_rfl) (by kernel_rfl) ?_
      try simp (disch := first | omega | (simp only [ints_length, List.length_replicate]; done) | (simp only [ints_length, List.length_replicate]; omega)) only [Sall,evalOp,init,binE,binI,unE,convE,okNil,builtE,gv,TD.isAgg,resV,↓reduceIte,Nat.reduceEqDiff,reduceCtorEq,Nat.reduceAdd,Nat.reduceMul,Nat.reduceLeDiff,quietOp,blindOp,Int.reduceEq,Int.reduceLT,Int.reduceLE,Nat.reduceLT,ti2,ti3,ti4,ti41,ti42,ti62,ti22,ti45,ti37,ti47,ti39,ti74,ti138,ti101,ti103,ti108,ti24,ti28,ti96, h5, h2, h3, hr, hr', hg, hg']
      refine ⟨⟨h0, h⟩, by omega, ⟨h0, h⟩, by omega, (eqRound_c _ ?_ H').to ⟨.inr (.inr (LE.refl _)), ?_⟩⟩
      · rw [List.length_take, List.length_drop, ha.1]; omega
      · try simp (disch := first | omega | (simp only [ints_length, List.length_replicate]; done) | (simp only [ints_length, List.length_replicate]; omega)) only [Sall,evalOp,init,binE,binI,unE,convE,okNil,builtE,gv,TD.isAgg,resV,↓reduceIte,Nat.reduceEqDiff,reduceCtorEq,Nat.reduceAdd,Nat.reduceMul,Nat.reduceLeDiff,quietOp,blindOp,Int.reduceEq,Int.reduceLT,Int.reduceLE,Nat.reduceLT,ti2,ti3,ti4,ti41,ti42,ti62,ti22,ti45,ti37,ti47,ti39,ti74,ti138,ti101,ti103,ti108,ti24,ti28,ti96, Bool.not_true, w64, h5, h2, h3]
        refine ⟨(n - (a + 1)).toNat, by omega, a + 1, rfl, by omega, by omega, rfl⟩
    · try simp (disch := first | omega | (simp only [ints_length, List.length_replicate]; done) | (simp only [ints_length, List.length_replicate]; omega)) only [Sall,evalOp,init,binE,binI,unE,convE,okNil,builtE,gv,TD.isAgg,resV,↓reduceIte,Nat.reduceEqDiff,reduceCtorEq,Nat.reduceAdd,Nat.reduceMul,Nat.reduceLeDiff,quietOp,blindOp,Int.reduceEq,Int.reduceLT,Int.reduceLE,Nat.reduceLT,ti2,ti3,ti4,ti41,ti42,ti62,ti22,ti45,ti37,ti47,ti39,ti74,ti138,ti101,ti103,ti108,ti24,ti28,ti96, true_and]
      exact Up.refl _ _

/-- A schedule as it is handed on: its teams and its rounds. -/
def schedV (n : Int) (v : Value) : Value := .agg #[.int .i64 n, v]

theorem eqSchedule_c (va vb : Value) (q : Int) (n : Nat) (l : List Int) (hn : n ≤ 4294967296) (H : AH) (ha : Rd 14 H va n l) (hb : Rd 14 H vb n l) (h1 : va.oneCell' = true) (h2 : vb.oneCell' = true) :
    ACalls Try.prog 29 [.agg #[.int .i64 q, va], .agg #[.int .i64 q, vb]] H (is (.bool true) H) := by
  refine ACalls.wf (by kernel_rfl) fun hs => acalls_up rfl (acalls_of_awp [.tmp 4] Try.func29 (by kernel_rfl) rfl rfl (Nat.le_of_ble_eq_true rfl) (by kernel_rfl) ?_)
  try simp (disch := first | omega | (simp only [ints_length, List.length_replicate]; done) | (simp only [ints_length, List.length_replicate]; omega)) only [Sall,evalOp,init,binE,binI,unE,convE,okNil,builtE,gv,TD.isAgg,resV,↓reduceIte,Nat.reduceEqDiff,reduceCtorEq,Nat.reduceAdd,Nat.reduceMul,Nat.reduceLeDiff,quietOp,blindOp,Int.reduceEq,Int.reduceLT,Int.reduceLE,Nat.reduceLT,ti2,ti3,ti4,ti41,ti42,ti62,ti22,ti45,ti37,ti47,ti39,ti74,ti138,ti101,ti103,ti108,ti24,ti28,ti96, bne_self_eq_false]
  have up : Up H.next H ((H.push ⟨47, true, [.int .i64 q, va]⟩).push ⟨47, true, [.int .i64 q, vb]⟩) := ((Up.refl _ H).push (Nat.le_refl _) _).push (Nat.le_succ _) _
  refine (eqRoundS_c va vb n l hn _ (ha.same (up.le hs).row) (hb.same (up.le hs).row)).to ?_
  try simp (disch := first | omega | (simp only [ints_length, List.length_replicate]; done) | (simp only [ints_length, List.length_replicate]; omega)) only [Sall,evalOp,init,binE,binI,unE,convE,okNil,builtE,gv,TD.isAgg,resV,↓reduceIte,Nat.reduceEqDiff,reduceCtorEq,Nat.reduceAdd,Nat.reduceMul,Nat.reduceLeDiff,quietOp,blindOp,Int.reduceEq,Int.reduceLT,Int.reduceLE,Nat.reduceLT,ti2,ti3,ti4,ti41,ti42,ti62,ti22,ti45,ti37,ti47,ti39,ti74,ti138,ti101,ti103,ti108,ti24,ti28,ti96, Bool.not_true]
  exact up

/-! ### Marks -/
/-! ### Marks that are held -/
end Go.Proofs.Ytnpmidgikbbnbaa.A
end

section
set_option linter.unusedSimpArgs false
set_option linter.unusedVariables false
set_option maxRecDepth 100000
namespace Go.Proofs.Ytnpmidgikbbnbaa.A
open Go Go.Abs Go.RowKit

theorem szEvening_c (q : Int) (v : Value) (ll : List (List Int)) (left : Int) (H : AH) (hv : Rd2 1 H v ll) (hl : 0 ≤ left ∧ left ≤ 1048576) (hn : ll.length ≤ 9223372036854775807) (hn2 : ∀ l ∈ ll, l.length ≤ 9223372036854775807) :
    ACalls Try.prog 9 [.agg #[.int .i64 q, v], .int .i64 left] H (fun r H' => ∃ x : Int, r = .int .i64 x ∧ (Up H.next H H' ∧ (0 ≤ x → (ll.length : Int) + tot ll + x = left))) := by
  refine ACalls.wf (by kernel_rfl) fun hs => acalls_of_awp [.tmp 4] Try.func9 (by kernel_rfl) rfl rfl (Nat.le_of_ble_eq_true rfl) (by kernel_rfl) ?_
  have hone := hv.one
  have up : Up H.next H (H.push ⟨24, true, [.int .i64 q, v]⟩) := (Up.refl _ H).push (Nat.le_refl _) _
  try simp (disch := first | omega | (simp only [ints_length, List.length_replicate]; done) | (simp only [ints_length, List.length_replicate]; omega)) only [Sall,evalOp,init,binE,binI,unE,convE,okNil,builtE,gv,TD.isAgg,resV,↓reduceIte,Nat.reduceEqDiff,reduceCtorEq,Nat.reduceAdd,Nat.reduceMul,Nat.reduceLeDiff,quietOp,blindOp,Int.reduceEq,Int.reduceLT,Int.reduceLE,Nat.reduceLT,ti2,ti3,ti4,ti41,ti42,ti62,ti22,ti45,ti37,ti47,ti39,ti74,ti138,ti101,ti103,ti108,ti24,ti28,ti96, hone]
  refine (szInt64SS_c v ll left _ (hv.same (up.le hs).row) hl hn hn2).exH ?_
  rintro x hx
  refine Holds.mp ?_
  by_cases h : x < 0
  · try simp (disch := first | omega | (simp only [ints_length, List.length_replicate]; done) | (simp only [ints_length, List.length_replicate]; omega)) only [Sall,evalOp,init,binE,binI,unE,convE,okNil,builtE,gv,TD.isAgg,resV,↓reduceIte,Nat.reduceEqDiff,reduceCtorEq,Nat.reduceAdd,Nat.reduceMul,Nat.reduceLeDiff,quietOp,blindOp,Int.reduceEq,Int.reduceLT,Int.reduceLE,Nat.reduceLT,ti2,ti3,ti4,ti41,ti42,ti62,ti22,ti45,ti37,ti47,ti39,ti74,ti138,ti101,ti103,ti108,ti24,ti28,ti96, h, decide_true]
    exact ⟨up, fun h => h.elim⟩
  · try simp (disch := first | omega | (simp only [ints_length, List.length_replicate]; done) | (simp only [ints_length, List.length_replicate]; omega)) only [Sall,evalOp,init,binE,binI,unE,convE,okNil,builtE,gv,TD.isAgg,resV,↓reduceIte,Nat.reduceEqDiff,reduceCtorEq,Nat.reduceAdd,Nat.reduceMul,Nat.reduceLeDiff,quietOp,blindOp,Int.reduceEq,Int.reduceLT,Int.reduceLE,Nat.reduceLT,ti2,ti3,ti4,ti41,ti42,ti62,ti22,ti45,ti37,ti47,ti39,ti74,ti138,ti101,ti103,ti108,ti24,ti28,ti96, h, decide_false]
    exact ⟨up, hx⟩

theorem toEvening_c (q : Int) (v : Value) (ll : List (List Int)) (H : AH) (hv : Rd2 1 H v ll) (hn : ll.length ≤ 4194304) (hn2 : ∀ l ∈ ll, l.length ≤ 4194304) :
    ACalls Try.prog 11 [.agg #[.int .i64 q, v]] H (FrE q ll H) := by
  refine ACalls.wf (by kernel_rfl) fun hs => acalls_of_awp [.cell 2 28] Try.func11 (by kernel_rfl) rfl rfl (Nat.le_of_ble_eq_true rfl) (by kernel_rfl) ?_
  have k0 := hv.one
  try simp (disch := first | omega | (simp only [ints_length, List.length_replicate]; done) | (simp only [ints_length, List.length_replicate]; omega)) only [Sall,evalOp,init,binE,binI,unE,convE,okNil,builtE,gv,TD.isAgg,resV,↓reduceIte,Nat.reduceEqDiff,reduceCtorEq,Nat.reduceAdd,Nat.reduceMul,Nat.reduceLeDiff,quietOp,blindOp,Int.reduceEq,Int.reduceLT,Int.reduceLE,Nat.reduceLT,ti2,ti3,ti4,ti41,ti42,ti62,ti22,ti45,ti37,ti47,ti39,ti74,ti138,ti101,ti103,ti108,ti24,ti28,ti96, k0]
  obtain ⟨H1, e1⟩ : ∃ H1, H1 = (((H.push ⟨24, true, [.int .i64 q, v]⟩).push ⟨28, true, [.int .i64 0, .slice none 0 0]⟩).push ⟨28, true, [.int .i64 0, .slice none 0 0]⟩).setCells (H.next + 2) [.int .i64 q, .slice none 0 0] := ⟨_, rfl⟩
  have up : Up H.next H H1 := by rw [e1]; exact ((((Up.refl _ H).push (by omega) _).push (Nat.le_succ _) _).push (Nat.le_succ_of_le (Nat.le_succ _)) _).set (by omega) _
  have n1 : H1.next = H.next + 3 := by rw [e1]; rfl
  have a0 : H1.row (H.next + 1) = some ⟨28, true, [.int .i64 0, .slice none 0 0]⟩ := by rw [e1]; simp [AH.setCells_row, AH.push_row, AH.push_next]
  have a1 : H1.row (H.next + 2) = some ⟨28, true, [.int .i64 q, .slice none 0 0]⟩ := by rw [e1]; simp [AH.setCells_row, AH.push_row, AH.push_next]
  rw [← e1]
  clear e1
  refine (toInt64SS_c v ll H1 (hv.same (up.le hs).row) hn hn2).mono ?_
  rintro u H2 ⟨up2, hfr⟩
  have b0 : H2.row (H.next + 1) = some ⟨28, true, [.int .i64 0, .slice none 0 0]⟩ := by rw [up2.row _ (by omega), a0]
  have b1 : H2.row (H.next + 2) = some ⟨28, true, [.int .i64 q, .slice none 0 0]⟩ := by rw [up2.row _ (by omega), a1]
  have k1 := hfr.rd.one
  have n2 := up2.next
  have ne1 : ¬ (H.next + 1 = H.next + 2) := by omega
  refine Holds.mp ?_
  try simp (disch := first | omega | (simp only [ints_length, List.length_replicate]; done) | (simp only [ints_length, List.length_replicate]; omega)) only [Sall,evalOp,init,binE,binI,unE,convE,okNil,builtE,gv,TD.isAgg,resV,↓reduceIte,Nat.reduceEqDiff,reduceCtorEq,Nat.reduceAdd,Nat.reduceMul,Nat.reduceLeDiff,quietOp,blindOp,Int.reduceEq,Int.reduceLT,Int.reduceLE,Nat.reduceLT,ti2,ti3,ti4,ti41,ti42,ti62,ti22,ti45,ti37,ti47,ti39,ti74,ti138,ti101,ti103,ti108,ti24,ti28,ti96, b0, b1, k1, ne1]
  refine ⟨u, rfl, ⟨by simp only [AH.setCells_next]; omega, fun i hi => ?_⟩, ?_⟩
  · rw [AH.setCells_row, if_neg (by omega), AH.setCells_row, if_neg (by omega), up2.row i (by omega), up.row i hi]
  · refine (Fr2.same (Fr2.wide hfr (lo' := H1.next) (hi' := H2.next) (by omega) (by omega)) ?_).wide (by omega) (by simp only [AH.setCells_next]; omega)
    intro i hi _
    rw [AH.setCells_row, if_neg (by omega), AH.setCells_row, if_neg (by omega)]

theorem eqEvening_c (va vb : Value) (q : Int) (ll : List (List Int)) (hn : ll.length ≤ 4294967296) (hn2 : ∀ l ∈ ll, l.length ≤ 4294967296) (H : AH) (ha : Rd2 1 H va ll) (hb : Rd2 1 H vb ll) (h1 : va.oneCell' = true) (h2 : vb.oneCell' = true) :
    ACalls Try.prog 14 [.agg #[.int .i64 q, va], .agg #[.int .i64 q, vb]] H (is (.bool true) H) := by
  refine ACalls.wf (by kernel_rfl) fun hs => acalls_up rfl (acalls_of_awp [.tmp 4] Try.func14 (by kernel_rfl) rfl rfl (Nat.le_of_ble_eq_true rfl) (by kernel_rfl) ?_)
  try simp (disch := first | omega | (simp only [ints_length, List.length_replicate]; done) | (simp only [ints_length, List.length_replicate]; omega)) only [Sall,evalOp,init,binE,binI,unE,convE,okNil,builtE,gv,TD.isAgg,resV,↓reduceIte,Nat.reduceEqDiff,reduceCtorEq,Nat.reduceAdd,Nat.reduceMul,Nat.reduceLeDiff,quietOp,blindOp,Int.reduceEq,Int.reduceLT,Int.reduceLE,Nat.reduceLT,ti2,ti3,ti4,ti41,ti42,ti62,ti22,ti45,ti37,ti47,ti39,ti74,ti138,ti101,ti103,ti108,ti24,ti28,ti96, bne_self_eq_false]
  have up : Up H.next H ((H.push ⟨28, true, [.int .i64 q, va]⟩).push ⟨28, true, [.int .i64 q, vb]⟩) := ((Up.refl _ H).push (Nat.le_refl _) _).push (Nat.le_succ _) _
  refine (eqInt64SS_c va vb ll hn hn2 _ (ha.same (up.le hs).row) (hb.same (up.le hs).row)).to ?_
  try simp (disch := first | omega | (simp only [ints_length, List.length_replicate]; done) | (simp only [ints_length, List.length_replicate]; omega)) only [Sall,evalOp,init,binE,binI,unE,convE,okNil,builtE,gv,TD.isAgg,resV,↓reduceIte,Nat.reduceEqDiff,reduceCtorEq,Nat.reduceAdd,Nat.reduceMul,Nat.reduceLeDiff,quietOp,blindOp,Int.reduceEq,Int.reduceLT,Int.reduceLE,Nat.reduceLT,ti2,ti3,ti4,ti41,ti42,ti62,ti22,ti45,ti37,ti47,ti39,ti74,ti138,ti101,ti103,ti108,ti24,ti28,ti96, Bool.not_true]
  exact up

theorem markEvening_c (ty ty' lo hi : Nat) (v : Value) (q : Int) (ll : List (List Int)) (k0 : Int) (hk0 : 0 ≤ k0 ∧ k0 ≤ 268435456) (hn : ll.length ≤ 4194304) (ht0 : tot ll ≤ 4194304) (H : AH) (hv : Fr2 1 ty ty' lo hi H v ll) (hh : hi ≤ H.next) :
    ACalls Try.prog 15 [.agg #[.int .i64 q, v], .int .i64 k0] H (fun r H' => r = .int .i64 (k0 + tot ll) ∧ H.next ≤ H'.next ∧ (∀ i, ¬(lo ≤ i ∧ i < hi) → i < H.next → H'.row i = H.row i) ∧ Fr2 1 ty ty' lo hi H' v (seqLL k0 ll)) := by
  refine acalls_of_awp [.tmp 4] Try.func15 (by kernel_rfl) rfl rfl (Nat.le_of_ble_eq_true rfl) (by kernel_rfl) ?_
  try simp (disch := first | omega | (simp only [ints_length, List.length_replicate]; done) | (simp only [ints_length, List.length_replicate]; omega)) only [Sall,evalOp,init,binE,binI,unE,convE,okNil,builtE,gv,TD.isAgg,resV,↓reduceIte,Nat.reduceEqDiff,reduceCtorEq,Nat.reduceAdd,Nat.reduceMul,Nat.reduceLeDiff,quietOp,blindOp,Int.reduceEq,Int.reduceLT,Int.reduceLE,Nat.reduceLT,ti2,ti3,ti4,ti41,ti42,ti62,ti22,ti45,ti37,ti47,ti39,ti74,ti138,ti101,ti103,ti108,ti24,ti28,ti96, true_and]
  have hv' : Fr2 1 ty ty' lo hi (H.push ⟨28, true, [.int .i64 q, v]⟩) v ll := hv.same fun i _ h2 => by rw [AH.push_row, if_neg (by omega)]
  refine (markInt64SS_c ty ty' lo hi v ll k0 hk0 hn ht0 _ hv').fin ?_
  rintro H' ⟨h1, h2, h3⟩
  try simp (disch := first | omega | (simp only [ints_length, List.length_replicate]; done) | (simp only [ints_length, List.length_replicate]; omega)) only [Sall,evalOp,init,binE,binI,unE,convE,okNil,builtE,gv,TD.isAgg,resV,↓reduceIte,Nat.reduceEqDiff,reduceCtorEq,Nat.reduceAdd,Nat.reduceMul,Nat.reduceLeDiff,quietOp,blindOp,Int.reduceEq,Int.reduceLT,Int.reduceLE,Nat.reduceLT,ti2,ti3,ti4,ti41,ti42,ti62,ti22,ti45,ti37,ti47,ti39,ti74,ti138,ti101,ti103,ti108,ti24,ti28,ti96, true_and]
  rw [AH.push_next] at h1
  refine ⟨by omega, fun i hi' hi2 => ?_, h3⟩
  rw [h2 i hi', AH.push_row, if_neg (by omega)]
end Go.Proofs.Ytnpmidgikbbnbaa.A
end
