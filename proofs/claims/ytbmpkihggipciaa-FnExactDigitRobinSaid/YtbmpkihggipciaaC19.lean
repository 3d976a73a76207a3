/- Contracts: digit round robins on both sides. -/
import Derived.Test.YtbmpkihggipciaaC18
import Derived.Test.YtbmpkihggipciaaC2
import Derived.Test.YtbmpkihggipciaaPl9
import Derived.Test.YtbmpkihggipciaaAbs17
set_option linter.unusedSimpArgs false
set_option linter.unusedVariables false
set_option maxRecDepth 100000
set_option maxHeartbeats 2000000
--LEN ints_length, List.length_replicate, List.length_set
namespace Go.Proofs.Ytbmpkihggipciaa.A
open Go Go.Abs Go.RowKit

theorem isDigit_c (n : Int) (H : AH) : ACalls Try.prog 101 [.int .i64 n] H (is (.bool (decide (n = 2 ∨ n = 4 ∨ n = 8))) H) := by
  refine acalls_of_awp [.tmp 2] Try.func101 (by kernel_rfl) rfl rfl (Nat.le_of_ble_eq_true rfl) (by kernel_rfl) ?_
  by_cases h2 : n = 2
  · have e1 : (n == 2) = true := by simpa using h2
    try simp (disch := first | omega | (simp only [ints_length, List.length_replicate, List.length_set]; done) | (simp only [ints_length, List.length_replicate, List.length_set]; omega)) only [Sall,evalOp,init,binE,binI,unE,convE,okNil,builtE,gv,TD.isAgg,resV,↓reduceIte,Nat.reduceEqDiff,reduceCtorEq,Nat.reduceAdd,Nat.reduceMul,Nat.reduceLeDiff,quietOp,blindOp,Int.reduceEq,Int.reduceLT,Int.reduceLE,Nat.reduceLT,ti2,ti3,ti4,ti79,ti80,ti28,ti25,ti31,ti22,ti33,ti24,ti67,ti111,ti100, e1, is]
    rw [decide_eq_true (.inl h2)]
  · have e1 : (n == 2) = false := by simpa using h2
    by_cases h4 : n = 4
    · have e2 : (n == 4) = true := by simpa using h4
      try simp (disch := first | omega | (simp only [ints_length, List.length_replicate, List.length_set]; done) | (simp only [ints_length, List.length_replicate, List.length_set]; omega)) only [Sall,evalOp,init,binE,binI,unE,convE,okNil,builtE,gv,TD.isAgg,resV,↓reduceIte,Nat.reduceEqDiff,reduceCtorEq,Nat.reduceAdd,Nat.reduceMul,Nat.reduceLeDiff,quietOp,blindOp,Int.reduceEq,Int.reduceLT,Int.reduceLE,Nat.reduceLT,ti2,ti3,ti4,ti79,ti80,ti28,ti25,ti31,ti22,ti33,ti24,ti67,ti111,ti100, e1, e2, is]
      rw [decide_eq_true (.inr (.inl h4))]
    · have e2 : (n == 4) = false := by simpa using h4
      by_cases h8 : n = 8
      · have e3 : (n == 8) = true := by simpa using h8
        try simp (disch := first | omega | (simp only [ints_length, List.length_replicate, List.length_set]; done) | (simp only [ints_length, List.length_replicate, List.length_set]; omega)) only [Sall,evalOp,init,binE,binI,unE,convE,okNil,builtE,gv,TD.isAgg,resV,↓reduceIte,Nat.reduceEqDiff,reduceCtorEq,Nat.reduceAdd,Nat.reduceMul,Nat.reduceLeDiff,quietOp,blindOp,Int.reduceEq,Int.reduceLT,Int.reduceLE,Nat.reduceLT,ti2,ti3,ti4,ti79,ti80,ti28,ti25,ti31,ti22,ti33,ti24,ti67,ti111,ti100, e1, e2, e3, is]
        rw [decide_eq_true (.inr (.inr h8))]
      · have e3 : (n == 8) = false := by simpa using h8
        try simp (disch := first | omega | (simp only [ints_length, List.length_replicate, List.length_set]; done) | (simp only [ints_length, List.length_replicate, List.length_set]; omega)) only [Sall,evalOp,init,binE,binI,unE,convE,okNil,builtE,gv,TD.isAgg,resV,↓reduceIte,Nat.reduceEqDiff,reduceCtorEq,Nat.reduceAdd,Nat.reduceMul,Nat.reduceLeDiff,quietOp,blindOp,Int.reduceEq,Int.reduceLT,Int.reduceLE,Nat.reduceLT,ti2,ti3,ti4,ti79,ti80,ti28,ti25,ti31,ti22,ti33,ti24,ti67,ti111,ti100, e1, e2, e3, is]
        rw [decide_eq_false (by omega)]

theorem digitRobin_c (n : Nat) (v : Value) (y : List Int) (H : AH) (hn : n ≤ 14) (hv : Rd 1 H v y.length y) (hy : y.length ≤ 64) : ACalls Try.prog 105 [.int .i64 n, v] H (FrS n y.length (digL n y) H) := by
  refine ACalls.wf (by kernel_rfl) fun hs => acalls_of_awp [.cell 4 33] Try.func105 (by kernel_rfl) rfl rfl (Nat.le_of_ble_eq_true rfl) (by kernel_rfl) ?_
  try simp (disch := first | omega | (simp only [ints_length, List.length_replicate, List.length_set]; done) | (simp only [ints_length, List.length_replicate, List.length_set]; omega)) only [Sall,evalOp,init,binE,binI,unE,convE,okNil,builtE,gv,TD.isAgg,resV,↓reduceIte,Nat.reduceEqDiff,reduceCtorEq,Nat.reduceAdd,Nat.reduceMul,Nat.reduceLeDiff,quietOp,blindOp,Int.reduceEq,Int.reduceLT,Int.reduceLE,Nat.reduceLT,ti2,ti3,ti4,ti79,ti80,ti28,ti25,ti31,ti22,ti33,ti24,ti67,ti111,ti100, builtE, hv.len]
  refine awp_loop (fun m t H' => ∃ (c : Nat) (u : Value), m = y.length - c ∧ c ≤ y.length ∧ t 14 = .int .i64 c ∧ t 13 = .int .i64 y.length ∧ t 12 = v ∧ t 0 = .int .i64 n ∧ t 4 = .pointer (some ⟨H.next, 0, none⟩) ∧ t 5 = .pointer (some ⟨H.next + 1, 0, none⟩) ∧
    Up H.next H H' ∧ H.next + 2 ≤ H'.next ∧ H'.row H.next = some ⟨33, true, [.int .i64 0, .slice none 0 0]⟩ ∧ H'.row (H.next + 1) = some ⟨33, true, [.int .i64 n, u]⟩ ∧ Fr 14 80 (H.next + 2) H'.next H' u c (digL n (y.take c))) y.length ?_ ?_
  · refine ⟨0, .slice none 0 0, by omega, by omega, ?_⟩
    try simp (disch := first | omega | (simp only [ints_length, List.length_replicate, List.length_set]; done) | (simp only [ints_length, List.length_replicate, List.length_set]; omega)) only [Sall,evalOp,init,binE,binI,unE,convE,okNil,builtE,gv,TD.isAgg,resV,↓reduceIte,Nat.reduceEqDiff,reduceCtorEq,Nat.reduceAdd,Nat.reduceMul,Nat.reduceLeDiff,quietOp,blindOp,Int.reduceEq,Int.reduceLT,Int.reduceLE,Nat.reduceLT,ti2,ti3,ti4,ti79,ti80,ti28,ti25,ti31,ti22,ti33,ti24,ti67,ti111,ti100, Int.natCast_zero, List.take_zero]
    exact ⟨(((Up.refl _ H).push (by omega) _).push (Nat.le_succ _) _).set (by omega) _, by simp [digL], .inl ⟨rfl, rfl⟩⟩
  · rintro m t H' ⟨c, u, hm, hcn, h14, h13, h12, h0, h4, h5, hup, hnx, hr0, hr1, hfr⟩
    try simp (disch := first | omega | (simp only [ints_length, List.length_replicate, List.length_set]; done) | (simp only [ints_length, List.length_replicate, List.length_set]; omega)) only [Sall,evalOp,init,binE,binI,unE,convE,okNil,builtE,gv,TD.isAgg,resV,↓reduceIte,Nat.reduceEqDiff,reduceCtorEq,Nat.reduceAdd,Nat.reduceMul,Nat.reduceLeDiff,quietOp,blindOp,Int.reduceEq,Int.reduceLT,Int.reduceLE,Nat.reduceLT,ti2,ti3,ti4,ti79,ti80,ti28,ti25,ti31,ti22,ti33,ti24,ti67,ti111,ti100, h14, h13]
    refine condC_dec (fun h => ?_) (fun h => ?_)
    · obtain ⟨i, o, uu, cc, r, rfl, hr, hc', hg, _⟩ := hv.get (by omega)
      have hi := hs _ _ hr
      have hr' : H'.row i = some r := by rw [hup.row _ hi, hr]
      have g1 := hg c (by omega)
      have htk : y.take (c + 1) = y.take c ++ [y.getD c 0] := by rw [List.take_add_one, List.getElem?_eq_getElem (by omega), List.getD_eq_getElem?_getD, List.getElem?_eq_getElem (by omega)]; rfl
      revert g1 htk
      generalize y.getD c 0 = x
      intro g1 htk
      have hz14 : (List.replicate 14 (0 : Int)).length = 14 := by simp
      try simp (disch := first | omega | (simp only [ints_length, List.length_replicate, List.length_set]; done) | (simp only [ints_length, List.length_replicate, List.length_set]; omega)) only [Sall,evalOp,init,binE,binI,unE,convE,okNil,builtE,gv,TD.isAgg,resV,↓reduceIte,Nat.reduceEqDiff,reduceCtorEq,Nat.reduceAdd,Nat.reduceMul,Nat.reduceLeDiff,quietOp,blindOp,Int.reduceEq,Int.reduceLT,Int.reduceLE,Nat.reduceLT,ti2,ti3,ti4,ti79,ti80,ti28,ti25,ti31,ti22,ti33,ti24,ti67,ti111,ti100, h14, h12, h0, hr', g1, push_setCells, hz14]
      (repeat refine And.intro (by omega) ?_)
      obtain ⟨H2, e2⟩ : ∃ H2, H2 = H'.push ⟨80, true, ints (List.replicate 14 0)⟩ := ⟨_, rfl⟩
      have n2 : H2.next = H'.next + 1 := by rw [e2]; rfl
      have s2 : ∀ i, i < H'.next → H2.row i = H'.row i := fun i hi => by rw [e2, AH.push_row, if_neg (by omega)]
      have r2 : H2.row H'.next = some ⟨80, true, ints (List.replicate 14 0)⟩ := by rw [e2, AH.push_row, if_pos rfl]
      rw [← e2]
      clear e2
      refine awp_loop (fun z t H3 => ∃ d : Nat, z = n - d ∧ d ≤ n ∧ t 20 = .int .i64 d ∧ t 19 = .int .i64 n ∧ t 7 = .int .i64 x ∧ t 8 = .pointer (some ⟨H'.next, 0, none⟩) ∧ t 14 = .int .i64 c ∧ t 13 = .int .i64 y.length ∧ t 12 = .slice (some ⟨i, o, uu⟩) y.length cc ∧ t 0 = .int .i64 n ∧ t 4 = .pointer (some ⟨H.next, 0, none⟩) ∧ t 5 = .pointer (some ⟨H.next + 1, 0, none⟩) ∧
        H3.next = H'.next + 1 ∧ (∀ i, i < H'.next → H3.row i = H'.row i) ∧ H3.row H'.next = some ⟨80, true, ints (digS x d)⟩) n ?_ ?_
      · refine ⟨0, by omega, by omega, ?_⟩
        try simp (disch := first | omega | (simp only [ints_length, List.length_replicate, List.length_set]; done) | (simp only [ints_length, List.length_replicate, List.length_set]; omega)) only [Sall,evalOp,init,binE,binI,unE,convE,okNil,builtE,gv,TD.isAgg,resV,↓reduceIte,Nat.reduceEqDiff,reduceCtorEq,Nat.reduceAdd,Nat.reduceMul,Nat.reduceLeDiff,quietOp,blindOp,Int.reduceEq,Int.reduceLT,Int.reduceLE,Nat.reduceLT,ti2,ti3,ti4,ti79,ti80,ti28,ti25,ti31,ti22,ti33,ti24,ti67,ti111,ti100, Int.natCast_zero, h14, h13, h12, h0, h4, h5, digS_zero]
        exact ⟨n2, s2, r2⟩
      · rintro z t H3 ⟨d, hz, hdn, h20, h19, h7, h8, h14, h13, h12, h0, h4, h5, n3, s3, r3⟩
        try simp (disch := first | omega | (simp only [ints_length, List.length_replicate, List.length_set]; done) | (simp only [ints_length, List.length_replicate, List.length_set]; omega)) only [Sall,evalOp,init,binE,binI,unE,convE,okNil,builtE,gv,TD.isAgg,resV,↓reduceIte,Nat.reduceEqDiff,reduceCtorEq,Nat.reduceAdd,Nat.reduceMul,Nat.reduceLeDiff,quietOp,blindOp,Int.reduceEq,Int.reduceLT,Int.reduceLE,Nat.reduceLT,ti2,ti3,ti4,ti79,ti80,ti28,ti25,ti31,ti22,ti33,ti24,ti67,ti111,ti100, h20, h19]
        refine condC_dec (fun hh => ?_) (fun hh => ?_)
        · have hdl := digS_length x d
          have hds := digS_succ x d (by omega)
          have hx0 : IntKind.i64.wrap ((BitVec.ofInt IntKind.i64.bits (d : Int) ^^^ BitVec.ofInt IntKind.i64.bits x).toNat : Int) = xorI d x := rfl
          try simp (disch := first | omega | (simp only [ints_length, List.length_replicate, List.length_set]; done) | (simp only [ints_length, List.length_replicate, List.length_set]; omega)) only [Sall,evalOp,init,binE,binI,unE,convE,okNil,builtE,gv,TD.isAgg,resV,↓reduceIte,Nat.reduceEqDiff,reduceCtorEq,Nat.reduceAdd,Nat.reduceMul,Nat.reduceLeDiff,quietOp,blindOp,Int.reduceEq,Int.reduceLT,Int.reduceLE,Nat.reduceLT,ti2,ti3,ti4,ti79,ti80,ti28,ti25,ti31,ti22,ti33,ti24,ti67,ti111,ti100, h20, h19, h7, h8, h14, h13, h12, h0, h4, h5, r3, w64, hx0, ints_set, hds]
          (repeat refine And.intro (by omega) ?_)
          refine ⟨n - (d + 1), by omega, d + 1, rfl, by omega, rfl, n3, fun j hj => by rw [if_neg (by omega)]; exact s3 j hj, rfl⟩
        · have hd : d = n := by omega
          subst hd
          have hcl := digS_length x d
          have g1 : H3.row (H.next + 1) = some ⟨33, true, [.int .i64 d, u]⟩ := by rw [s3 _ (by omega), hr1]
          have gf : Fr 14 80 (H.next + 2) H'.next H3 u c (digL d (y.take c)) := hfr.same fun i _ hi => s3 i hi
          have ne1 : ¬ (H.next + 1 = H'.next) := by omega
          have ne1' : ¬ (H.next + 1 = H'.next + 1) := by omega
          try simp (disch := first | omega | (simp only [ints_length, List.length_replicate, List.length_set]; done) | (simp only [ints_length, List.length_replicate, List.length_set]; omega)) only [Sall,evalOp,init,binE,binI,unE,convE,okNil,builtE,gv,TD.isAgg,resV,↓reduceIte,Nat.reduceEqDiff,reduceCtorEq,Nat.reduceAdd,Nat.reduceMul,Nat.reduceLeDiff,quietOp,blindOp,Int.reduceEq,Int.reduceLT,Int.reduceLE,Nat.reduceLT,ti2,ti3,ti4,ti79,ti80,ti28,ti25,ti31,ti22,ti33,ti24,ti67,ti111,ti100, h5, h8, g1, r3, n3, hcl, slCells, zeros_one, ne_eq, reduceCtorEq, ne1, ne1']
          have h3f : Fr 14 80 (H.next + 2) H'.next (H3.push ⟨80, true, ints (digS x d)⟩) u c (digL d (y.take c)) := gf.same fun i _ hi => by rw [AH.push_row, if_neg (by omega)]
          refine appE_fr h3f rfl (by omega) (by rw [hcl]) (by omega) (by decide) (by omega) (by rw [AH.push_next]; omega) ?_
          intro v' H4 k1 k2 k3
          rw [AH.push_next] at k1 k2 k3
          have k4 : H4.row (H.next + 1) = some ⟨33, true, [.int .i64 d, u]⟩ := by rw [k2 _ (by omega) (by omega), AH.push_row, if_neg (by omega), g1]
          have k5 := k3.rd.one
          try simp (disch := first | omega | (simp only [ints_length, List.length_replicate, List.length_set]; done) | (simp only [ints_length, List.length_replicate, List.length_set]; omega)) only [Sall,evalOp,init,binE,binI,unE,convE,okNil,builtE,gv,TD.isAgg,resV,↓reduceIte,Nat.reduceEqDiff,reduceCtorEq,Nat.reduceAdd,Nat.reduceMul,Nat.reduceLeDiff,quietOp,blindOp,Int.reduceEq,Int.reduceLT,Int.reduceLE,Nat.reduceLT,ti2,ti3,ti4,ti79,ti80,ti28,ti25,ti31,ti22,ti33,ti24,ti67,ti111,ti100, h14, h13, h12, h0, h4, h5, k4, k5, w64, List.set_cons_succ, List.set_cons_zero]
          refine ⟨y.length - (c + 1), by omega, c + 1, v', rfl, by omega, rfl, ?_, by omega, ?_, ?_⟩
          · refine Up.set ⟨by have := hup.next; omega, fun i hi => ?_⟩ (by omega) _
            rw [k2 i (by omega) (by omega), AH.push_row, if_neg (by omega), s3 i (by omega), hup.row i hi]
          · rw [k2 _ (by omega) (by omega), AH.push_row, if_neg (by omega), s3 _ (by omega), hr0]
          · rw [htk, digL_snoc]
            refine ⟨rfl, (Fr.wide k3 (lo' := H.next + 2) (hi' := H4.next) (by omega) (by omega)).same ?_⟩
            intro i hi _
            rw [AH.setCells_row, if_neg (by omega)]
    · have hc : c = y.length := by omega
      subst hc
      rw [List.take_length] at hfr
      have hne : ¬ (H.next + 1 = H.next) := by omega
      try simp (disch := first | omega | (simp only [ints_length, List.length_replicate, List.length_set]; done) | (simp only [ints_length, List.length_replicate, List.length_set]; omega)) only [Sall,evalOp,init,binE,binI,unE,convE,okNil,builtE,gv,TD.isAgg,resV,↓reduceIte,Nat.reduceEqDiff,reduceCtorEq,Nat.reduceAdd,Nat.reduceMul,Nat.reduceLeDiff,quietOp,blindOp,Int.reduceEq,Int.reduceLT,Int.reduceLE,Nat.reduceLT,ti2,ti3,ti4,ti79,ti80,ti28,ti25,ti31,ti22,ti33,ti24,ti67,ti111,ti100, h4, h5, hr0, hr1]
      refine ⟨u, rfl, hup.set (Nat.le_refl _) _, ?_⟩
      exact (Fr.wide (hfr.same (H' := H'.setCells H.next [.int .i64 n, u]) fun i hi _ => by rw [AH.setCells_row, if_neg (by omega)]) (by omega) (by rw [AH.setCells_next]; omega))
theorem l09Robin_c (n : Nat) (v : Value) (y : List Int) (H : AH) (hn : n ≤ 14) (hv : Rd 1 H v y.length y) (hy : y.length ≤ 64) : ACalls Try.prog 100 [.int .i64 n, v] H (FrS n y.length (digL n y) H) := by
  refine ACalls.wf (by kernel_rfl) fun hs => acalls_of_awp [.cell 4 33] Try.func100 (by kernel_rfl) rfl rfl (Nat.le_of_ble_eq_true rfl) (by kernel_rfl) ?_
  try simp (disch := first | omega | (simp only [ints_length, List.length_replicate, List.length_set]; done) | (simp only [ints_length, List.length_replicate, List.length_set]; omega)) only [Sall,evalOp,init,binE,binI,unE,convE,okNil,builtE,gv,TD.isAgg,resV,↓reduceIte,Nat.reduceEqDiff,reduceCtorEq,Nat.reduceAdd,Nat.reduceMul,Nat.reduceLeDiff,quietOp,blindOp,Int.reduceEq,Int.reduceLT,Int.reduceLE,Nat.reduceLT,ti2,ti3,ti4,ti79,ti80,ti28,ti25,ti31,ti22,ti33,ti24,ti67,ti111,ti100, zeros_zero]
  refine awp_loop (fun m t H' => ∃ (c : Nat) (u : Value) (lo hi : Nat), m = y.length - c ∧ c ≤ y.length ∧ t 6 = .int .i64 c ∧ t 1 = v ∧ t 0 = .int .i64 n ∧ t 4 = .pointer (some ⟨H.next, 0, none⟩) ∧ t 5 = .pointer (some ⟨H.next + 2, 0, none⟩) ∧
    Up H.next H H' ∧ H'.row H.next = some ⟨33, true, [.int .i64 0, .slice none 0 0]⟩ ∧ H'.row (H.next + 2) = some ⟨33, true, [.int .i64 n, u]⟩ ∧ Fr 14 80 lo hi H' u c (digL n (y.take c)) ∧ H.next < lo ∧ hi ≤ H'.next ∧ (hi ≤ H.next + 2 ∨ H.next + 2 < lo) ∧ H.next + 3 ≤ H'.next) y.length ?_ ?_
  · refine ⟨0, .slice (some ⟨H.next + 1, 0, some 14⟩) 0 0, H.next + 1, H.next + 2, by omega, by omega, ?_⟩
    try simp (disch := first | omega | (simp only [ints_length, List.length_replicate, List.length_set]; done) | (simp only [ints_length, List.length_replicate, List.length_set]; omega)) only [Sall,evalOp,init,binE,binI,unE,convE,okNil,builtE,gv,TD.isAgg,resV,↓reduceIte,Nat.reduceEqDiff,reduceCtorEq,Nat.reduceAdd,Nat.reduceMul,Nat.reduceLeDiff,quietOp,blindOp,Int.reduceEq,Int.reduceLT,Int.reduceLE,Nat.reduceLT,ti2,ti3,ti4,ti79,ti80,ti28,ti25,ti31,ti22,ti33,ti24,ti67,ti111,ti100, Int.natCast_zero, List.take_zero]
    exact ⟨((((Up.refl _ H).push (by omega) _).push (Nat.le_succ _) _).push (Nat.le_succ_of_le (Nat.le_succ _)) _).set (by omega) _, ⟨by simp [digL], .inr ⟨H.next + 1, by omega, by omega, rfl, by simp [AH.push_row, AH.setCells_row, AH.push_next, digL, ints]⟩⟩, by omega, by omega⟩
  · rintro m t H' ⟨c, u, lo, hi9, hm, hcn, h6, h1, h0, h4, h5, hup, hr0, hr1, hfr, hlo, hhi, hdj, hnx⟩
    try simp (disch := first | omega | (simp only [ints_length, List.length_replicate, List.length_set]; done) | (simp only [ints_length, List.length_replicate, List.length_set]; omega)) only [Sall,evalOp,init,binE,binI,unE,convE,okNil,builtE,gv,TD.isAgg,resV,↓reduceIte,Nat.reduceEqDiff,reduceCtorEq,Nat.reduceAdd,Nat.reduceMul,Nat.reduceLeDiff,quietOp,blindOp,Int.reduceEq,Int.reduceLT,Int.reduceLE,Nat.reduceLT,ti2,ti3,ti4,ti79,ti80,ti28,ti25,ti31,ti22,ti33,ti24,ti67,ti111,ti100, h6, h1, builtE, hv.len]
    refine condC_dec (fun h => ?_) (fun h => ?_)
    · obtain ⟨i, o, uu, cc, r, rfl, hr, hc', hg, _⟩ := hv.get (by omega)
      have hi := hs _ _ hr
      have hr' : H'.row i = some r := by rw [hup.row _ hi, hr]
      have g1 := hg c (by omega)
      have htk : y.take (c + 1) = y.take c ++ [y.getD c 0] := by rw [List.take_add_one, List.getElem?_eq_getElem (by omega), List.getD_eq_getElem?_getD, List.getElem?_eq_getElem (by omega)]; rfl
      revert g1 htk
      generalize y.getD c 0 = x
      intro g1 htk
      have hz14 : (List.replicate 14 (0 : Int)).length = 14 := by simp
      try simp (disch := first | omega | (simp only [ints_length, List.length_replicate, List.length_set]; done) | (simp only [ints_length, List.length_replicate, List.length_set]; omega)) only [Sall,evalOp,init,binE,binI,unE,convE,okNil,builtE,gv,TD.isAgg,resV,↓reduceIte,Nat.reduceEqDiff,reduceCtorEq,Nat.reduceAdd,Nat.reduceMul,Nat.reduceLeDiff,quietOp,blindOp,Int.reduceEq,Int.reduceLT,Int.reduceLE,Nat.reduceLT,ti2,ti3,ti4,ti79,ti80,ti28,ti25,ti31,ti22,ti33,ti24,ti67,ti111,ti100, h6, h1, h0, push_setCells, hz14]
      obtain ⟨H2, e2⟩ : ∃ H2, H2 = H'.push ⟨80, true, ints (List.replicate 14 0)⟩ := ⟨_, rfl⟩
      have n2 : H2.next = H'.next + 1 := by rw [e2]; rfl
      have s2 : ∀ i, i < H'.next → H2.row i = H'.row i := fun i hi => by rw [e2, AH.push_row, if_neg (by omega)]
      have r2 : H2.row H'.next = some ⟨80, true, ints (List.replicate 14 0)⟩ := by rw [e2, AH.push_row, if_pos rfl]
      rw [← e2]
      clear e2
      refine awp_loop (fun z t H3 => ∃ d : Nat, z = n - d ∧ d ≤ n ∧ t 8 = .int .i64 d ∧ t 7 = .pointer (some ⟨H'.next, 0, none⟩) ∧ t 6 = .int .i64 c ∧ t 1 = .slice (some ⟨i, o, uu⟩) y.length cc ∧ t 0 = .int .i64 n ∧ t 4 = .pointer (some ⟨H.next, 0, none⟩) ∧ t 5 = .pointer (some ⟨H.next + 2, 0, none⟩) ∧
        H3.next = H'.next + 1 ∧ (∀ i, i < H'.next → H3.row i = H'.row i) ∧ H3.row H'.next = some ⟨80, true, ints (digS x d)⟩) n ?_ ?_
      · refine ⟨0, by omega, by omega, ?_⟩
        try simp (disch := first | omega | (simp only [ints_length, List.length_replicate, List.length_set]; done) | (simp only [ints_length, List.length_replicate, List.length_set]; omega)) only [Sall,evalOp,init,binE,binI,unE,convE,okNil,builtE,gv,TD.isAgg,resV,↓reduceIte,Nat.reduceEqDiff,reduceCtorEq,Nat.reduceAdd,Nat.reduceMul,Nat.reduceLeDiff,quietOp,blindOp,Int.reduceEq,Int.reduceLT,Int.reduceLE,Nat.reduceLT,ti2,ti3,ti4,ti79,ti80,ti28,ti25,ti31,ti22,ti33,ti24,ti67,ti111,ti100, Int.natCast_zero, h6, h1, h0, h4, h5, digS_zero]
        exact ⟨n2, s2, r2⟩
      · rintro z t H3 ⟨d, hz, hdn, h8, h7, h6, h1, h0, h4, h5, n3, s3, r3⟩
        try simp (disch := first | omega | (simp only [ints_length, List.length_replicate, List.length_set]; done) | (simp only [ints_length, List.length_replicate, List.length_set]; omega)) only [Sall,evalOp,init,binE,binI,unE,convE,okNil,builtE,gv,TD.isAgg,resV,↓reduceIte,Nat.reduceEqDiff,reduceCtorEq,Nat.reduceAdd,Nat.reduceMul,Nat.reduceLeDiff,quietOp,blindOp,Int.reduceEq,Int.reduceLT,Int.reduceLE,Nat.reduceLT,ti2,ti3,ti4,ti79,ti80,ti28,ti25,ti31,ti22,ti33,ti24,ti67,ti111,ti100, h8, h0]
        refine condC_dec (fun hh => ?_) (fun hh => ?_)
        · have hdl := digS_length x d
          have hds := digS_succ x d (by omega)
          have hx0 : IntKind.i64.wrap ((BitVec.ofInt IntKind.i64.bits (d : Int) ^^^ BitVec.ofInt IntKind.i64.bits x).toNat : Int) = xorI d x := rfl
          have hr3 : H3.row i = some r := by rw [s3 _ (by have := hup.next; omega), hr']
          try simp (disch := first | omega | (simp only [ints_length, List.length_replicate, List.length_set]; done) | (simp only [ints_length, List.length_replicate, List.length_set]; omega)) only [Sall,evalOp,init,binE,binI,unE,convE,okNil,builtE,gv,TD.isAgg,resV,↓reduceIte,Nat.reduceEqDiff,reduceCtorEq,Nat.reduceAdd,Nat.reduceMul,Nat.reduceLeDiff,quietOp,blindOp,Int.reduceEq,Int.reduceLT,Int.reduceLE,Nat.reduceLT,ti2,ti3,ti4,ti79,ti80,ti28,ti25,ti31,ti22,ti33,ti24,ti67,ti111,ti100, h8, h7, h6, h1, h0, h4, h5, r3, hr3, g1, w64, hx0, ints_set, hds]
          (repeat refine And.intro (by omega) ?_)
          refine ⟨n - (d + 1), by omega, d + 1, rfl, by omega, rfl, n3, fun j hj => by rw [if_neg (by omega)]; exact s3 j hj, rfl⟩
        · have hd : d = n := by omega
          subst hd
          have hcl := digS_length x d
          have g1 : H3.row (H.next + 2) = some ⟨33, true, [.int .i64 d, u]⟩ := by rw [s3 _ (by omega), hr1]
          have gf : Fr 14 80 lo hi9 H3 u c (digL d (y.take c)) := hfr.same fun i _ hi => s3 i (by omega)
          have ne1 : ¬ (H.next + 2 = H'.next) := by omega
          have ne1' : ¬ (H.next + 2 = H'.next + 1) := by omega
          try simp (disch := first | omega | (simp only [ints_length, List.length_replicate, List.length_set]; done) | (simp only [ints_length, List.length_replicate, List.length_set]; omega)) only [Sall,evalOp,init,binE,binI,unE,convE,okNil,builtE,gv,TD.isAgg,resV,↓reduceIte,Nat.reduceEqDiff,reduceCtorEq,Nat.reduceAdd,Nat.reduceMul,Nat.reduceLeDiff,quietOp,blindOp,Int.reduceEq,Int.reduceLT,Int.reduceLE,Nat.reduceLT,ti2,ti3,ti4,ti79,ti80,ti28,ti25,ti31,ti22,ti33,ti24,ti67,ti111,ti100, h5, h7, g1, r3, n3, hcl, slCells, zeros_one, ne_eq, reduceCtorEq, ne1, ne1']
          have h3f : Fr 14 80 lo hi9 (H3.push ⟨80, true, ints (digS x d)⟩) u c (digL d (y.take c)) := gf.same fun i _ hi => by rw [AH.push_row, if_neg (by omega)]
          refine appE_fr h3f rfl (by omega) (by rw [hcl]) (by omega) (by decide) (by omega) (by rw [AH.push_next]; omega) ?_
          intro v' H4 k1 k2 k3
          rw [AH.push_next] at k1 k2 k3
          have k4 : H4.row (H.next + 2) = some ⟨33, true, [.int .i64 d, u]⟩ := by rw [k2 _ (by omega) (by omega), AH.push_row, if_neg (by omega), g1]
          have k5 := k3.rd.one
          try simp (disch := first | omega | (simp only [ints_length, List.length_replicate, List.length_set]; done) | (simp only [ints_length, List.length_replicate, List.length_set]; omega)) only [Sall,evalOp,init,binE,binI,unE,convE,okNil,builtE,gv,TD.isAgg,resV,↓reduceIte,Nat.reduceEqDiff,reduceCtorEq,Nat.reduceAdd,Nat.reduceMul,Nat.reduceLeDiff,quietOp,blindOp,Int.reduceEq,Int.reduceLT,Int.reduceLE,Nat.reduceLT,ti2,ti3,ti4,ti79,ti80,ti28,ti25,ti31,ti22,ti33,ti24,ti67,ti111,ti100, h6, h1, h0, h4, h5, k4, k5, w64, List.set_cons_succ, List.set_cons_zero]
          refine ⟨y.length - (c + 1), by omega, c + 1, v', H3.next + 1, H3.next + 2, rfl, by omega, rfl, ?_, ?_, rfl, ?_, by omega, by omega, .inr (by omega), by omega⟩
          · refine Up.set ⟨by have := hup.next; omega, fun i hi => ?_⟩ (by omega) _
            rw [k2 i (by omega) (by omega), AH.push_row, if_neg (by omega), s3 i (by omega), hup.row i hi]
          · rw [k2 _ (by omega) (by omega), AH.push_row, if_neg (by omega), s3 _ (by omega), hr0]
          · rw [htk, digL_snoc]
            refine Fr.same k3 ?_
            intro i hi _
            rw [AH.setCells_row, if_neg (by omega)]
    · have hc : c = y.length := by omega
      subst hc
      rw [List.take_length] at hfr
      try simp (disch := first | omega | (simp only [ints_length, List.length_replicate, List.length_set]; done) | (simp only [ints_length, List.length_replicate, List.length_set]; omega)) only [Sall,evalOp,init,binE,binI,unE,convE,okNil,builtE,gv,TD.isAgg,resV,↓reduceIte,Nat.reduceEqDiff,reduceCtorEq,Nat.reduceAdd,Nat.reduceMul,Nat.reduceLeDiff,quietOp,blindOp,Int.reduceEq,Int.reduceLT,Int.reduceLE,Nat.reduceLT,ti2,ti3,ti4,ti79,ti80,ti28,ti25,ti31,ti22,ti33,ti24,ti67,ti111,ti100, h4, h5, hr0, hr1]
      refine ⟨u, rfl, hup.set (Nat.le_refl _) _, ?_⟩
      exact (Fr.wide (hfr.same (H' := H'.setCells H.next [.int .i64 n, u]) fun i hi _ => by rw [AH.setCells_row, if_neg (by omega)]) (by omega) (by rw [AH.setCells_next]; omega))
end Go.Proofs.Ytbmpkihggipciaa.A
