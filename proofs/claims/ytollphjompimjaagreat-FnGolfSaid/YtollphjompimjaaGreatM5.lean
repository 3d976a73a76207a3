/- Contracts: the reference's search for next rounds. And what follows. -/
import Derived.Test.YtollphjompimjaaGreatM4
import Derived.Shelf.SlicesG.CompactI
import Derived.Sort.OwnSortedInts
set_option linter.unusedSimpArgs false
set_option linter.unusedVariables false
section
set_option maxRecDepth 100000
set_option maxHeartbeats 2000000
namespace Go.Proofs.YtollphjompimjaaGreat.A
open Go Go.Abs Go.RowKit
theorem les_low {B Ha Hb : AH} {L M : List Th} (oa : Ow B Ha L) (ob : Ow B Hb M) (h : Ha.next ≤ Hb.next) : LES (fun j => j < B.next) Ha Hb := ⟨h, fun i r hi hr => by rw [ob.low i hi, ← oa.low i hi]; exact hr⟩
theorem l08Next_c (n g c : Nat) (hg : 2 ≤ g) (hn : n = g * c) (hn16 : n ≤ 16) (v mv : Value) (hone : v.oneCell' = true) (M : List (List Int)) (hM : SqM n M) : ∀ (f : Nat) (P : List Int) (pv : Value) (most : Nat) (H : AH), P.length + f = n → PreN n g P → 1 ≤ most → most ≤ 1048576 → Rd2 1 H mv M → Cp H pv P → Rs 1 H pv P.length P →
    ACalls Tryz.prog 34 [.agg #[.int .i64 n, .int .i64 g, v], mv, pv, .int .i64 most] H (fun u H' => ∃ ws, Ow H H' [.sl 1 28 u ws.length ws, .see (fun H2 => Rs 1 H2 pv P.length P → RowsC ws ((nxT n g M f P).take most) H2)]) := by
  intro f
  induction f with
  | zero =>
    intro P pv most H hPf hP hm1 hm2 hmv hcp hrs
    refine ACalls.wf (by kernel_rfl) fun hs => acalls_of_awp [.tmp 8] Tryz.func34 (by kernel_rfl) rfl rfl (Nat.le_of_ble_eq_true rfl) (by kernel_rfl) ?_
    have hpo := hrs.rd.one
    have hpl := hrs.rd.len
    have hmo := hmv.one
    have e0 : ((P.length : Int) == (n : Int)) = true := by rw [show (P.length : Int) = (n : Int) by omega]; exact beq_self_eq_true _
    have zz : zeros 1 [.slice none 0 0] = [.slice none 0 0] := rfl
    have hq1 := cells_of_one hpo
    have hq2 := noTuple_of_one hpo
    have hq3 := fun r => ok_one (r := r) hpo
    try simp (disch := first | omega | (simp only [ints_length, List.length_replicate, List.length_set, bools_length, metL_length] <;> omega)) only [Sall,evalOp,init,binA_s,binE,binI,unE,convE,okNil,builtE,gv,TD.isAgg,resV,↓reduceIte,Nat.reduceEqDiff,reduceCtorEq,Nat.reduceAdd,Nat.reduceMul,Nat.reduceLeDiff,quietOp,blindOp,Int.reduceEq,Int.reduceLT,Int.reduceLE,Nat.reduceLT,tiA,tiXA, hone, hpo, hmo, builtE, hpl, e0, zz, hq1, hq2, hq3, slCells, w64]
    (repeat refine And.intro (by omega) ?_)
    have o2 := ((Ow.refl hs).tmp ⟨26, true, [.int .i64 n, .int .i64 g, v]⟩).pushSl (k := 1) (n := 1) (ty := 28) (vs := [pv]) rfl
    have o3 := o2.addSee (Q := fun H2 => Rs 1 H2 pv P.length P → RowsC [pv] [P] H2) fun H2 h2 => (RowsC.nil H2).snoc h2
    have et : (nxT n g M 0 P).take most = [P] := by
      show ([P] : List (List Int)).take most = [P]
      exact List.take_of_length_le (by simpa using hm1)
    rw [et]
    exact ⟨[pv], o3⟩
  | succ f ih =>
    intro P pv most H hPf hP hm1 hm2 hmv hcp hrs
    refine ACalls.wf (by kernel_rfl) fun hs => acalls_of_awp [.tmp 8] Tryz.func34 (by kernel_rfl) rfl rfl (Nat.le_of_ble_eq_true rfl) (by kernel_rfl) ?_
    have hpo := hrs.rd.one
    have hpl := hrs.rd.len
    have hmo := hmv.one
    have e0 : ((P.length : Int) == (n : Int)) = false := beq_eq_false_iff_ne.2 (by omega)
    try simp (disch := first | omega | (simp only [ints_length, List.length_replicate, List.length_set, bools_length, metL_length] <;> omega)) only [Sall,evalOp,init,binA_s,binE,binI,unE,convE,okNil,builtE,gv,TD.isAgg,resV,↓reduceIte,Nat.reduceEqDiff,reduceCtorEq,Nat.reduceAdd,Nat.reduceMul,Nat.reduceLeDiff,quietOp,blindOp,Int.reduceEq,Int.reduceLT,Int.reduceLE,Nat.reduceLT,tiA,tiXA, hone, hpo, hmo, builtE, hpl, e0, w64]
    (repeat refine And.intro (by omega) ?_)
    have o1 := ((Ow.refl hs).push ⟨26, true, [.int .i64 n, .int .i64 g, v]⟩).pushSl (k := 1) (n := n) (ty := 4) (vs := bools (metL n [])) (by rw [bools_length, metL_length]; omega)
    obtain ⟨bi, ebi⟩ : ∃ bi, bi = H.next := ⟨_, rfl⟩
    have o1 : Ow H ((H.push ⟨26, true, [.int .i64 n, .int .i64 g, v]⟩).push ⟨4, true, bools (metL n [])⟩) [.row H.next ⟨26, true, [.int .i64 n, .int .i64 g, v]⟩, .sl 1 4 (.slice (some ⟨H.next + 1, 0, some 1⟩) n n) n (bools (metL n []))] := o1
    rw [← ebi] at o1 ⊢
    obtain ⟨mi, emi⟩ : ∃ mi, mi = bi + 1 := ⟨_, rfl⟩
    rw [← emi] at o1 ⊢
    refine awp_loop (fun m t H' => ∃ i : Nat, m = P.length - i ∧ i ≤ P.length ∧ t 11 = .int .i64 i ∧ t 9 = .int .i64 P.length ∧ t 10 = .slice (some ⟨mi, 0, some 1⟩) n n ∧ t 1 = mv ∧ t 2 = pv ∧ t 3 = .int .i64 most ∧ t 4 = .pointer (some ⟨bi, 0, none⟩) ∧ Ow H H' [.row bi ⟨26, true, [.int .i64 n, .int .i64 g, v]⟩, .sl 1 4 (.slice (some ⟨mi, 0, some 1⟩) n n) n (bools (metL n (P.take i)))]) P.length ?_ ?_
    · refine ⟨0, by omega, by omega, ?_⟩
      try simp (disch := first | omega | (simp only [ints_length, List.length_replicate, List.length_set, bools_length, metL_length] <;> omega)) only [Sall,evalOp,init,binA_s,binE,binI,unE,convE,okNil,builtE,gv,TD.isAgg,resV,↓reduceIte,Nat.reduceEqDiff,reduceCtorEq,Nat.reduceAdd,Nat.reduceMul,Nat.reduceLeDiff,quietOp,blindOp,Int.reduceEq,Int.reduceLT,Int.reduceLE,Nat.reduceLT,tiA,tiXA, Int.natCast_zero, zeros_bools, ← metL_nil]
      exact o1
    · rintro m t H1 ⟨i, hm, hi, h11, h9, h10, h1, h2, h3, h4, o2⟩
      try simp (disch := first | omega | (simp only [ints_length, List.length_replicate, List.length_set, bools_length, metL_length] <;> omega)) only [Sall,evalOp,init,binA_s,binE,binI,unE,convE,okNil,builtE,gv,TD.isAgg,resV,↓reduceIte,Nat.reduceEqDiff,reduceCtorEq,Nat.reduceAdd,Nat.reduceMul,Nat.reduceLeDiff,quietOp,blindOp,Int.reduceEq,Int.reduceLT,Int.reduceLE,Nat.reduceLT,tiA,tiXA, h11, h9]
      refine condC_dec (fun hh => ?_) (fun hh => ?_)
      · obtain ⟨pi, po, pu, pc, pr, ep, p1, p2, p3, _⟩ := (hrs.rd.same (o2.old hs)).get (by omega)
        have hxr := hP.rng _ (getD_memI (l := P) (i := i) (by omega))
        obtain ⟨x, ex⟩ : ∃ x : Nat, P.getD i 0 = x := ⟨(P.getD i 0).toNat, by omega⟩
        have p4 := p3 i (by omega)
        rw [ex] at p4 hxr
        have hbi := (o2.getV 1 rfl).2.2
        have hml : (metL n (P.take i)).length = n := metL_length _ _
        have g3 := metL_put n (P.take i) (x : Int) (by omega)
        rw [Int.toNat_natCast] at g3
        have hput := o2.put 1 rfl (vs' := bools (metL n (P.take i ++ [(x : Int)]))) (by rw [bools_length, bools_length, metL_length, metL_length])
        have et : P.take (i + 1) = P.take i ++ [(x : Int)] := by
          rw [List.take_add_one, List.getElem?_eq_getElem (by omega), ← ex, List.getD_eq_getElem?_getD, List.getElem?_eq_getElem (by omega)]; rfl
        subst ep
        try simp (disch := first | omega | (simp only [ints_length, List.length_replicate, List.length_set, bools_length, metL_length] <;> omega)) only [Sall,evalOp,init,binA_s,binE,binI,unE,convE,okNil,builtE,gv,TD.isAgg,resV,↓reduceIte,Nat.reduceEqDiff,reduceCtorEq,Nat.reduceAdd,Nat.reduceMul,Nat.reduceLeDiff,quietOp,blindOp,Int.reduceEq,Int.reduceLT,Int.reduceLE,Nat.reduceLT,tiA,tiXA, h11, h9, h10, h1, h2, h3, h4, p1, p4, hbi, g3]
        (repeat refine And.intro (by omega) ?_)
        try simp (disch := first | omega | (simp only [ints_length, List.length_replicate, List.length_set, bools_length, metL_length] <;> omega)) only [Sall,evalOp,init,binA_s,binE,binI,unE,convE,okNil,builtE,gv,TD.isAgg,resV,↓reduceIte,Nat.reduceEqDiff,reduceCtorEq,Nat.reduceAdd,Nat.reduceMul,Nat.reduceLeDiff,quietOp,blindOp,Int.reduceEq,Int.reduceLT,Int.reduceLE,Nat.reduceLT,tiA,tiXA, h11, h9, h10, h1, h2, h3, h4, p1, p4, hbi, g3, w64]
        refine ⟨by rw [bools_length, metL_length]; omega, P.length - (i + 1), by omega, i + 1, by omega, by omega, by omega, ?_⟩
        rw [et]
        exact hput
      · have hie : i = P.length := by omega
        rw [hie, List.take_length] at o2
        try simp (disch := first | omega | (simp only [ints_length, List.length_replicate, List.length_set, bools_length, metL_length] <;> omega)) only [Sall,evalOp,init,binA_s,binE,binI,unE,convE,okNil,builtE,gv,TD.isAgg,resV,↓reduceIte,Nat.reduceEqDiff,reduceCtorEq,Nat.reduceAdd,Nat.reduceMul,Nat.reduceLeDiff,quietOp,blindOp,Int.reduceEq,Int.reduceLT,Int.reduceLE,Nat.reduceLT,tiA,tiXA, true_and]
        clear hm hi hh h11
        have g1 := (o2.rowAt 0 rfl).1
        obtain ⟨FI, eFI⟩ : ∃ FI, FI = P.length / g * g := ⟨_, rfl⟩
        have hFI : FI ≤ P.length := by rw [eFI]; exact Nat.div_mul_le_self _ _
        have hFe : FI = P.length ↔ P.length % g = 0 := by
          have h1 := Nat.div_add_mod P.length g
          rw [Nat.mul_comm, ← eFI] at h1
          omega
        obtain ⟨D, eD⟩ : ∃ D, D = P.length / g := ⟨_, rfl⟩
        have ed : Int.tdiv (P.length : Int) (g : Int) = (D : Int) := by rw [eD]; rfl
        have em : (D : Int) * (g : Int) = (FI : Int) := by rw [eFI, eD]; exact (Int.natCast_mul _ _).symm
        have hg0 : ¬ (g : Int) = 0 := by omega
        have hPn := hP.len
        have hdl : D ≤ P.length := by rw [eD]; exact Nat.div_le_self _ _
        clear eD
        have nbi : ¬ bi = H1.next := by have := (o2.rowAt 0 rfl).2.2; omega
        refine draw_in [1, 2, 3, 4, 5, 6, 7, 0, 8, 9] (by kernel_rfl) (by kernel_rfl) rfl ?_
        try simp (disch := first | omega | (simp only [ints_length, List.length_replicate, List.length_set, bools_length, metL_length] <;> omega)) only [Sall,evalOp,init,binA_s,binE,binI,unE,convE,okNil,builtE,gv,TD.isAgg,resV,↓reduceIte,Nat.reduceEqDiff,reduceCtorEq,Nat.reduceAdd,Nat.reduceMul,Nat.reduceLeDiff,quietOp,blindOp,Int.reduceEq,Int.reduceLT,Int.reduceLE,Nat.reduceLT,tiA,tiXA, awpI_nil, awpI_cons, stepI_op, h9, h4, g1, ed, hg0, em, zeros_zero, w64]
        refine ⟨.inr (.inr (o2.sc.le _)), ?_⟩
        have o3 := (o2.addSee (Q := RowsC [] []) fun H => RowsC.nil H).pushSl (k := 1) (n := 0) (ty := 28) (vs := []) rfl
        obtain ⟨F, eF⟩ : ∃ F, F = fun a : Nat => nxT n g M f (P ++ [(a : Int)]) := ⟨_, rfl⟩
        obtain ⟨one, eone⟩ : ∃ one, one = decide (P.length % g = 0) := ⟨_, rfl⟩
        rw [nxT_succ, ← eF, ← eone]
        refine awp_loop (fun m t H' => ∃ (a : Nat) (ow : Value) (ws : List Value) (R : List (List Int)), m = n - a ∧ a ≤ n ∧ t 14 = .int .i64 a ∧ t 12 = ow ∧ t 9 = .int .i64 P.length ∧ t 10 = .slice (some ⟨mi, 0, some 1⟩) n n ∧ t 1 = mv ∧ t 2 = pv ∧ t 3 = .int .i64 most ∧ t 4 = .pointer (some ⟨bi, 0, none⟩) ∧ t 13 = .int .i64 FI ∧ R.length ≤ most ∧ (nxL F (okN g M P) one n 0).take most = (R ++ nxL F (okN g M P) one (n - a) a).take most ∧ Ow H H' [.row bi ⟨26, true, [.int .i64 n, .int .i64 g, v]⟩, .sl 1 4 (.slice (some ⟨mi, 0, some 1⟩) n n) n (bools (metL n P)), .see (RowsC ws R), .sl 1 28 ow ws.length ws]) n ?_ ?_
        · refine ⟨0, .slice (some ⟨H1.next, 0, some 1⟩) 0 0, [], [], by omega, by omega, ?_⟩
          try simp (disch := first | omega | (simp only [ints_length, List.length_replicate, List.length_set, bools_length, metL_length] <;> omega)) only [Sall,evalOp,init,binA_s,binE,binI,unE,convE,okNil,builtE,gv,TD.isAgg,resV,↓reduceIte,Nat.reduceEqDiff,reduceCtorEq,Nat.reduceAdd,Nat.reduceMul,Nat.reduceLeDiff,quietOp,blindOp,Int.reduceEq,Int.reduceLT,Int.reduceLE,Nat.reduceLT,tiA,tiXA, Int.natCast_zero, h9, h10, h1, h2, h3, h4]
          exact ⟨Nat.zero_le _, rfl, o3⟩
        · rintro m t H2 ⟨a, ow, ws, R, hm, ha, h14, h12, h9, h10, h1, h2, h3, h4, h13, hR, hEq, o4⟩
          have hwl : ws.length = R.length := (o4.sees 2 rfl).1
          have hol := o4.lenV 3 rfl
          rw [hwl] at hol
          have g3 := (o4.rowAt 0 rfl).1
          have fin : ∀ X, (nxL F (okN g M P) one n 0).take most = R → X = ow → ∃ ws, Ow H H2 [.sl 1 28 X ws.length ws, .see (fun H2 => Rs 1 H2 pv P.length P → RowsC ws ((nxL F (okN g M P) one n 0).take most) H2)] := by
            rintro X hX rfl
            rw [hX]
            exact ⟨ws, (o4.pick2 3 2 rfl rfl (by omega)).toSee 1 rfl fun H2 S hp => fun _ => hp H2 fun _ _ _ h => h⟩
          by_cases han : a < n
          rotate_left
          · have e1 : decide ((a : Int) < (n : Int)) = false := decide_eq_false (by omega)
            have hX : (nxL F (okN g M P) one n 0).take most = R := by
              rw [hEq, show n - a = 0 by omega]
              show (R ++ []).take most = R
              rw [List.append_nil, List.take_of_length_le hR]
            try simp (disch := first | omega | (simp only [ints_length, List.length_replicate, List.length_set, bools_length, metL_length] <;> omega)) only [Sall,evalOp,init,binA_s,binE,binI,unE,convE,okNil,builtE,gv,TD.isAgg,resV,↓reduceIte,Nat.reduceEqDiff,reduceCtorEq,Nat.reduceAdd,Nat.reduceMul,Nat.reduceLeDiff,quietOp,blindOp,Int.reduceEq,Int.reduceLT,Int.reduceLE,Nat.reduceLT,tiA,tiXA, h14, h4, g3, e1]
            exact fin _ hX h12
          have e1 : decide ((a : Int) < (n : Int)) = true := decide_eq_true (by omega)
          by_cases hRm : R.length < most
          rotate_left
          · have e2 : decide ((R.length : Int) < (most : Int)) = false := decide_eq_false (by omega)
            have hX : (nxL F (okN g M P) one n 0).take most = R := by
              rw [hEq, List.take_append_of_le_length (by omega), List.take_of_length_le hR]
            try simp (disch := first | omega | (simp only [ints_length, List.length_replicate, List.length_set, bools_length, metL_length] <;> omega)) only [Sall,evalOp,init,binA_s,binE,binI,unE,convE,okNil,builtE,gv,TD.isAgg,resV,↓reduceIte,Nat.reduceEqDiff,reduceCtorEq,Nat.reduceAdd,Nat.reduceMul,Nat.reduceLeDiff,quietOp,blindOp,Int.reduceEq,Int.reduceLT,Int.reduceLE,Nat.reduceLT,tiA,tiXA, h14, h12, h4, h3, g3, e1, e2, builtE, hol]
            exact fin _ hX rfl
          have e2 : decide ((R.length : Int) < (most : Int)) = true := decide_eq_true (by omega)
          clear fin
          have hbi := (o4.getV 1 rfl).2.2
          have hml : (metL n P).length = n := metL_length _ _
          have hm0 := metL_getD n P (a : Int) (by omega)
          have hm1' : (bools (metL n P))[a]? = some (.bool (P.contains (a : Int))) := by
            rw [bools_get? _ _ (by omega)]
            rw [Int.toNat_natCast] at hm0
            rw [hm0]
          try simp (disch := first | omega | (simp only [ints_length, List.length_replicate, List.length_set, bools_length, metL_length] <;> omega)) only [Sall,evalOp,init,binA_s,binE,binI,unE,convE,okNil,builtE,gv,TD.isAgg,resV,↓reduceIte,Nat.reduceEqDiff,reduceCtorEq,Nat.reduceAdd,Nat.reduceMul,Nat.reduceLeDiff,quietOp,blindOp,Int.reduceEq,Int.reduceLT,Int.reduceLE,Nat.reduceLT,tiA,tiXA, h14, h12, h4, h3, g3, e1, e2, builtE, hol, h10, hbi, hm1', h13]
          (repeat refine And.intro (by omega) ?_)
          try simp (disch := first | omega | (simp only [ints_length, List.length_replicate, List.length_set, bools_length, metL_length] <;> omega)) only [Sall,evalOp,init,binA_s,binE,binI,unE,convE,okNil,builtE,gv,TD.isAgg,resV,↓reduceIte,Nat.reduceEqDiff,reduceCtorEq,Nat.reduceAdd,Nat.reduceMul,Nat.reduceLeDiff,quietOp,blindOp,Int.reduceEq,Int.reduceLT,Int.reduceLE,Nat.reduceLT,tiA,tiXA, h14, h12, h4, h3, g3, e1, e2, builtE, hol, h10, hbi, hm1', h13]
          obtain ⟨cnd, ecnd⟩ : ∃ cnd : Int → Bool, cnd = fun b => decide (b < (a : Int)) && ((M.getD b.toNat []).getD a 0 == 0) := ⟨_, rfl⟩
          have hok : okN g M P a = (!P.contains (a : Int) && (P.drop FI).all cnd) := by unfold okN; rw [ecnd, eFI]
          generalize hct : P.contains (a : Int) = ct at *
          refine awp_loop (fun m' t H' => H' = H2 ∧ ∃ (k : Nat), m' = P.length - k ∧ FI ≤ k ∧ k ≤ P.length ∧ t 16 = .int .i64 k ∧ t 15 = .bool (!ct && ((P.drop FI).take (k - FI)).all cnd) ∧ t 14 = .int .i64 a ∧ t 12 = ow ∧ t 9 = .int .i64 P.length ∧ t 10 = .slice (some ⟨mi, 0, some 1⟩) n n ∧ t 1 = mv ∧ t 2 = pv ∧ t 3 = .int .i64 most ∧ t 4 = .pointer (some ⟨bi, 0, none⟩) ∧ t 13 = .int .i64 FI) (P.length - FI) ?_ ?_
          · refine ⟨rfl, FI, rfl, Nat.le_refl _, hFI, ?_⟩
            try simp (disch := first | omega | (simp only [ints_length, List.length_replicate, List.length_set, bools_length, metL_length] <;> omega)) only [Sall,evalOp,init,binA_s,binE,binI,unE,convE,okNil,builtE,gv,TD.isAgg,resV,↓reduceIte,Nat.reduceEqDiff,reduceCtorEq,Nat.reduceAdd,Nat.reduceMul,Nat.reduceLeDiff,quietOp,blindOp,Int.reduceEq,Int.reduceLT,Int.reduceLE,Nat.reduceLT,tiA,tiXA, Nat.sub_self, List.take_zero, List.all_nil, Bool.and_true, h9, h10, h1, h2, h3, h4, h13, h12, h14]
          · rintro m' t H3 ⟨rfl, k, hm', hk1, hk2, h16, h15, h14, h12, h9, h10, h1, h2, h3, h4, h13⟩
            obtain ⟨gd, egd⟩ : ∃ gd, gd = (!ct && ((P.drop FI).take (k - FI)).all cnd) := ⟨_, rfl⟩
            rw [← egd] at h15
            by_cases hkl : k < P.length ∧ gd = true
            · obtain ⟨hkl, rfl⟩ := hkl
              have e3 : decide ((k : Int) < (P.length : Int)) = true := decide_eq_true (by omega)
              obtain ⟨pi, po, pu, pc, pr, ep, p1, p2, p3, _⟩ := (hrs.rd.same (o4.old hs)).get (by omega)
              have hxr := hP.rng _ (getD_memI (l := P) (i := k) hkl)
              obtain ⟨x, ex⟩ : ∃ x : Nat, P.getD k 0 = x := ⟨(P.getD k 0).toNat, by omega⟩
              have p4 := p3 k (by omega)
              rw [ex] at p4 hxr
              have hnext : ((P.drop FI).take (k + 1 - FI)).all cnd = (((P.drop FI).take (k - FI)).all cnd && cnd (x : Int)) := by
                rw [show k + 1 - FI = k - FI + 1 by omega, List.take_add_one, List.getElem?_drop, show FI + (k - FI) = k by omega, List.getElem?_eq_getElem hkl, List.all_append]
                have : P[k] = (x : Int) := by rw [← ex, List.getD_eq_getElem?_getD, List.getElem?_eq_getElem hkl]; rfl
                rw [this]
                simp
              have hgn : (!ct && ((P.drop FI).take (k + 1 - FI)).all cnd) = cnd (x : Int) := by
                rw [hnext, ← Bool.and_assoc, ← egd, Bool.true_and]
              have wk : IntKind.i64.wrap ((k : Int) + 1) = ((k + 1 : Nat) : Int) := w64 ⟨by omega, by omega⟩
              by_cases hxa : x < a
              · have e4 : decide ((x : Int) < (a : Int)) = true := decide_eq_true (by omega)
                have hcx : cnd (x : Int) = ((M.getD x []).getD a 0 == 0) := by rw [ecnd]; dsimp only; rw [e4, Bool.true_and, Int.toNat_natCast]
                obtain ⟨xi, xo, xuu, xc, xr, yv, my, emv, hxr2, hyv, hsx, hok2⟩ := (hmv.same (o4.old hs)).get (j := x) (by rw [hM.1]; omega)
                have hmy := hsx.lenK1
                rw [hM.2 x (by omega)] at hmy
                have hmy := hmy.symm
                subst hmy
                obtain ⟨zi, zo, zu, zc, zr, ez, z1, z2, z3, _⟩ := hsx.get (by omega)
                have z4 := z3 a (by omega)
                have hML := hM.1
                rw [ep] at h2
                rw [emv] at h1
                subst ez
                try simp (disch := first | omega | (simp only [ints_length, List.length_replicate, List.length_set, bools_length, metL_length] <;> omega)) only [Sall,evalOp,init,binA_s,binE,binI,unE,convE,okNil,builtE,gv,TD.isAgg,resV,↓reduceIte,Nat.reduceEqDiff,reduceCtorEq,Nat.reduceAdd,Nat.reduceMul,Nat.reduceLeDiff,quietOp,blindOp,Int.reduceEq,Int.reduceLT,Int.reduceLE,Nat.reduceLT,tiA,tiXA, h16, h15, h14, h9, h10, h1, h2, h3, h4, h13, e3, p1, p4, e4, hxr2, hyv, hok2, z1, z4]
                (repeat refine And.intro (by omega) ?_)
                try simp (disch := first | omega | (simp only [ints_length, List.length_replicate, List.length_set, bools_length, metL_length] <;> omega)) only [Sall,evalOp,init,binA_s,binE,binI,unE,convE,okNil,builtE,gv,TD.isAgg,resV,↓reduceIte,Nat.reduceEqDiff,reduceCtorEq,Nat.reduceAdd,Nat.reduceMul,Nat.reduceLeDiff,quietOp,blindOp,Int.reduceEq,Int.reduceLT,Int.reduceLE,Nat.reduceLT,tiA,tiXA, h16, h15, h14, h9, h10, h1, h2, h3, h4, h13, e3, p1, p4, e4, hxr2, hyv, hok2, z1, z4]
                exact ⟨P.length - (k + 1), by omega, k + 1, rfl, by omega, by omega, wk, by rw [hgn, hcx], h12, emv.symm, ep.symm⟩
              · have e4 : decide ((x : Int) < (a : Int)) = false := decide_eq_false (by omega)
                have hcx : cnd (x : Int) = false := by rw [ecnd]; dsimp only; rw [e4, Bool.false_and]
                rw [ep] at h2
                try simp (disch := first | omega | (simp only [ints_length, List.length_replicate, List.length_set, bools_length, metL_length] <;> omega)) only [Sall,evalOp,init,binA_s,binE,binI,unE,convE,okNil,builtE,gv,TD.isAgg,resV,↓reduceIte,Nat.reduceEqDiff,reduceCtorEq,Nat.reduceAdd,Nat.reduceMul,Nat.reduceLeDiff,quietOp,blindOp,Int.reduceEq,Int.reduceLT,Int.reduceLE,Nat.reduceLT,tiA,tiXA, h16, h15, h14, h9, h10, h1, h2, h3, h4, h13, e3, p1, p4, e4]
                (repeat refine And.intro (by omega) ?_)
                try simp (disch := first | omega | (simp only [ints_length, List.length_replicate, List.length_set, bools_length, metL_length] <;> omega)) only [Sall,evalOp,init,binA_s,binE,binI,unE,convE,okNil,builtE,gv,TD.isAgg,resV,↓reduceIte,Nat.reduceEqDiff,reduceCtorEq,Nat.reduceAdd,Nat.reduceMul,Nat.reduceLeDiff,quietOp,blindOp,Int.reduceEq,Int.reduceLT,Int.reduceLE,Nat.reduceLT,tiA,tiXA, h16, h15, h14, h9, h10, h1, h2, h3, h4, h13, e3, p1, p4, e4]
                exact ⟨P.length - (k + 1), by omega, k + 1, rfl, by omega, by omega, wk, by rw [hgn, hcx], h12, ep.symm⟩
            · have hgk : gd = okN g M P a := by
                rw [hok]
                by_cases hk3 : k < P.length
                · have hgf : gd = false := by
                    cases gd with
                    | false => rfl
                    | true => exact absurd ⟨hk3, rfl⟩ hkl
                  rw [hgf] at egd
                  have h5 : ((P.drop FI).all cnd) = true → ((P.drop FI).take (k - FI)).all cnd = true := fun h => by
                    rw [List.all_eq_true] at h ⊢
                    exact fun y hy => h y (List.mem_of_mem_take hy)
                  rw [hgf]
                  cases hc2 : (P.drop FI).all cnd with
                  | false => rw [Bool.and_false]
                  | true => rw [h5 hc2] at egd; rw [egd]
                · have hkP : k = P.length := by omega
                  rw [egd, hkP, List.take_of_length_le (by rw [List.length_drop]; exact Nat.le_refl _)]
              have hcnd : (decide ((k : Int) < (P.length : Int)) = true ∧ gd = true) → False := fun ⟨q1, q2⟩ => hkl ⟨by have := of_decide_eq_true q1; omega, q2⟩
              have h15' : t 15 = .bool (okN g M P a) := by rw [h15, hgk]
              clear hok hct
              have hna : n - a = n - (a + 1) + 1 := by omega
              have hskip : okN g M P a = false → nxL F (okN g M P) one (n - a) a = nxL F (okN g M P) one (n - (a + 1)) (a + 1) := fun h => by rw [hna, nxL_succ, if_neg (by rw [h]; simp)]
              refine Holds.mp ?_
              cases hoa : okN g M P a with
              | false =>
                rw [hoa] at h15'
                by_cases hk3 : k < P.length
                · have e3 : decide ((k : Int) < (P.length : Int)) = true := decide_eq_true (by omega)
                  try simp (disch := first | omega | (simp only [ints_length, List.length_replicate, List.length_set, bools_length, metL_length] <;> omega)) only [Sall,evalOp,init,binA_s,binE,binI,unE,convE,okNil,builtE,gv,TD.isAgg,resV,↓reduceIte,Nat.reduceEqDiff,reduceCtorEq,Nat.reduceAdd,Nat.reduceMul,Nat.reduceLeDiff,quietOp,blindOp,Int.reduceEq,Int.reduceLT,Int.reduceLE,Nat.reduceLT,tiA,tiXA, h16, h15', h14, h9, h10, h1, h2, h3, h4, h13, e3, Bool.not_false, w64]
                  exact ⟨n - (a + 1), by omega, a + 1, ow, ws, R, rfl, by omega, rfl, h12, hR, by rw [hEq, hskip hoa], o4⟩
                · have e3 : decide ((k : Int) < (P.length : Int)) = false := decide_eq_false (by omega)
                  try simp (disch := first | omega | (simp only [ints_length, List.length_replicate, List.length_set, bools_length, metL_length] <;> omega)) only [Sall,evalOp,init,binA_s,binE,binI,unE,convE,okNil,builtE,gv,TD.isAgg,resV,↓reduceIte,Nat.reduceEqDiff,reduceCtorEq,Nat.reduceAdd,Nat.reduceMul,Nat.reduceLeDiff,quietOp,blindOp,Int.reduceEq,Int.reduceLT,Int.reduceLE,Nat.reduceLT,tiA,tiXA, h16, h15', h14, h9, h10, h1, h2, h3, h4, h13, e3, Bool.not_false, w64]
                  exact ⟨n - (a + 1), by omega, a + 1, ow, ws, R, rfl, by omega, rfl, h12, hR, by rw [hEq, hskip hoa], o4⟩
              | true =>
                rw [hoa] at h15'
                have e3 : decide ((k : Int) < (P.length : Int)) = false := by
                  cases hq : decide ((k : Int) < (P.length : Int)) with
                  | false => rfl
                  | true => exact (hcnd ⟨hq, by rw [hgk, hoa]⟩).elim
                try simp (disch := first | omega | (simp only [ints_length, List.length_replicate, List.length_set, bools_length, metL_length] <;> omega)) only [Sall,evalOp,init,binA_s,binE,binI,unE,convE,okNil,builtE,gv,TD.isAgg,resV,↓reduceIte,Nat.reduceEqDiff,reduceCtorEq,Nat.reduceAdd,Nat.reduceMul,Nat.reduceLeDiff,quietOp,blindOp,Int.reduceEq,Int.reduceLT,Int.reduceLE,Nat.reduceLT,tiA,tiXA, h16, h15', h14, h9, h10, h1, h2, h3, h4, h13, e3, Bool.not_true, w64]
                have hstep : nxL F (okN g M P) one (n - a) a = F a ++ (if one = true then [] else nxL F (okN g M P) one (n - (a + 1)) (a + 1)) := by rw [hna, nxL_succ, if_pos hoa]
                have g3' := (o4.rowAt 0 rfl).1
                have hb3 := (o4.rowAt 0 rfl).2.2
                refine draw_treeS (fun j => j < H3.next) (OT.run [0, 1, 2, 3, 5, 8, 9, 10, 11] (.two 4 6 (OT.run [6, 7, 12, 13, 14] .nil) (OT.run [4, 7, 12, 13, 14] .nil))) (by kernel_rfl) (by kernel_rfl) (Nat.le_of_ble_eq_true rfl) ?_
                try simp (disch := first | omega | (simp only [ints_length, List.length_replicate, List.length_set, bools_length, metL_length] <;> omega)) only [Sall,evalOp,init,binA_s,binE,binI,unE,convE,okNil,builtE,gv,TD.isAgg,resV,↓reduceIte,Nat.reduceEqDiff,reduceCtorEq,Nat.reduceAdd,Nat.reduceMul,Nat.reduceLeDiff,quietOp,blindOp,Int.reduceEq,Int.reduceLT,Int.reduceLE,Nat.reduceLT,tiA,tiXA, awpTS_run_nil, awpTS_run_cons, awpTS_nil, awpTS_one, stepIS_op, loadOk, h14, h12, h9, h10, h1, h2, h3, h4, h13, g3', hb3, hone, hol, builtE, w64]
                have eml : (most : Int) - (R.length : Int) = ((most - R.length : Nat) : Int) := by omega
                have hcp3 : Cp H3 pv P := ⟨hcp.1.same (o4.old hs), fun h0 => (hcp.2 h0).imp id fun ⟨i, c, r, e1, e2, e3⟩ => ⟨i, c, r, e1, o4.old hs _ _ e2, e3⟩⟩
                have zz : zeros 1 [.int .i64 0] = [.int .i64 0] := rfl
                refine awpTS_two ?_ ?_
                · try simp (disch := first | omega | (simp only [ints_length, List.length_replicate, List.length_set, bools_length, metL_length] <;> omega)) only [Sall,evalOp,init,binA_s,binE,binI,unE,convE,okNil,builtE,gv,TD.isAgg,resV,↓reduceIte,Nat.reduceEqDiff,reduceCtorEq,Nat.reduceAdd,Nat.reduceMul,Nat.reduceLeDiff,quietOp,blindOp,Int.reduceEq,Int.reduceLT,Int.reduceLE,Nat.reduceLT,tiA,tiXA, awpTS_run_nil, awpTS_run_cons, awpTS_nil, awpTS_one, stepIS_op, loadOk, h14, h12, h9, h10, h1, h2, h3, h4, h13, hone]
                  refine ACalls.mono (l01Own_c pv P H3 hcp3 (by omega)).sc ?_
                  rintro y H4 ⟨⟨up4, f4⟩, sc4⟩
                  have oy := Ow.of_fr up4 sc4 f4
                  have hyo := oy.one 0 rfl
                  refine ⟨.inr (.inr (LE.les (up4.le o4.sc))), ?_⟩
                  try simp (disch := first | omega | (simp only [ints_length, List.length_replicate, List.length_set, bools_length, metL_length] <;> omega)) only [Sall,evalOp,init,binA_s,binE,binI,unE,convE,okNil,builtE,gv,TD.isAgg,resV,↓reduceIte,Nat.reduceEqDiff,reduceCtorEq,Nat.reduceAdd,Nat.reduceMul,Nat.reduceLeDiff,quietOp,blindOp,Int.reduceEq,Int.reduceLT,Int.reduceLE,Nat.reduceLT,tiA,tiXA, awpTS_run_nil, awpTS_run_cons, awpTS_nil, awpTS_one, stepIS_op, loadOk, h14, h12, h9, h10, h1, h2, h3, h4, h13, hone, hyo, zz, slCells, w64]
                  refine ⟨.inr (.inr (LE.les (oy.sc.le _))), ?_⟩
                  refine (oy.tmp ⟨2, true, [.int .i64 a]⟩).app 0 (c := 1) (ms := ints [(a : Int)]) rfl rfl (by omega) rfl (by omega) (by decide) (by omega) ?_
                  intro w H5 n5 ow5
                  refine ⟨.inr (.inr (les_low (oy.tmp ⟨2, true, [.int .i64 a]⟩) ow5 (by omega))), ?_⟩
                  rw [ints_append] at ow5
                  have ow5 : Ow H3 H5 [.sl 1 2 w (P ++ [(a : Int)]).length (ints (P ++ [(a : Int)]))] := by rw [List.length_append]; exact ow5
                  have hwo := ow5.one 0 rfl
                  try simp (disch := first | omega | (simp only [ints_length, List.length_replicate, List.length_set, bools_length, metL_length] <;> omega)) only [Sall,evalOp,init,binA_s,binE,binI,unE,convE,okNil,builtE,gv,TD.isAgg,resV,↓reduceIte,Nat.reduceEqDiff,reduceCtorEq,Nat.reduceAdd,Nat.reduceMul,Nat.reduceLeDiff,quietOp,blindOp,Int.reduceEq,Int.reduceLT,Int.reduceLE,Nat.reduceLT,tiA,tiXA, awpTS_run_nil, awpTS_run_cons, awpTS_nil, awpTS_one, stepIS_op, loadOk, h14, h12, h9, h10, h1, h2, h3, h4, h13, hone, hwo, hol, eml, builtE, w64]
                  refine ACalls.mono (ih (P ++ [(a : Int)]) w (most - R.length) H5 (by rw [List.length_append]; simp; omega) (hP.snoc (by omega) han (by omega) hoa) (by omega) (by omega) ((hmv.same (o4.old hs)).same (ow5.old o4.sc)) (Cp.of_fr (ow5.fr 0 rfl)) (ow5.rs 0 rfl)) ?_
                  rintro u H6 ⟨ws', oc⟩
                  refine ⟨.inr (.inr (LE.les (oc.up.le ow5.sc))), ?_⟩
                  have huo := oc.one 0 rfl
                  have eF2 : nxT n g M f (P ++ [(a : Int)]) = F a := by rw [eF]
                  rw [eF2] at oc
                  obtain ⟨R', eR'⟩ : ∃ R', R' = (F a).take (most - R.length) := ⟨_, rfl⟩
                  rw [← eR'] at oc
                  have od := ((o4.call ow5).call oc).seeBy 4 6 (Q := RowsC ws' R') rfl rfl (by omega) fun H S hp hq => hq (sl_rs hp)
                  obtain ⟨S5, hS5, hp5⟩ := od.at (k := 5) rfl
                  have hrc : Rc u ws' R' H6 := rc_of_sl (od.sees 4 rfl) hp5
                  have hwl' : ws'.length = R'.length := hrc.1.1
                  have hRR : R'.length ≤ most - R.length := by rw [eR', List.length_take]; omega
                  try simp (disch := first | omega | (simp only [ints_length, List.length_replicate, List.length_set, bools_length, metL_length] <;> omega)) only [Sall,evalOp,init,binA_s,binE,binI,unE,convE,okNil,builtE,gv,TD.isAgg,resV,↓reduceIte,Nat.reduceEqDiff,reduceCtorEq,Nat.reduceAdd,Nat.reduceMul,Nat.reduceLeDiff,quietOp,blindOp,Int.reduceEq,Int.reduceLT,Int.reduceLE,Nat.reduceLT,tiA,tiXA, awpTS_run_nil, awpTS_run_cons, awpTS_nil, awpTS_one, stepIS_op, loadOk, h14, h12, h9, h10, h1, h2, h3, h4, h13, hone, huo, builtE, w64]
                  refine od.appWC 3 rfl hrc rfl (by decide) (by omega) ?_
                  intro x H7 n7 oe
                  refine ⟨.inr (.inl (by kernel_rfl)), ?_⟩
                  have hxo := oe.one 3 rfl
                  have og := oe.seeCat 2 4 rfl rfl (by omega)
                  have og : Ow H H7 ([.row bi ⟨26, true, [.int .i64 n, .int .i64 g, v]⟩, .sl 1 4 (.slice (some ⟨mi, 0, some 1⟩) n n) n (bools (metL n P)), .see (RowsC (ws ++ ws') (R ++ R')), .sl 1 28 x (ws ++ ws').length (ws ++ ws')] ++ [.no, .sl 1 28 u ws'.length ws', .no]) := by
                    rw [List.length_append]; exact og
                  have og := og.left
                  have hRl : (R ++ R').length ≤ most := by rw [List.length_append]; omega
                  by_cases h1o : P.length % g = 0
                  · have e5 : ((P.length : Int) == (FI : Int)) = true := beq_iff_eq.2 (by have := hFe.2 h1o; omega)
                    have hX : (nxL F (okN g M P) one n 0).take most = R ++ R' := by
                      rw [hEq, hstep, eone, decide_eq_true h1o, if_pos rfl, take_step hR, ← eR', List.append_nil, List.take_of_length_le hRl]
                    try simp (disch := first | omega | (simp only [ints_length, List.length_replicate, List.length_set, bools_length, metL_length] <;> omega)) only [Sall,evalOp,init,binA_s,binE,binI,unE,convE,okNil,builtE,gv,TD.isAgg,resV,↓reduceIte,Nat.reduceEqDiff,reduceCtorEq,Nat.reduceAdd,Nat.reduceMul,Nat.reduceLeDiff,quietOp,blindOp,Int.reduceEq,Int.reduceLT,Int.reduceLE,Nat.reduceLT,tiA,tiXA, awpTS_run_nil, awpTS_run_cons, awpTS_nil, awpTS_one, stepIS_op, loadOk, h14, h9, h10, h1, h2, h3, h4, h13, hxo, e5]
                    rw [hX]
                    exact ⟨ws ++ ws', (og.pick2 3 2 rfl rfl (by omega)).toSee 1 rfl fun H2 S hp => fun _ => hp H2 fun _ _ _ h => h⟩
                  · have e5 : ((P.length : Int) == (FI : Int)) = false := beq_eq_false_iff_ne.2 (by have : ¬ FI = P.length := fun e => h1o (hFe.1 e); omega)
                    have hX : (R ++ nxL F (okN g M P) one (n - a) a).take most = ((R ++ R') ++ nxL F (okN g M P) one (n - (a + 1)) (a + 1)).take most := by
                      rw [hstep, eone, decide_eq_false h1o, if_neg (by simp), take_step hR, ← eR']
                    try simp (disch := first | omega | (simp only [ints_length, List.length_replicate, List.length_set, bools_length, metL_length] <;> omega)) only [Sall,evalOp,init,binA_s,binE,binI,unE,convE,okNil,builtE,gv,TD.isAgg,resV,↓reduceIte,Nat.reduceEqDiff,reduceCtorEq,Nat.reduceAdd,Nat.reduceMul,Nat.reduceLeDiff,quietOp,blindOp,Int.reduceEq,Int.reduceLT,Int.reduceLE,Nat.reduceLT,tiA,tiXA, awpTS_run_nil, awpTS_run_cons, awpTS_nil, awpTS_one, stepIS_op, loadOk, h14, h9, h10, h1, h2, h3, h4, h13, hxo, e5, w64]
                    exact ⟨n - (a + 1), by omega, a + 1, x, ws ++ ws', R ++ R', rfl, by omega, rfl, rfl, hRl, by rw [hEq, hX], og⟩
                · try simp (disch := first | omega | (simp only [ints_length, List.length_replicate, List.length_set, bools_length, metL_length] <;> omega)) only [Sall,evalOp,init,binA_s,binE,binI,unE,convE,okNil,builtE,gv,TD.isAgg,resV,↓reduceIte,Nat.reduceEqDiff,reduceCtorEq,Nat.reduceAdd,Nat.reduceMul,Nat.reduceLeDiff,quietOp,blindOp,Int.reduceEq,Int.reduceLT,Int.reduceLE,Nat.reduceLT,tiA,tiXA, awpTS_run_nil, awpTS_run_cons, awpTS_nil, awpTS_one, stepIS_op, loadOk, h14, h12, h9, h10, h1, h2, h3, h4, h13, hone, zz, slCells, w64]
                  have ot := (Ow.refl o4.sc).tmp ⟨2, true, [.int .i64 a]⟩
                  have hcp4 : Cp (H3.push ⟨2, true, [.int .i64 a]⟩) pv P := ⟨hcp3.1.same (o4.sc.le _).row, fun h0 => (hcp3.2 h0).imp id fun ⟨i, c, r, e1, e2, e3⟩ => ⟨i, c, r, e1, (o4.sc.le _).row _ _ e2, e3⟩⟩
                  refine ⟨.inr (.inr (LE.les (o4.sc.le _))), ?_⟩
                  refine ACalls.mono (l01Own_c pv P _ hcp4 (by omega)).sc ?_
                  rintro y H4 ⟨⟨up4, f4⟩, sc4⟩
                  have oy : Ow H3 H4 [.sl 1 2 y P.length (ints P)] := ot.call (Ow.of_fr up4 sc4 f4)
                  have hyo := oy.one 0 rfl
                  have ga := oy.old o4.sc
                  have gt : H4.row H3.next = some ⟨2, true, [.int .i64 a]⟩ := by
                    rw [up4.row _ (by rw [AH.push_next]; omega), AH.push_row, if_pos rfl]
                  refine ⟨.inr (.inr (LE.les (up4.le ot.sc))), ?_⟩
                  try simp (disch := first | omega | (simp only [ints_length, List.length_replicate, List.length_set, bools_length, metL_length] <;> omega)) only [Sall,evalOp,init,binA_s,binE,binI,unE,convE,okNil,builtE,gv,TD.isAgg,resV,↓reduceIte,Nat.reduceEqDiff,reduceCtorEq,Nat.reduceAdd,Nat.reduceMul,Nat.reduceLeDiff,quietOp,blindOp,Int.reduceEq,Int.reduceLT,Int.reduceLE,Nat.reduceLT,tiA,tiXA, awpTS_run_nil, awpTS_run_cons, awpTS_nil, awpTS_one, stepIS_op, loadOk, h14, h12, h9, h10, h1, h2, h3, h4, h13, hone, hyo, gt, zz, slCells, w64]
                  refine (oy).app 0 (c := 1) (ms := ints [(a : Int)]) rfl rfl (by omega) rfl (by omega) (by decide) (by omega) ?_
                  intro w H5 n5 ow5
                  refine ⟨.inr (.inr (les_low (oy) ow5 (by omega))), ?_⟩
                  rw [ints_append] at ow5
                  have ow5 : Ow H3 H5 [.sl 1 2 w (P ++ [(a : Int)]).length (ints (P ++ [(a : Int)]))] := by rw [List.length_append]; exact ow5
                  have hwo := ow5.one 0 rfl
                  try simp (disch := first | omega | (simp only [ints_length, List.length_replicate, List.length_set, bools_length, metL_length] <;> omega)) only [Sall,evalOp,init,binA_s,binE,binI,unE,convE,okNil,builtE,gv,TD.isAgg,resV,↓reduceIte,Nat.reduceEqDiff,reduceCtorEq,Nat.reduceAdd,Nat.reduceMul,Nat.reduceLeDiff,quietOp,blindOp,Int.reduceEq,Int.reduceLT,Int.reduceLE,Nat.reduceLT,tiA,tiXA, awpTS_run_nil, awpTS_run_cons, awpTS_nil, awpTS_one, stepIS_op, loadOk, h14, h12, h9, h10, h1, h2, h3, h4, h13, hone, hwo, hol, eml, builtE, w64]
                  refine ACalls.mono (ih (P ++ [(a : Int)]) w (most - R.length) H5 (by rw [List.length_append]; simp; omega) (hP.snoc (by omega) han (by omega) hoa) (by omega) (by omega) ((hmv.same (o4.old hs)).same (ow5.old o4.sc)) (Cp.of_fr (ow5.fr 0 rfl)) (ow5.rs 0 rfl)) ?_
                  rintro u H6 ⟨ws', oc⟩
                  refine ⟨.inr (.inr (LE.les (oc.up.le ow5.sc))), ?_⟩
                  have huo := oc.one 0 rfl
                  have eF2 : nxT n g M f (P ++ [(a : Int)]) = F a := by rw [eF]
                  rw [eF2] at oc
                  obtain ⟨R', eR'⟩ : ∃ R', R' = (F a).take (most - R.length) := ⟨_, rfl⟩
                  rw [← eR'] at oc
                  have od := ((o4.call ow5).call oc).seeBy 4 6 (Q := RowsC ws' R') rfl rfl (by omega) fun H S hp hq => hq (sl_rs hp)
                  obtain ⟨S5, hS5, hp5⟩ := od.at (k := 5) rfl
                  have hrc : Rc u ws' R' H6 := rc_of_sl (od.sees 4 rfl) hp5
                  have hwl' : ws'.length = R'.length := hrc.1.1
                  have hRR : R'.length ≤ most - R.length := by rw [eR', List.length_take]; omega
                  try simp (disch := first | omega | (simp only [ints_length, List.length_replicate, List.length_set, bools_length, metL_length] <;> omega)) only [Sall,evalOp,init,binA_s,binE,binI,unE,convE,okNil,builtE,gv,TD.isAgg,resV,↓reduceIte,Nat.reduceEqDiff,reduceCtorEq,Nat.reduceAdd,Nat.reduceMul,Nat.reduceLeDiff,quietOp,blindOp,Int.reduceEq,Int.reduceLT,Int.reduceLE,Nat.reduceLT,tiA,tiXA, awpTS_run_nil, awpTS_run_cons, awpTS_nil, awpTS_one, stepIS_op, loadOk, h14, h12, h9, h10, h1, h2, h3, h4, h13, hone, huo, builtE, w64]
                  refine od.appWC 3 rfl hrc rfl (by decide) (by omega) ?_
                  intro x H7 n7 oe
                  refine ⟨.inr (.inl (by kernel_rfl)), ?_⟩
                  have hxo := oe.one 3 rfl
                  have og := oe.seeCat 2 4 rfl rfl (by omega)
                  have og : Ow H H7 ([.row bi ⟨26, true, [.int .i64 n, .int .i64 g, v]⟩, .sl 1 4 (.slice (some ⟨mi, 0, some 1⟩) n n) n (bools (metL n P)), .see (RowsC (ws ++ ws') (R ++ R')), .sl 1 28 x (ws ++ ws').length (ws ++ ws')] ++ [.no, .sl 1 28 u ws'.length ws', .no]) := by
                    rw [List.length_append]; exact og
                  have og := og.left
                  have hRl : (R ++ R').length ≤ most := by rw [List.length_append]; omega
                  by_cases h1o : P.length % g = 0
                  · have e5 : ((P.length : Int) == (FI : Int)) = true := beq_iff_eq.2 (by have := hFe.2 h1o; omega)
                    have hX : (nxL F (okN g M P) one n 0).take most = R ++ R' := by
                      rw [hEq, hstep, eone, decide_eq_true h1o, if_pos rfl, take_step hR, ← eR', List.append_nil, List.take_of_length_le hRl]
                    try simp (disch := first | omega | (simp only [ints_length, List.length_replicate, List.length_set, bools_length, metL_length] <;> omega)) only [Sall,evalOp,init,binA_s,binE,binI,unE,convE,okNil,builtE,gv,TD.isAgg,resV,↓reduceIte,Nat.reduceEqDiff,reduceCtorEq,Nat.reduceAdd,Nat.reduceMul,Nat.reduceLeDiff,quietOp,blindOp,Int.reduceEq,Int.reduceLT,Int.reduceLE,Nat.reduceLT,tiA,tiXA, awpTS_run_nil, awpTS_run_cons, awpTS_nil, awpTS_one, stepIS_op, loadOk, h14, h9, h10, h1, h2, h3, h4, h13, hxo, e5]
                    rw [hX]
                    exact ⟨ws ++ ws', (og.pick2 3 2 rfl rfl (by omega)).toSee 1 rfl fun H2 S hp => fun _ => hp H2 fun _ _ _ h => h⟩
                  · have e5 : ((P.length : Int) == (FI : Int)) = false := beq_eq_false_iff_ne.2 (by have : ¬ FI = P.length := fun e => h1o (hFe.1 e); omega)
                    have hX : (R ++ nxL F (okN g M P) one (n - a) a).take most = ((R ++ R') ++ nxL F (okN g M P) one (n - (a + 1)) (a + 1)).take most := by
                      rw [hstep, eone, decide_eq_false h1o, if_neg (by simp), take_step hR, ← eR']
                    try simp (disch := first | omega | (simp only [ints_length, List.length_replicate, List.length_set, bools_length, metL_length] <;> omega)) only [Sall,evalOp,init,binA_s,binE,binI,unE,convE,okNil,builtE,gv,TD.isAgg,resV,↓reduceIte,Nat.reduceEqDiff,reduceCtorEq,Nat.reduceAdd,Nat.reduceMul,Nat.reduceLeDiff,quietOp,blindOp,Int.reduceEq,Int.reduceLT,Int.reduceLE,Nat.reduceLT,tiA,tiXA, awpTS_run_nil, awpTS_run_cons, awpTS_nil, awpTS_one, stepIS_op, loadOk, h14, h9, h10, h1, h2, h3, h4, h13, hxo, e5, w64]
                    exact ⟨n - (a + 1), by omega, a + 1, x, ws ++ ws', R ++ R', rfl, by omega, rfl, rfl, hRl, by rw [hEq, hX], og⟩
end Go.Proofs.YtollphjompimjaaGreat.A
end

section
namespace Go.Abs
def stepNx : Option (List Int) → List Int → Bool × Option (List Int) := fun _ r => (false, some r)
theorem foldG_nil : foldE stepNx [] none = (true, none) := rfl
theorem foldG_cons (r : List Int) (L : List (List Int)) : foldE stepNx (r :: L) none = (false, some r) := by
  unfold foldE
  rw [show stepNx none r = (false, some r) from rfl, if_neg (by simp)]
def nxOk (q g : Int) (R : List (List Int)) : Bool := golfB q g R && (decide (q ≤ 16) && (eachB le1 (gmM q.toNat g.toNat R) && decide (R.length ≠ 12)))
def nxV (q g : Int) (R : List (List Int)) : List (List Int) := if nxOk q g R = true then nxT q.toNat g.toNat (gmM q.toNat g.toNat R) q.toNat [] else []
def nxC (q g : Int) (R : List (List Int)) : Int := if golfB q g R = true then (if 16 < q then 3 else if eachB le1 (gmM q.toNat g.toNat R) = true then (if nxV q g R = [] then 4 else 0) else 5) else 1
def nxR (q g : Int) (R : List (List Int)) : List Int := (nxV q g R).headD []
theorem nxR_nil {q g : Int} {R : List (List Int)} (h : nxV q g R = []) : nxR q g R = [] := by unfold nxR; rw [h]; rfl
def stepF (F : List Int → Option (List (List Int))) : Option (List (List Int)) → List Int → Bool × Option (List (List Int)) := fun s r => match F r with | some X => (false, some X) | none => (true, s)
theorem foldF (F : List Int → Option (List (List Int))) (s : Option (List (List Int))) : ∀ L, foldE (stepF F) L s = match L.findSome? F with | some X => (false, some X) | none => (true, s)
  | [] => rfl
  | r :: L => by
    unfold foldE
    rw [List.findSome?_cons]
    cases h : F r with
    | some X =>
      have e : stepF F s r = (false, some X) := by unfold stepF; rw [h]
      rw [e, if_neg (by simp)]
    | none =>
      have e : stepF F s r = (true, s) := by unfold stepF; rw [h]
      rw [e, if_pos rfl]
      exact foldF F s L
def oQ {α : Type} (o : Option α) (n : Int) : Int := if o.isSome = true then n else 0
theorem findSomeG_none {α β : Type} {F : α → Option β} {L : List α} (h : ∀ i, i < L.length → ∀ x, L[i]? = some x → F x = none) : L.findSome? F = none := by
  rw [List.findSome?_eq_none_iff]
  intro x hx
  obtain ⟨i, hi, rfl⟩ := List.mem_iff_getElem.1 hx
  exact h i hi _ (List.getElem?_eq_getElem hi)
theorem findSomeG_at {α β : Type} {F : α → Option β} : ∀ {L : List α} {i : Nat} {x : α} {b : β}, L[i]? = some x → F x = some b → (∀ j, j < i → ∀ y, L[j]? = some y → F y = none) → L.findSome? F = some b
  | [], i, x, b, h, _, _ => by simp at h
  | y :: L, 0, x, b, h, h2, _ => by
    simp at h
    subst h
    rw [List.findSome?_cons, h2]
  | y :: L, i + 1, x, b, h, h2, h3 => by
    rw [List.findSome?_cons, h3 0 (by omega) y rfl]
    exact findSomeG_at (L := L) (i := i) h h2 fun j hj z hz => h3 (j + 1) (by omega) z hz
def fgB (q g k : Int) : Bool := golfS q g 9 && decide (0 ≤ k ∧ k ≤ 7)
def fgV (q g k : Int) : Option (List (List Int)) := if fgB q g k = true ∧ k ≤ Int.tdiv (q - 1) (g - 1) then fgF q.toNat g.toNat k.toNat [] else none
def fgC (q g k : Int) : Int := if fgB q g k = true then (match fgV q g k with | some _ => 0 | none => 4) else 2
def fgQ (q g k : Int) : Int := match fgV q g k with | some _ => q | none => 0
def fgG (q g k : Int) : Int := match fgV q g k with | some _ => g | none => 0
def fgR (q g k : Int) : List (List Int) := (fgV q g k).getD []
end Go.Abs
end

section
set_option maxRecDepth 100000
set_option maxHeartbeats 2000000
namespace Go.Proofs.YtollphjompimjaaGreat.A
open Go Go.Abs Go.RowKit
theorem cloneLL_c (v : Value) (ws : List Value) (R : List (List Int)) (H : AH) (hv : Rc v ws R H) (hl : ws.length ≤ 4194304) :
    ACalls Tryz.prog 65 [v] H (fun u H' => Ow H H' [.sl 1 28 u ws.length ws]) := by
  refine ACalls.wf (by kernel_rfl) fun hs => acalls_of_awp [.tmp 2] Tryz.func65 (by kernel_rfl) rfl rfl (Nat.le_of_ble_eq_true rfl) (by kernel_rfl) ?_
  rcases hv.2 with ⟨rfl, rfl⟩ | ⟨i, o, s, c, r, rfl, h3, h4, h5⟩
  · try simp (disch := first | omega | (simp only [ints_length, List.length_replicate, List.length_set, bools_length, metL_length] <;> omega)) only [Sall,evalOp,init,binA_s,binE,binI,unE,convE,okNil,builtE,gv,TD.isAgg,resV,↓reduceIte,Nat.reduceEqDiff,reduceCtorEq,Nat.reduceAdd,Nat.reduceMul,Nat.reduceLeDiff,quietOp,blindOp,Int.reduceEq,Int.reduceLT,Int.reduceLE,Nat.reduceLT,tiA,tiXA, binE, Option.isNone_none]
    exact (Ow.refl hs).addNil 1 _
  · have hi := hs _ _ h3
    have o1 := (Ow.refl hs).pushSl (k := 1) (n := 0) (ty := 28) (vs := []) rfl
    have hv2 : Rc (.slice (some ⟨i, o, s⟩) ws.length c) ws R (H.push ⟨28, true, []⟩) := hv.same (fun j r hr => o1.old hs j r hr)
    try simp (disch := first | omega | (simp only [ints_length, List.length_replicate, List.length_set, bools_length, metL_length] <;> omega)) only [Sall,evalOp,init,binA_s,binE,binI,unE,convE,okNil,builtE,gv,TD.isAgg,resV,↓reduceIte,Nat.reduceEqDiff,reduceCtorEq,Nat.reduceAdd,Nat.reduceMul,Nat.reduceLeDiff,quietOp,blindOp,Int.reduceEq,Int.reduceLT,Int.reduceLE,Nat.reduceLT,tiA,tiXA, binE, zeros_zero]
    refine o1.appWC 0 rfl hv2 rfl (by decide) (by omega) ?_
    intro x H3 n3 o3
    have hx := o3.one 0 rfl
    refine Holds.mp ?_
    try simp (disch := first | omega | (simp only [ints_length, List.length_replicate, List.length_set, bools_length, metL_length] <;> omega)) only [Sall,evalOp,init,binA_s,binE,binI,unE,convE,okNil,builtE,gv,TD.isAgg,resV,↓reduceIte,Nat.reduceEqDiff,reduceCtorEq,Nat.reduceAdd,Nat.reduceMul,Nat.reduceLeDiff,quietOp,blindOp,Int.reduceEq,Int.reduceLT,Int.reduceLE,Nat.reduceLT,tiA,tiXA, hx]
    rw [Nat.zero_add, List.nil_append] at o3
    exact o3
theorem nextG1_c (n fc : Nat) (v x : Value) (r : List Int) (H : AH) (hn : 1 ≤ n) (hn25 : n ≤ 25) (hl : r.length = n) (hv : Rs 1 H v n r) (hfc : H.row fc = some ⟨28, true, [x]⟩) :
    ACalls Tryz.prog 31 [v, .pointer (some ⟨fc, 0, none⟩)] H (fun u H' => u = .bool false ∧ H.next ≤ H'.next ∧ Sc H' ∧ (∀ j, j < H.next → j ≠ fc → H'.row j = H.row j) ∧ ∃ fi, H.next ≤ fi ∧ fi < H'.next ∧ H'.row fc = some ⟨28, true, [.slice (some ⟨fi, 0, some 1⟩) n n]⟩ ∧ H'.row fi = some ⟨2, true, ints r⟩) := by
  refine ACalls.wf (by kernel_rfl) fun hs => acalls_of_awp [.tmp 3] Tryz.func31 (by kernel_rfl) rfl rfl (Nat.le_of_ble_eq_true rfl) (by kernel_rfl) ?_
  have hi := hs _ _ hfc
  subst hl
  try simp (disch := first | omega | (simp only [ints_length, List.length_replicate, List.length_set, bools_length, metL_length] <;> omega)) only [Sall,evalOp,init,binA_s,binE,binI,unE,convE,okNil,builtE,gv,TD.isAgg,resV,↓reduceIte,Nat.reduceEqDiff,reduceCtorEq,Nat.reduceAdd,Nat.reduceMul,Nat.reduceLeDiff,quietOp,blindOp,Int.reduceEq,Int.reduceLT,Int.reduceLE,Nat.reduceLT,tiA,tiXA, true_and]
  refine ACalls.mono (cloneI_c v r H ⟨hv.rd, fun h => by omega⟩ (by omega)).sc ?_
  rintro u H2 ⟨⟨up2, hf2⟩, sc2⟩
  obtain ⟨fi, q1, q2, rfl, q3⟩ := hf2.get (by omega)
  have hf : H2.row fc = some ⟨28, true, [x]⟩ := by rw [up2.row _ hi]; exact hfc
  have nx := up2.next
  refine Holds.mp ?_
  try simp (disch := first | omega | (simp only [ints_length, List.length_replicate, List.length_set, bools_length, metL_length] <;> omega)) only [Sall,evalOp,init,binA_s,binE,binI,unE,convE,okNil,builtE,gv,TD.isAgg,resV,↓reduceIte,Nat.reduceEqDiff,reduceCtorEq,Nat.reduceAdd,Nat.reduceMul,Nat.reduceLeDiff,quietOp,blindOp,Int.reduceEq,Int.reduceLT,Int.reduceLE,Nat.reduceLT,tiA,tiXA, hf]
  refine ⟨by omega, sc2.set _ _, fun j hj hne => by rw [if_neg hne]; exact up2.row j hj, fi, q1, q2, rfl, ?_⟩
  rw [if_neg (by omega)]
  exact q3
structure InvG (Hb : AH) (fc : Nat) (s : Option (List Int)) (H : AH) : Prop where
  row : H.row fc = some ⟨28, true, [.slice none 0 0]⟩
  keep : ∀ j, j < Hb.next → j ≠ fc → H.row j = Hb.row j
def FinG (Hb : AH) (fc n : Nat) (s : Option (List Int)) (H : AH) : Prop := ∃ r fi, s = some r ∧ Hb.next ≤ fi ∧ fi < H.next ∧ H.row fc = some ⟨28, true, [.slice (some ⟨fi, 0, some 1⟩) n n]⟩ ∧ H.row fi = some ⟨2, true, ints r⟩ ∧ r.length = n ∧ ∀ j, j < Hb.next → j ≠ fc → H.row j = Hb.row j
theorem callG {n g : Nat} (hn : 1 ≤ n) (hn25 : n ≤ 25) (Hb : AH) (fc : Nat) (hfc : fc < Hb.next) : CallT n g 31 [.pointer (some ⟨fc, 0, none⟩)] Hb.next (InvG Hb fc) (FinG Hb fc n) stepNx where
  low := fun s H H' h hr => ⟨by rw [hr _ hfc]; exact h.row, fun j hj hne => by rw [hr j hj]; exact h.keep j hj hne⟩
  call := fun s r v H hI hb hs hP hl hv => by
    refine ACalls.mono (nextG1_c n fc v _ r H hn hn25 hl hv hI.row) ?_
    rintro u H' ⟨k1, k2, k3, k4, fi, k5, k6, k7, k8⟩
    refine ⟨k1, k2, k3, fun i h1 h2 => k4 i h2 (by omega), fun h => (by cases h), fun _ H2 h2 h3 => ⟨r, fi, rfl, by omega, by omega, ?_, ?_, hl, fun j hj hne => ?_⟩⟩
    · rw [h3 fc (by omega) (.inl hfc)]; exact k7
    · rw [h3 fi (by omega) (.inr k5)]; exact k8
    · rw [h3 j (by omega) (.inl hj), k4 j (by omega) hne]; exact hI.keep j hj hne
theorem NextGolfRound_c (q g : Int) (v : Value) (R : List (List Int)) (H : AH) (hv : Rg H v R) (hl : R.length ≤ 4194304) (hl2 : ∀ r ∈ R, r.length ≤ 4194304) :
    ACalls Tryz.prog 6 [.agg #[.int .i64 q, .int .i64 g, v]] H (fun r H' => ∃ u, r = .tuple #[u, .int .i64 (nxC q g R)] ∧ Ow H H' [.sl 1 2 u (nxR q g R).length (ints (nxR q g R))]) := by
  refine ACalls.wf (by kernel_rfl) fun hs => acalls_of_awp [.tmp 2, .tmp 3] Tryz.func6 (by kernel_rfl) rfl rfl (Nat.le_of_ble_eq_true rfl) (by kernel_rfl) ?_
  have hone := hv.one
  have o1 := golf_push hs q g v
  try simp (disch := first | omega | (simp only [ints_length, List.length_replicate, List.length_set, bools_length, metL_length] <;> omega)) only [Sall,evalOp,init,binA_s,binE,binI,unE,convE,okNil,builtE,gv,TD.isAgg,resV,↓reduceIte,Nat.reduceEqDiff,reduceCtorEq,Nat.reduceAdd,Nat.reduceMul,Nat.reduceLeDiff,quietOp,blindOp,Int.reduceEq,Int.reduceLT,Int.reduceLE,Nat.reduceLT,tiA,tiXA, hone]
  obtain ⟨pi, epi⟩ : ∃ pi, pi = H.next := ⟨_, rfl⟩
  rw [← epi] at o1 ⊢
  have np : pi < (H.push ⟨26, true, [.int .i64 q, .int .i64 g, v]⟩).next := by rw [epi]; exact Nat.lt_succ_self _
  generalize H.push ⟨26, true, [.int .i64 q, .int .i64 g, v]⟩ = H1 at o1 np ⊢
  have up : Up pi H H1 := by rw [epi]; exact o1.up
  have e1 := (o1.rowAt 0 rfl).1
  have hv1 := hv.same (o1.old hs)
  have fail : nxR q g R = [] → Ow H H1 [.sl 1 2 (.slice none 0 0) (nxR q g R).length (ints (nxR q g R))] := fun h => by
    rw [h]
    exact Ow.left (L := []) o1 |>.addNil 1 _
  try simp (disch := first | omega | (simp only [ints_length, List.length_replicate, List.length_set, bools_length, metL_length] <;> omega)) only [Sall,evalOp,init,binA_s,binE,binI,unE,convE,okNil,builtE,gv,TD.isAgg,resV,↓reduceIte,Nat.reduceEqDiff,reduceCtorEq,Nat.reduceAdd,Nat.reduceMul,Nat.reduceLeDiff,quietOp,blindOp,Int.reduceEq,Int.reduceLT,Int.reduceLE,Nat.reduceLT,tiA,tiXA, e1, hone]
  refine (IsGolf_c q g v R H1 hv1.rd2 hl hl2).to ?_
  refine Holds.mp ?_
  cases hE : golfB q g R with
  | false =>
    have e2 : nxC q g R = 1 := by unfold nxC; rw [hE, if_neg (by simp)]
    have e3 : nxV q g R = [] := by unfold nxV nxOk; rw [hE]; rfl
    rw [e2]
    try simp (disch := first | omega | (simp only [ints_length, List.length_replicate, List.length_set, bools_length, metL_length] <;> omega)) only [Sall,evalOp,init,binA_s,binE,binI,unE,convE,okNil,builtE,gv,TD.isAgg,resV,↓reduceIte,Nat.reduceEqDiff,reduceCtorEq,Nat.reduceAdd,Nat.reduceMul,Nat.reduceLeDiff,quietOp,blindOp,Int.reduceEq,Int.reduceLT,Int.reduceLE,Nat.reduceLT,tiA,tiXA, Bool.not_false]
    exact ⟨_, rfl, fail (nxR_nil e3)⟩
  | true =>
    obtain ⟨n, gN, c, rfl, rfl, q0, q1, q2, q3, q4, q5, q6, q7⟩ := golfB_at hE
    by_cases h16 : (16 : Int) < (n : Int)
    · have e2 : nxC n gN R = 3 := by unfold nxC; rw [hE, if_pos rfl, if_pos h16]
      have e3 : nxV n gN R = [] := by unfold nxV nxOk; rw [hE, decide_eq_false (by omega)]; rfl
      have e4 : decide ((16 : Int) < (n : Int)) = true := decide_eq_true h16
      rw [e2]
      try simp (disch := first | omega | (simp only [ints_length, List.length_replicate, List.length_set, bools_length, metL_length] <;> omega)) only [Sall,evalOp,init,binA_s,binE,binI,unE,convE,okNil,builtE,gv,TD.isAgg,resV,↓reduceIte,Nat.reduceEqDiff,reduceCtorEq,Nat.reduceAdd,Nat.reduceMul,Nat.reduceLeDiff,quietOp,blindOp,Int.reduceEq,Int.reduceLT,Int.reduceLE,Nat.reduceLT,tiA,tiXA, Bool.not_true, e1, e4]
      exact ⟨_, rfl, fail (nxR_nil e3)⟩
    have e4 : decide ((16 : Int) < (n : Int)) = false := decide_eq_false h16
    try simp (disch := first | omega | (simp only [ints_length, List.length_replicate, List.length_set, bools_length, metL_length] <;> omega)) only [Sall,evalOp,init,binA_s,binE,binI,unE,convE,okNil,builtE,gv,TD.isAgg,resV,↓reduceIte,Nat.reduceEqDiff,reduceCtorEq,Nat.reduceAdd,Nat.reduceMul,Nat.reduceLeDiff,quietOp,blindOp,Int.reduceEq,Int.reduceLT,Int.reduceLE,Nat.reduceLT,tiA,tiXA, Bool.not_true, e1, e4, hone]
    refine (gSocial_c n gN c q1 q0 q4 q5 v R H1 hv1 q6 q7).to ?_
    refine Holds.mp ?_
    cases hS : eachB le1 (gmM n gN R) with
    | false =>
      have e2 : nxC n gN R = 5 := by unfold nxC; rw [hE, if_pos rfl, if_neg h16, Int.toNat_natCast, Int.toNat_natCast, hS, if_neg (by simp)]
      have e3 : nxV n gN R = [] := by unfold nxV nxOk; rw [hE, Int.toNat_natCast, Int.toNat_natCast, hS, Bool.false_and, Bool.and_false, Bool.and_false]; rfl
      rw [e2]
      try simp (disch := first | omega | (simp only [ints_length, List.length_replicate, List.length_set, bools_length, metL_length] <;> omega)) only [Sall,evalOp,init,binA_s,binE,binI,unE,convE,okNil,builtE,gv,TD.isAgg,resV,↓reduceIte,Nat.reduceEqDiff,reduceCtorEq,Nat.reduceAdd,Nat.reduceMul,Nat.reduceLeDiff,quietOp,blindOp,Int.reduceEq,Int.reduceLT,Int.reduceLE,Nat.reduceLT,tiA,tiXA, Bool.not_false]
      exact ⟨_, rfl, fail (nxR_nil e3)⟩
    | true =>
      have e2 : nxC n gN R = if nxV n gN R = [] then 4 else 0 := by unfold nxC; rw [hE, if_pos rfl, if_neg h16, Int.toNat_natCast, Int.toNat_natCast, hS, if_pos rfl]
      have hlen := hv.len
      by_cases h12 : R.length = 12
      · have e3 : nxV n gN R = [] := by unfold nxV nxOk; rw [hE, decide_eq_false (show ¬ R.length ≠ 12 from fun h => h h12), Bool.and_false, Bool.and_false, Bool.and_false]; rfl
        have e5 : ((R.length : Int) == 12) = true := by rw [h12]; rfl
        rw [e2, e3, if_pos rfl]
        try simp (disch := first | omega | (simp only [ints_length, List.length_replicate, List.length_set, bools_length, metL_length] <;> omega)) only [Sall,evalOp,init,binA_s,binE,binI,unE,convE,okNil,builtE,gv,TD.isAgg,resV,↓reduceIte,Nat.reduceEqDiff,reduceCtorEq,Nat.reduceAdd,Nat.reduceMul,Nat.reduceLeDiff,quietOp,blindOp,Int.reduceEq,Int.reduceLT,Int.reduceLE,Nat.reduceLT,tiA,tiXA, Bool.not_true, e1, builtE, hlen, e5]
        exact ⟨_, rfl, fail (nxR_nil e3)⟩
      · have e5 : ((R.length : Int) == 12) = false := beq_eq_false_iff_ne.2 (by omega)
        have e3 : nxV n gN R = nxT n gN (gmM n gN R) n [] := by
          unfold nxV
          rw [if_pos (by unfold nxOk; rw [hE, Int.toNat_natCast, Int.toNat_natCast, hS, decide_eq_true (show R.length ≠ 12 from h12), decide_eq_true (by omega)]; rfl), Int.toNat_natCast, Int.toNat_natCast]
        rw [e2]
        have npi : ¬ pi = H1.next := by omega
        try simp (disch := first | omega | (simp only [ints_length, List.length_replicate, List.length_set, bools_length, metL_length] <;> omega)) only [Sall,evalOp,init,binA_s,binE,binI,unE,convE,okNil,builtE,gv,TD.isAgg,resV,↓reduceIte,Nat.reduceEqDiff,reduceCtorEq,Nat.reduceAdd,Nat.reduceMul,Nat.reduceLeDiff,quietOp,blindOp,Int.reduceEq,Int.reduceLT,Int.reduceLE,Nat.reduceLT,tiA,tiXA, Bool.not_true, e1, builtE, hlen, e5, hone, npi]
        have o2 := o1.push ⟨28, true, [.slice none 0 0]⟩
        have n2 : (H1.push ⟨28, true, [.slice none 0 0]⟩).next = H1.next + 1 := rfl
        have r2 : (H1.push ⟨28, true, [.slice none 0 0]⟩).row H1.next = some ⟨28, true, [.slice none 0 0]⟩ := by rw [AH.push_row, if_pos rfl]
        generalize H1.push ⟨28, true, [.slice none 0 0]⟩ = H2 at o2 n2 r2 ⊢
        have hv2 := hv.same (o2.old hs)
        have hmem : ∀ v ∈ [Value.pointer (some ⟨H1.next, 0, none⟩)], v.oneCell' = true := by simp [Value.oneCell']
        refine ⟨hmem, (tidies_c q1 q0 q4 q5 31 [.pointer (some ⟨H1.next, 0, none⟩)] (InvG H2 H1.next) (FinG H2 H1.next n) stepNx none v R H2 (callG (by omega) q4 H2 H1.next (by omega)) ⟨r2, fun j _ _ => rfl⟩ hv2 q6 q7).scf.fin ?_⟩
        rintro H3 ⟨⟨n3, hT, hF⟩, sc3⟩
        have hlow : (∀ j, j < H2.next → j ≠ H1.next → H3.row j = H2.row j) → Up H.next H H3 := fun hk => ⟨by have := o2.next; omega, fun j hj => by rw [hk j (by have := o2.next; omega) (by omega), o2.low j hj]⟩
        unfold nxR
        rw [e3]
        refine Holds.mp ?_
        cases hL : nxT n gN (gmM n gN R) n [] with
        | nil =>
          rw [hL, foldG_nil] at hT
          have hI := hT rfl
          have g1 := hI.row
          rw [if_pos rfl]
          try simp (disch := first | omega | (simp only [ints_length, List.length_replicate, List.length_set, bools_length, metL_length] <;> omega)) only [Sall,evalOp,init,binA_s,binE,binI,unE,convE,okNil,builtE,gv,TD.isAgg,resV,↓reduceIte,Nat.reduceEqDiff,reduceCtorEq,Nat.reduceAdd,Nat.reduceMul,Nat.reduceLeDiff,quietOp,blindOp,Int.reduceEq,Int.reduceLT,Int.reduceLE,Nat.reduceLT,tiA,tiXA, g1, binE, Option.isNone_none]
          exact ⟨_, rfl, (Ow.of_up (hlow hI.keep) sc3).addNil 1 _⟩
        | cons r L =>
          rw [hL, foldG_cons] at hF
          obtain ⟨r', fi, er, f1, f2, f3, f4, f5, f6⟩ := hF rfl
          cases er
          have g1 := f3
          rw [if_neg (by simp)]
          try simp (disch := first | omega | (simp only [ints_length, List.length_replicate, List.length_set, bools_length, metL_length] <;> omega)) only [Sall,evalOp,init,binA_s,binE,binI,unE,convE,okNil,builtE,gv,TD.isAgg,resV,↓reduceIte,Nat.reduceEqDiff,reduceCtorEq,Nat.reduceAdd,Nat.reduceMul,Nat.reduceLeDiff,quietOp,blindOp,Int.reduceEq,Int.reduceLT,Int.reduceLE,Nat.reduceLT,tiA,tiXA, g1, binE, Option.isNone_some]
          refine ⟨_, rfl, ?_⟩
          have o3 := Ow.of_fr (z := 1) (ty := 2) (n := n) (v := .slice (some ⟨fi, 0, some 1⟩) n n) (l := r) (hlow f6) sc3 ⟨by omega, .inr ⟨fi, by have := o2.next; omega, f2, rfl, f4⟩⟩
          show Ow H H3 [.sl 1 2 _ r.length (ints r)]
          rw [f5]
          exact o3
end Go.Proofs.YtollphjompimjaaGreat.A
end

section
set_option maxRecDepth 100000
set_option maxHeartbeats 2000000
namespace Go.Proofs.YtollphjompimjaaGreat.A
open Go Go.Abs Go.RowKit
structure MnJ (A : AH) (M : List (List Int)) (xv : Value) (u : Nat → Value → Prop) (cs fs : List Nat) (t : T) (H : AH) : Prop where
  hcs : cs = [2] ∨ cs = []
  hfs : ∀ a ∈ fs, a = 3
  t17 : t 17 = xv
  t18 : t 18 = xv
  oth : ∀ i, u i (t i) ∨ (i = 19 ∨ i = 20)
  ow : ∃ a b : Th, Ow A H [a, b] ∧ (2 ∉ cs → a = .see fun H => Rd2 1 H (t 19) M) ∧ (3 ∉ fs → b = .sl 1 2 (t 20) 0 [])
theorem MnJ.call {A : AH} {M : List (List Int)} {xv w : Value} {u : Nat → Value → Prop} {fs : List Nat} {t : T} {H H' : AH} (h : MnJ A M xv u [2] fs t H) (c : Ow H H' [.sl2 (Value.int .i64) 28 2 w M]) : MnJ A M xv u [] fs (updO t (some 19) w) H' := by
  obtain ⟨a, b, o, h1, h2⟩ := h.ow
  refine ⟨.inr rfl, h.hfs, h.t17, h.t18, fun i => ?_, .see fun H => Rd2 1 H w M, b, o.fillCall 0 rfl (c.toSee 0 rfl fun H S hp => sl2_rd2 hp), fun _ => rfl, h2⟩
  by_cases e : i = 19
  · exact .inr (.inl e)
  · have : updO t (some 19) w i = t i := by show (if i = 19 then w else t i) = t i; rw [if_neg e]
    rw [this]; exact h.oth i
theorem MnJ.free {A : AH} {M : List (List Int)} {xv : Value} {u : Nat → Value → Prop} {cs fs : List Nat} {t : T} {H : AH} (h : MnJ A M xv u cs fs t H) : MnJ A M xv u cs (fs.erase 3) (upd t 20 (.slice (some ⟨H.next, 0, some 1⟩) 0 0)) (H.push ⟨2, true, []⟩) := by
  obtain ⟨a, b, o, h1, h2⟩ := h.ow
  refine ⟨h.hcs, fun x hx => h.hfs x (List.mem_of_mem_erase hx), h.t17, h.t18, fun i => ?_, a, _, (o.fillRow 1 rfl ⟨2, true, []⟩).row_sl 1 rfl rfl, h1, fun _ => rfl⟩
  by_cases e : i = 20
  · exact .inr (.inr e)
  · have : upd t 20 (.slice (some ⟨H.next, 0, some 1⟩) 0 0) i = t i := by show (if i = 20 then _ else t i) = t i; rw [if_neg e]
    rw [this]; exact h.oth i
theorem specNextGolfRound_c (q g : Int) (v : Value) (R : List (List Int)) (H : AH) (hv : Rd2 1 H v R) (hl : R.length ≤ 4194304) (hl2 : ∀ r ∈ R, r.length ≤ 4194304) :
    ACalls Tryz.prog 7 [.agg #[.int .i64 q, .int .i64 g, v]] H (fun r H' => ∃ u, r = .tuple #[u, .int .i64 (nxC q g R)] ∧ Ow H H' [.see fun H => Rs 1 H u (nxR q g R).length (nxR q g R)]) := by
  refine ACalls.wf (by kernel_rfl) fun hs => acalls_of_awp [.tmp 2, .tmp 3] Tryz.func7 (by kernel_rfl) rfl rfl (Nat.le_of_ble_eq_true rfl) (by kernel_rfl) ?_
  have hone := hv.one
  have o1 := golf_push hs q g v
  try simp (disch := first | omega | (simp only [ints_length, List.length_replicate, List.length_set, bools_length, metL_length] <;> omega)) only [Sall,evalOp,init,binA_s,binE,binI,unE,convE,okNil,builtE,gv,TD.isAgg,resV,↓reduceIte,Nat.reduceEqDiff,reduceCtorEq,Nat.reduceAdd,Nat.reduceMul,Nat.reduceLeDiff,quietOp,blindOp,Int.reduceEq,Int.reduceLT,Int.reduceLE,Nat.reduceLT,tiA,tiXA, hone]
  obtain ⟨pi, epi⟩ : ∃ pi, pi = H.next := ⟨_, rfl⟩
  rw [← epi] at o1 ⊢
  have np : pi < (H.push ⟨26, true, [.int .i64 q, .int .i64 g, v]⟩).next := by rw [epi]; exact Nat.lt_succ_self _
  generalize H.push ⟨26, true, [.int .i64 q, .int .i64 g, v]⟩ = H1 at o1 np ⊢
  have e1 := (o1.rowAt 0 rfl).1
  have hv1 := hv.same (o1.old hs)
  have nilRs : ∀ H : AH, Rs 1 H (.slice none 0 0) 0 [] := fun H => ⟨⟨rfl, .inl ⟨rfl, none, 0, rfl, fun _ => rfl⟩⟩, .inl rfl⟩
  have fail : nxR q g R = [] → Ow H H1 [.see fun H => Rs 1 H (.slice none 0 0) (nxR q g R).length (nxR q g R)] := fun h => by
    rw [h]
    exact Ow.left (L := []) o1 |>.addSee fun H => nilRs H
  try simp (disch := first | omega | (simp only [ints_length, List.length_replicate, List.length_set, bools_length, metL_length] <;> omega)) only [Sall,evalOp,init,binA_s,binE,binI,unE,convE,okNil,builtE,gv,TD.isAgg,resV,↓reduceIte,Nat.reduceEqDiff,reduceCtorEq,Nat.reduceAdd,Nat.reduceMul,Nat.reduceLeDiff,quietOp,blindOp,Int.reduceEq,Int.reduceLT,Int.reduceLE,Nat.reduceLT,tiA,tiXA, e1, hone]
  refine (l08Is_c q g v R H1 hv1 hl hl2).to ?_
  refine Holds.mp ?_
  cases hE : golfB q g R with
  | false =>
    have e2 : nxC q g R = 1 := by unfold nxC; rw [hE, if_neg (by simp)]
    have e3 : nxV q g R = [] := by unfold nxV nxOk; rw [hE]; rfl
    rw [e2]
    try simp (disch := first | omega | (simp only [ints_length, List.length_replicate, List.length_set, bools_length, metL_length] <;> omega)) only [Sall,evalOp,init,binA_s,binE,binI,unE,convE,okNil,builtE,gv,TD.isAgg,resV,↓reduceIte,Nat.reduceEqDiff,reduceCtorEq,Nat.reduceAdd,Nat.reduceMul,Nat.reduceLeDiff,quietOp,blindOp,Int.reduceEq,Int.reduceLT,Int.reduceLE,Nat.reduceLT,tiA,tiXA, Bool.not_false]
    exact ⟨_, rfl, fail (nxR_nil e3)⟩
  | true =>
    obtain ⟨n, gN, c, rfl, rfl, q0, q1, q2, q3, q4, q5, q6, q7⟩ := golfB_at hE
    by_cases h16 : (16 : Int) < (n : Int)
    · have e2 : nxC n gN R = 3 := by unfold nxC; rw [hE, if_pos rfl, if_pos h16]
      have e3 : nxV n gN R = [] := by unfold nxV nxOk; rw [hE, decide_eq_false (by omega)]; rfl
      have e4 : decide ((16 : Int) < (n : Int)) = true := decide_eq_true h16
      rw [e2]
      try simp (disch := first | omega | (simp only [ints_length, List.length_replicate, List.length_set, bools_length, metL_length] <;> omega)) only [Sall,evalOp,init,binA_s,binE,binI,unE,convE,okNil,builtE,gv,TD.isAgg,resV,↓reduceIte,Nat.reduceEqDiff,reduceCtorEq,Nat.reduceAdd,Nat.reduceMul,Nat.reduceLeDiff,quietOp,blindOp,Int.reduceEq,Int.reduceLT,Int.reduceLE,Nat.reduceLT,tiA,tiXA, Bool.not_true, e1, e4]
      exact ⟨_, rfl, fail (nxR_nil e3)⟩
    have e4 : decide ((16 : Int) < (n : Int)) = false := decide_eq_false h16
    try simp (disch := first | omega | (simp only [ints_length, List.length_replicate, List.length_set, bools_length, metL_length] <;> omega)) only [Sall,evalOp,init,binA_s,binE,binI,unE,convE,okNil,builtE,gv,TD.isAgg,resV,↓reduceIte,Nat.reduceEqDiff,reduceCtorEq,Nat.reduceAdd,Nat.reduceMul,Nat.reduceLeDiff,quietOp,blindOp,Int.reduceEq,Int.reduceLT,Int.reduceLE,Nat.reduceLT,tiA,tiXA, Bool.not_true, e1, e4, hone]
    refine (l08Within_c n gN c 0 1 q1 q0 q4 q5 v R H1 hv1 q6 q7).to ?_
    refine Holds.mp ?_
    rw [wit_soc q1 q0 q4 q6 q7]
    cases hS : eachB le1 (gmM n gN R) with
    | false =>
      have e2 : nxC n gN R = 5 := by unfold nxC; rw [hE, if_pos rfl, if_neg h16, Int.toNat_natCast, Int.toNat_natCast, hS, if_neg (by simp)]
      have e3 : nxV n gN R = [] := by unfold nxV nxOk; rw [hE, Int.toNat_natCast, Int.toNat_natCast, hS, Bool.false_and, Bool.and_false, Bool.and_false]; rfl
      rw [e2]
      try simp (disch := first | omega | (simp only [ints_length, List.length_replicate, List.length_set, bools_length, metL_length] <;> omega)) only [Sall,evalOp,init,binA_s,binE,binI,unE,convE,okNil,builtE,gv,TD.isAgg,resV,↓reduceIte,Nat.reduceEqDiff,reduceCtorEq,Nat.reduceAdd,Nat.reduceMul,Nat.reduceLeDiff,quietOp,blindOp,Int.reduceEq,Int.reduceLT,Int.reduceLE,Nat.reduceLT,tiA,tiXA, Bool.not_false]
      exact ⟨_, rfl, fail (nxR_nil e3)⟩
    | true =>
      have e2 : nxC n gN R = if nxV n gN R = [] then 4 else 0 := by unfold nxC; rw [hE, if_pos rfl, if_neg h16, Int.toNat_natCast, Int.toNat_natCast, hS, if_pos rfl]
      have hlen := hv.len
      try simp (disch := first | omega | (simp only [ints_length, List.length_replicate, List.length_set, bools_length, metL_length] <;> omega)) only [Sall,evalOp,init,binA_s,binE,binI,unE,convE,okNil,builtE,gv,TD.isAgg,resV,↓reduceIte,Nat.reduceEqDiff,reduceCtorEq,Nat.reduceAdd,Nat.reduceMul,Nat.reduceLeDiff,quietOp,blindOp,Int.reduceEq,Int.reduceLT,Int.reduceLE,Nat.reduceLT,tiA,tiXA, Bool.not_true]
      refine awp_cutQ (fun t H2 => ∃ u ws, t 4 = u ∧ t 1 = .pointer (some ⟨pi, 0, none⟩) ∧ Ow H1 H2 [.sl 1 28 u ws.length ws, .see (RowsC ws ((nxT n gN (gmM n gN R) n []).take 1))]) ?_ ?_
      · refine draw_pool [0, 1] [2] [3] (OT.run [4, 5] .nil) (by kernel_rfl) (by kernel_rfl) (Nat.le_of_ble_eq_true rfl) (MnJ H1 (gmM n gN R) (.agg #[.int .i64 n, .int .i64 gN, v]) (fun i x => i = 1 → x = .pointer (some ⟨pi, 0, none⟩))) ⟨?_, ?_, ?_⟩ ?_
        · intro c' cs fs t H2 hJ
          rcases hJ.hcs with e | e
          · injection e with e1 e2
            subst e1; subst e2
            obtain ⟨a, b, o, _⟩ := hJ.ow
            have hv2 := hv1.same (o.old o1.sc)
            try simp (disch := first | omega | (simp only [ints_length, List.length_replicate, List.length_set, bools_length, metL_length] <;> omega)) only [Sall,evalOp,init,binA_s,binE,binI,unE,convE,okNil,builtE,gv,TD.isAgg,resV,↓reduceIte,Nat.reduceEqDiff,reduceCtorEq,Nat.reduceAdd,Nat.reduceMul,Nat.reduceLeDiff,quietOp,blindOp,Int.reduceEq,Int.reduceLT,Int.reduceLE,Nat.reduceLT,tiA,tiXA, awpT_nil, awpT_one, awpT_run_nil, awpT_run_cons, awpI_nil, awpI_cons, stepI_op, hJ.t18]
            refine (l08Meetings_c n gN c q1 q0 q4 q5 v R H2 hv2 q6 q7).mono ?_
            intro w H3 o3
            exact ⟨.inr (.inr (o3.up.le o.sc)), hJ.call o3⟩
          · cases e
        · intro a cs fs t H2 ha hJ
          have sc2 : Sc H2 := by obtain ⟨_, _, o, _⟩ := hJ.ow; exact o.sc
          obtain rfl := hJ.hfs a ha
          try simp (disch := first | omega | (simp only [ints_length, List.length_replicate, List.length_set, bools_length, metL_length] <;> omega)) only [Sall,evalOp,init,binA_s,binE,binI,unE,convE,okNil,builtE,gv,TD.isAgg,resV,↓reduceIte,Nat.reduceEqDiff,reduceCtorEq,Nat.reduceAdd,Nat.reduceMul,Nat.reduceLeDiff,quietOp,blindOp,Int.reduceEq,Int.reduceLT,Int.reduceLE,Nat.reduceLT,tiA,tiXA, awpT_nil, awpT_one, awpT_run_nil, awpT_run_cons, awpI_nil, awpI_cons, stepI_op, zeros_zero]
          exact ⟨.inr (.inr (sc2.le _)), hJ.free⟩
        · intro t H2 hJ
          obtain ⟨a, b, o, h1, h2⟩ := hJ.ow
          obtain rfl := h1 (by simp)
          obtain rfl := h2 (by simp)
          have t17 := hJ.t17
          have t1 : t 1 = .pointer (some ⟨pi, 0, none⟩) := ((hJ.oth 1).resolve_right (by omega)) rfl
          try simp (disch := first | omega | (simp only [ints_length, List.length_replicate, List.length_set, bools_length, metL_length] <;> omega)) only [Sall,evalOp,init,binA_s,binE,binI,unE,convE,okNil,builtE,gv,TD.isAgg,resV,↓reduceIte,Nat.reduceEqDiff,reduceCtorEq,Nat.reduceAdd,Nat.reduceMul,Nat.reduceLeDiff,quietOp,blindOp,Int.reduceEq,Int.reduceLT,Int.reduceLE,Nat.reduceLT,tiA,tiXA, awpT_nil, awpT_one, awpT_run_nil, awpT_run_cons, awpI_nil, awpI_cons, stepI_op, t17]
          refine ACalls.mono (l08Next_c n gN c q1 q0 (by omega) v (t 19) hone (gmM n gN R) (gmM_sq n gN R) n [] (t 20) 1 H2 (by simp) (PreN.nil n gN) (by omega) (by omega) (o.sees 0 rfl) (Cp.of_fr (o.fr 1 rfl)) (o.rs 1 rfl)) ?_
          rintro u H3 ⟨ws, o3⟩
          refine ⟨.inr (.inr (o3.up.le o.sc)), ?_⟩
          have huo := o3.one 0 rfl
          have od := (o.call o3).seeBy 1 3 (Q := RowsC ws ((nxT n gN (gmM n gN R) n []).take 1)) rfl rfl (by omega) fun H S hp hq => hq (sl_rs hp)
          try simp (disch := first | omega | (simp only [ints_length, List.length_replicate, List.length_set, bools_length, metL_length] <;> omega)) only [Sall,evalOp,init,binA_s,binE,binI,unE,convE,okNil,builtE,gv,TD.isAgg,resV,↓reduceIte,Nat.reduceEqDiff,reduceCtorEq,Nat.reduceAdd,Nat.reduceMul,Nat.reduceLeDiff,quietOp,blindOp,Int.reduceEq,Int.reduceLT,Int.reduceLE,Nat.reduceLT,tiA,tiXA, awpT_nil, awpT_one, awpT_run_nil, awpT_run_cons, awpI_nil, awpI_cons, stepI_op, huo, t1]
          exact ⟨_, ws, rfl, od.pick2 2 1 rfl rfl (by omega)⟩
        · try simp (disch := first | omega | (simp only [ints_length, List.length_replicate, List.length_set, bools_length, metL_length] <;> omega)) only [Sall,evalOp,init,binA_s,binE,binI,unE,convE,okNil,builtE,gv,TD.isAgg,resV,↓reduceIte,Nat.reduceEqDiff,reduceCtorEq,Nat.reduceAdd,Nat.reduceMul,Nat.reduceLeDiff,quietOp,blindOp,Int.reduceEq,Int.reduceLT,Int.reduceLE,Nat.reduceLT,tiA,tiXA, awpT_nil, awpT_one, awpT_run_nil, awpT_run_cons, awpI_nil, awpI_cons, stepI_op, e1, hone]
          exact ⟨.inl rfl, by simp, rfl, rfl, fun i => .inl fun h => by subst h; rfl, .no, .no, (Ow.refl o1.sc).addNo.addNo, fun k => absurd (by simp) k, fun k => absurd (by simp) k⟩
      · rintro t H2 ⟨u, ws, h4, h1, o2⟩
        have g1 := o2.low pi (by omega)
        rw [e1] at g1
        have hol := o2.lenV 0 rfl
        have hwl : ws.length = ((nxT n gN (gmM n gN R) n []).take 1).length := (o2.sees 1 rfl).1
        rw [hwl] at hol
        have okV : R.length ≠ 12 → nxV n gN R = nxT n gN (gmM n gN R) n [] := fun h12 => by
          unfold nxV
          rw [if_pos (by unfold nxOk; rw [hE, Int.toNat_natCast, Int.toNat_natCast, hS, decide_eq_true h12, decide_eq_true (by omega)]; rfl), Int.toNat_natCast, Int.toNat_natCast]
        have noV : R.length = 12 → nxV n gN R = [] := fun h12 => by unfold nxV nxOk; rw [hE, decide_eq_false (show ¬ R.length ≠ 12 from fun h => h h12), Bool.and_false, Bool.and_false, Bool.and_false]; rfl
        have fail2 : nxV n gN R = [] → Ow H H2 [.see fun H => Rs 1 H (.slice none 0 0) (nxR n gN R).length (nxR n gN R)] := fun h => by
          rw [nxR_nil h]
          exact (Ow.left (L := []) (o1.call o2)).addSee fun H => nilRs H
        rw [e2]
        cases hL : nxT n gN (gmM n gN R) n [] with
        | nil =>
          have e3 : nxV n gN R = [] := by
            by_cases h12 : R.length = 12
            · exact noV h12
            · rw [okV h12, hL]
          rw [hL] at hol
          have e5 : ((([] : List (List Int)).take 1).length : Int) = 0 := rfl
          have e6 : ((0 : Int) == 0) = true := rfl
          rw [if_pos e3]
          try simp (disch := first | omega | (simp only [ints_length, List.length_replicate, List.length_set, bools_length, metL_length] <;> omega)) only [Sall,evalOp,init,binA_s,binE,binI,unE,convE,okNil,builtE,gv,TD.isAgg,resV,↓reduceIte,Nat.reduceEqDiff,reduceCtorEq,Nat.reduceAdd,Nat.reduceMul,Nat.reduceLeDiff,quietOp,blindOp,Int.reduceEq,Int.reduceLT,Int.reduceLE,Nat.reduceLT,tiA,tiXA, h4, builtE, hol, e5, e6]
          exact ⟨_, rfl, fail2 e3⟩
        | cons r L =>
          rw [hL] at hol
          have e5 : (((r :: L).take 1).length : Int) = 1 := rfl
          have e6 : ((1 : Int) == 0) = false := rfl
          by_cases h12 : R.length = 12
          · have e7 : ((R.length : Int) == 12) = true := by rw [h12]; rfl
            rw [if_pos (noV h12)]
            try simp (disch := first | omega | (simp only [ints_length, List.length_replicate, List.length_set, bools_length, metL_length] <;> omega)) only [Sall,evalOp,init,binA_s,binE,binI,unE,convE,okNil,builtE,gv,TD.isAgg,resV,↓reduceIte,Nat.reduceEqDiff,reduceCtorEq,Nat.reduceAdd,Nat.reduceMul,Nat.reduceLeDiff,quietOp,blindOp,Int.reduceEq,Int.reduceLT,Int.reduceLE,Nat.reduceLT,tiA,tiXA, h4, h1, g1, builtE, hol, e5, e6, hlen, e7]
            exact ⟨_, rfl, fail2 (noV h12)⟩
          · have e7 : ((R.length : Int) == 12) = false := beq_eq_false_iff_ne.2 (by omega)
            have e8 : nxR n gN R = r := by unfold nxR; rw [okV h12, hL]; rfl
            rw [if_neg (by rw [okV h12, hL]; simp), e8]
            try simp (disch := first | omega | (simp only [ints_length, List.length_replicate, List.length_set, bools_length, metL_length] <;> omega)) only [Sall,evalOp,init,binA_s,binE,binI,unE,convE,okNil,builtE,gv,TD.isAgg,resV,↓reduceIte,Nat.reduceEqDiff,reduceCtorEq,Nat.reduceAdd,Nat.reduceMul,Nat.reduceLeDiff,quietOp,blindOp,Int.reduceEq,Int.reduceLT,Int.reduceLE,Nat.reduceLT,tiA,tiXA, h4, h1, g1, builtE, hol, e5, e6, hlen, e7]
            rw [hL] at hwl
            obtain ⟨wi, b1, b2, rfl, hwr⟩ := o2.get 0 rfl (by rw [hwl]; simp)
            have hro : ∀ H : AH, RowsC ws ((nxT n gN (gmM n gN R) n []).take 1) H → ∃ x, ws[0]? = some x ∧ Rs 1 H x r.length r := fun H hh => by
              rw [hL] at hh
              exact hh.2 0 (by simp)
            obtain ⟨x, hx, hxs⟩ := hro H2 (o2.sees 1 rfl)
            have hx1 := hxs.rd.one
            have hok : Go.Abs.Row.ok ⟨28, true, ws⟩ [x] = True := eq_true (.inl rfl)
            have hpos : 0 < ws.length := by rw [hwl]; simp
            have et0 : Int.toNat 0 = 0 := rfl
            have hpi : (0 : Int) < (ws.length : Int) := by omega
            try simp (disch := first | omega | (simp only [ints_length, List.length_replicate, List.length_set, bools_length, metL_length] <;> omega)) only [Sall,evalOp,init,binA_s,binE,binI,unE,convE,okNil,builtE,gv,TD.isAgg,resV,↓reduceIte,Nat.reduceEqDiff,reduceCtorEq,Nat.reduceAdd,Nat.reduceMul,Nat.reduceLeDiff,quietOp,blindOp,Int.reduceEq,Int.reduceLT,Int.reduceLE,Nat.reduceLT,tiA,tiXA, hwr, hx, hx1, hok, et0, hpi]
            refine ⟨_, rfl, ?_⟩
            refine ((o1.call o2).only 2 rfl).toSee 0 rfl fun H S hp => ?_
            obtain ⟨x', hx', hxs'⟩ := hro H (hp H fun _ _ _ h => h)
            rw [hx] at hx'
            cases hx'
            exact hxs'
end Go.Proofs.YtollphjompimjaaGreat.A
end

section
set_option maxRecDepth 100000
set_option maxHeartbeats 2000000
namespace Go.Proofs.YtollphjompimjaaGreat.A
open Go Go.Abs Go.RowKit
structure InvF (Hb : AH) (n g xi : Nat) (s : Option (List (List Int))) (H : AH) : Prop where
  none : s = none
  keep : ∀ j, j < Hb.next → j ≠ xi → H.row j = Hb.row j
  row : ∃ v, v.oneCell' = true ∧ H.row xi = some ⟨26, true, [.int .i64 n, .int .i64 g, v]⟩
def FinF (Hb : AH) (n g xi e : Nat) (Q : Nat → Prop) (s : Option (List (List Int))) (H : AH) : Prop :=
  ∃ X v ws, s = some X ∧ (∀ j, j < Hb.next → j ≠ xi → H.row j = Hb.row j) ∧ v.oneCell' = true ∧ H.row xi = some ⟨26, true, [.int .i64 n, .int .i64 g, v]⟩ ∧ ∀ H2 : AH, (∀ j, j < H.next → (Q j ∨ e ≤ j) → H2.row j = H.row j) → Rc v ws X H2
def ExtC (n g k : Nat) : Prop := ∀ (R : List (List Int)) (xi : Nat) (v : Value) (ws : List Value) (H : AH) (Q : Nat → Prop), R.length + k ≤ 12 → (∀ i, i < R.length → ordB n (R.getD i []) = true) → xi < H.next → (∀ j, Q j → j < H.next ∧ j ≠ xi) → v.oneCell' = true → H.row xi = some ⟨26, true, [.int .i64 n, .int .i64 g, v]⟩ → (∀ H2 : AH, (∀ j, Q j → H2.row j = H.row j) → Rc v ws R H2) →
  ACalls Tryz.prog 44 [.pointer (some ⟨xi, 0, none⟩), .int .i64 k] H (fun u H' => u = .bool (fgF n g k R).isSome ∧ H.next ≤ H'.next ∧ (∀ j, j < H.next → j ≠ xi → H'.row j = H.row j) ∧ ∃ v', v'.oneCell' = true ∧ H'.row xi = some ⟨26, true, [.int .i64 n, .int .i64 g, v']⟩ ∧ ∀ X, fgF n g k R = some X → ∃ ws', ∀ H2 : AH, (∀ j, j < H'.next → (Q j ∨ H.next ≤ j) → H2.row j = H'.row j) → Rc v' ws' X H2)
theorem ext1_c {n g k : Nat} (hn1 : 1 ≤ n) (hn25 : n ≤ 25) (hE : ExtC n g k) (R : List (List Int)) (hl : R.length + (k + 1) ≤ 12) (hR : ∀ i, i < R.length → ordB n (R.getD i []) = true) (Hb : AH) (xi oi bx kc e : Nat) (ov : Value) (ws : List Value) (Q : Nat → Prop)
    (hne : oi ≠ xi ∧ bx ≠ xi ∧ kc ≠ xi) (hlt : xi < e ∧ e ≤ Hb.next ∧ oi < Hb.next ∧ bx < Hb.next ∧ kc < Hb.next) (hQ : ∀ j, Q j → j < e ∧ j ≠ xi)
    (hoi : Hb.row oi = some ⟨26, true, [.int .i64 n, .int .i64 g, ov]⟩) (hbx : Hb.row bx = some ⟨80, true, [.pointer (some ⟨xi, 0, none⟩)]⟩) (hkc : Hb.row kc = some ⟨2, true, [.int .i64 ((k + 1 : Nat) : Int)]⟩)
    (hov : ∀ H2 : AH, (∀ j, j < Hb.next → j ≠ xi → H2.row j = Hb.row j) → Rc ov ws R H2) (hrw : ∀ H2 : AH, (∀ j, Q j → H2.row j = Hb.row j) → RowsC ws R H2) :
    CallT n g 66 [.pointer (some ⟨oi, 0, none⟩), .pointer (some ⟨bx, 0, none⟩), .pointer (some ⟨kc, 0, none⟩)] Hb.next (InvF Hb n g xi) (FinF Hb n g xi e Q) (stepF fun r => fgF n g k (R ++ [r])) where
  low := fun s H H' h hr => by
    obtain ⟨h1, h2, v, h3, h4⟩ := h
    exact ⟨h1, fun j hj hn => by rw [hr j hj]; exact h2 j hj hn, v, h3, by rw [hr xi (by omega)]; exact h4⟩
  call := fun s r rv Hc hI hb hs hP hrl hrv => by
    obtain ⟨hs0, hkeep, v, hv1, hv2⟩ := hI
    rw [hs0]
    clear hs0 s
    refine acalls_of_awp [.tmp 5] Tryz.func66 (by kernel_rfl) rfl rfl (Nat.le_of_ble_eq_true rfl) (by kernel_rfl) ?_
    have q1 := hkeep oi hlt.2.2.1 hne.1
    have q2 := hkeep bx hlt.2.2.2.1 hne.2.1
    have q3 := hkeep kc hlt.2.2.2.2 hne.2.2
    rw [hoi] at q1
    rw [hbx] at q2
    rw [hkc] at q3
    have hrc := hov Hc hkeep
    have hovo := hrc.rg.one
    have hwl : ws.length = R.length := hrc.1.1
    rw [← hrl] at hrv
    try simp (disch := first | omega | (simp only [ints_length, List.length_replicate, List.length_set, bools_length, metL_length] <;> omega)) only [Sall,evalOp,init,binA_s,binE,binI,unE,convE,okNil,builtE,gv,TD.isAgg,resV,↓reduceIte,Nat.reduceEqDiff,reduceCtorEq,Nat.reduceAdd,Nat.reduceMul,Nat.reduceLeDiff,quietOp,blindOp,Int.reduceEq,Int.reduceLT,Int.reduceLE,Nat.reduceLT,tiA,tiXA, true_and]
    refine draw_inS (fun j => j < Hc.next) [0, 1, 2, 4, 3, 5, 6, 7, 8, 9, 10] (by kernel_rfl) (by kernel_rfl) rfl ?_
    have hb1 : bx < Hc.next := by omega
    have ho1 : oi < Hc.next := by omega
    try simp (disch := first | omega | (simp only [ints_length, List.length_replicate, List.length_set, bools_length, metL_length] <;> omega)) only [Sall,evalOp,init,binA_s,binE,binI,unE,convE,okNil,builtE,gv,TD.isAgg,resV,↓reduceIte,Nat.reduceEqDiff,reduceCtorEq,Nat.reduceAdd,Nat.reduceMul,Nat.reduceLeDiff,quietOp,blindOp,Int.reduceEq,Int.reduceLT,Int.reduceLE,Nat.reduceLT,tiA,tiXA, awpIS_nil, awpIS_cons, stepIS_op, loadOk, q1, q2, hovo, hb1, ho1]
    refine (cloneLL_c ov ws R Hc hrc (by omega)).mono ?_
    intro u1 H1 o1
    have hu1 := o1.one 0 rfl
    have hrv1 := hrv.same (o1.old hs)
    refine ⟨.inr (.inr (LE.les (o1.up.le hs))), ?_⟩
    try simp (disch := first | omega | (simp only [ints_length, List.length_replicate, List.length_set, bools_length, metL_length] <;> omega)) only [Sall,evalOp,init,binA_s,binE,binI,unE,convE,okNil,builtE,gv,TD.isAgg,resV,↓reduceIte,Nat.reduceEqDiff,reduceCtorEq,Nat.reduceAdd,Nat.reduceMul,Nat.reduceLeDiff,quietOp,blindOp,Int.reduceEq,Int.reduceLT,Int.reduceLE,Nat.reduceLT,tiA,tiXA, awpIS_nil, awpIS_cons, stepIS_op, loadOk]
    refine ACalls.mono (cloneI_c rv r H1 ⟨hrv1.rd, fun h => by omega⟩ (by omega)).sc ?_
    rintro u2 H2 ⟨⟨up2, hf2⟩, sc2⟩
    have o2 := o1.call (Ow.of_fr up2 sc2 hf2)
    have hu2 := o2.one 1 rfl
    refine ⟨.inr (.inr (LE.les (up2.le o1.sc))), ?_⟩
    have zz : zeros 1 [.slice none 0 0] = [.slice none 0 0] := rfl
    have hq1 := cells_of_one hu2
    have hq2 := noTuple_of_one hu2
    have hq3 := fun r => ok_one (r := r) hu2
    try simp (disch := first | omega | (simp only [ints_length, List.length_replicate, List.length_set, bools_length, metL_length] <;> omega)) only [Sall,evalOp,init,binA_s,binE,binI,unE,convE,okNil,builtE,gv,TD.isAgg,resV,↓reduceIte,Nat.reduceEqDiff,reduceCtorEq,Nat.reduceAdd,Nat.reduceMul,Nat.reduceLeDiff,quietOp,blindOp,Int.reduceEq,Int.reduceLT,Int.reduceLE,Nat.reduceLT,tiA,tiXA, awpIS_nil, awpIS_cons, stepIS_op, loadOk, hu2, hq1, hq2, hq3, zz, slCells]
    refine ⟨.inr (.inr (LE.les (o2.sc.le _))), ?_⟩
    refine (o2.tmp ⟨28, true, [u2]⟩).app 0 (c := 1) (ms := [u2]) rfl rfl (by omega) rfl (by omega) (by decide) (by omega) ?_
    intro u3 H3 n3 o3
    refine ⟨.inr (.inr (les_low (o2.tmp ⟨28, true, [u2]⟩) o3 (by omega))), ?_⟩
    have hu3 := o3.one 0 rfl
    have q4 : H3.row xi = some ⟨26, true, [.int .i64 n, .int .i64 g, v]⟩ := by rw [o3.low xi (by omega)]; exact hv2
    have o3n := o3.next
    have q5 : H3.row bx = some ⟨80, true, [.pointer (some ⟨xi, 0, none⟩)]⟩ := by rw [o3.low _ hb1]; exact q2
    have q6 : H3.row kc = some ⟨2, true, [.int .i64 ((k + 1 : Nat) : Int)]⟩ := by rw [o3.low _ (by omega)]; exact q3
    have ek : ((k + 1 : Nat) : Int) - 1 = (k : Int) := by omega
    have hk12 : k ≤ 12 := by omega
    have hne1 : ¬ bx = xi := hne.2.1
    have hne2 : ¬ kc = xi := hne.2.2
    try simp (disch := first | omega | (simp only [ints_length, List.length_replicate, List.length_set, bools_length, metL_length] <;> omega)) only [Sall,evalOp,init,binA_s,binE,binI,unE,convE,okNil,builtE,gv,TD.isAgg,resV,↓reduceIte,Nat.reduceEqDiff,reduceCtorEq,Nat.reduceAdd,Nat.reduceMul,Nat.reduceLeDiff,quietOp,blindOp,Int.reduceEq,Int.reduceLT,Int.reduceLE,Nat.reduceLT,tiA,tiXA, awpIS_nil, awpIS_cons, stepIS_op, loadOk, q4, hu3, q5, q6, hne1, hne2, ek, w64]
    refine ⟨.inr (.inl (by kernel_rfl)), ?_⟩
    have hXr : (H3.setCells xi [.int .i64 n, .int .i64 g, u3]).row xi = some ⟨26, true, [.int .i64 n, .int .i64 g, u3]⟩ := by rw [AH.setCells_row, if_pos rfl, q4]; rfl
    have hXn : ∀ j, j ≠ xi → (H3.setCells xi [.int .i64 n, .int .i64 g, u3]).row j = H3.row j := fun j hj => by rw [AH.setCells_row, if_neg hj]
    have hXx : (H3.setCells xi [.int .i64 n, .int .i64 g, u3]).next = H3.next := rfl
    generalize H3.setCells xi [.int .i64 n, .int .i64 g, u3] = H4 at hXr hXn hXx ⊢
    have hRc : ∀ H2' : AH, (∀ j, (Q j ∨ (Hc.next ≤ j ∧ j < H4.next)) → H2'.row j = H4.row j) → Rc u3 (ws ++ [u2]) (R ++ [r]) H2' := fun H2' hh => by
      have hst : ∀ i rr, Hc.next ≤ i ∧ i < H3.next → H3.row i = some rr → H2'.row i = some rr := fun i rr hi hr => by
        rw [hh i (.inr (by omega)), hXn i (by omega)]; exact hr
      obtain ⟨S1, hS1, hp1⟩ := o3.at (k := 0) rfl
      obtain ⟨S2, hS2, hp2⟩ := o3.at (k := 1) rfl
      have hp1' := (Th.sl _ _ _ _ _).loc H3 H2' S1 S1 (fun _ h => h) (fun i rr hi hr => hst i rr (hS1 i hi) hr) hp1
      have hp2' := (Th.sl _ _ _ _ _).loc H3 H2' S2 S2 (fun _ h => h) (fun i rr hi hr => hst i rr (hS2 i hi) hr) hp2
      refine rc_of_sl (RowsC.snoc (hrw H2' fun j hj => ?_) (sl_rs hp2')) hp1'
      obtain ⟨j1, j2⟩ := hQ j hj
      rw [hh j (.inl hj), hXn j j2, o3.low j (by omega), hkeep j (by omega) j2]
    have hR2 : ∀ i, i < (R ++ [r]).length → ordB n ((R ++ [r]).getD i []) = true := fun i hi => by
      rw [List.length_append, List.length_singleton] at hi
      by_cases e : i < R.length
      · rw [List.getD_eq_getElem?_getD, List.getElem?_append_left e, ← List.getD_eq_getElem?_getD]; exact hR i e
      · rw [show i = R.length by omega, List.getD_eq_getElem?_getD, List.getElem?_append_right (Nat.le_refl _), Nat.sub_self]
        exact (ordB_iff n r).2 ⟨hrl, hP.rng, hP.nd⟩
    refine (hE (R ++ [r]) xi u3 (ws ++ [u2]) H4 (fun j => Q j ∨ (Hc.next ≤ j ∧ j < H4.next)) (by rw [List.length_append, List.length_singleton]; omega) hR2 (by omega) (fun j hj => by rcases hj with hj | hj; have := hQ j hj; exact ⟨by omega, this.2⟩; exact ⟨hj.2, by omega⟩) hu3 hXr hRc).scf.fin ?_
    rintro H5 ⟨⟨n5, hk5, v', hv1', hv2', hX⟩, sc5⟩
    have hkeep5 : ∀ j, j < Hc.next → j ≠ xi → H5.row j = Hc.row j := fun j j1 j2 => by rw [hk5 j (by omega) j2, hXn j j2, o3.low j j1]
    refine Holds.mp ?_
    cases hF : fgF n g k (R ++ [r]) with
    | none =>
      have eS : stepF (fun r => fgF n g k (R ++ [r])) none r = (true, none) := by unfold stepF; dsimp only; rw [hF]
      rw [eS]
      try simp (disch := first | omega | (simp only [ints_length, List.length_replicate, List.length_set, bools_length, metL_length] <;> omega)) only [Sall,evalOp,init,binA_s,binE,binI,unE,convE,okNil,builtE,gv,TD.isAgg,resV,↓reduceIte,Nat.reduceEqDiff,reduceCtorEq,Nat.reduceAdd,Nat.reduceMul,Nat.reduceLeDiff,quietOp,blindOp,Int.reduceEq,Int.reduceLT,Int.reduceLE,Nat.reduceLT,tiA,tiXA, Option.isSome_none, Bool.not_false]
      exact ⟨by omega, sc5, fun i h1 h2 => hkeep5 i h2 (by omega), fun _ => ⟨rfl, fun j hj hn => by rw [hkeep5 j (by omega) hn]; exact hkeep j hj hn, v', hv1', hv2'⟩, fun h => h.elim⟩
    | some X =>
      have eS : stepF (fun r => fgF n g k (R ++ [r])) none r = (false, some X) := by unfold stepF; dsimp only; rw [hF]
      rw [eS]
      obtain ⟨ws', hws'⟩ := hX X hF
      try simp (disch := first | omega | (simp only [ints_length, List.length_replicate, List.length_set, bools_length, metL_length] <;> omega)) only [Sall,evalOp,init,binA_s,binE,binI,unE,convE,okNil,builtE,gv,TD.isAgg,resV,↓reduceIte,Nat.reduceEqDiff,reduceCtorEq,Nat.reduceAdd,Nat.reduceMul,Nat.reduceLeDiff,quietOp,blindOp,Int.reduceEq,Int.reduceLT,Int.reduceLE,Nat.reduceLT,tiA,tiXA, Option.isSome_some, Bool.not_true]
      refine ⟨by omega, sc5, fun i h1 h2 => hkeep5 i h2 (by omega), fun h => h.elim, fun _ H2' h2 h3 => ⟨X, v', ws', rfl, fun j hj hn => ?_, hv1', ?_, fun H6 h6 => hws' H6 fun j j1 j2 => ?_⟩⟩
      · rw [h3 j (by omega) (.inl hj), hkeep5 j (by omega) hn]; exact hkeep j hj hn
      · rw [h3 xi (by omega) (.inl (by omega))]; exact hv2'
      · by_cases hq : Q j
        · have := hQ j hq
          rw [h6 j (by omega) (.inl hq), h3 j j1 (.inl (by omega))]
        · have hj : Hc.next ≤ j := by
            rcases j2 with (j2 | j2) | j2
            · exact absurd j2 hq
            · omega
            · omega
          rw [h6 j (by omega) (.inr (by omega)), h3 j j1 (.inr hj)]
theorem extended_c {n g c : Nat} (hg : 2 ≤ g) (hn : n = g * c) (hn25 : n ≤ 25) (hgn : g ≤ n) : ∀ k, ExtC n g k := by
  intro k
  induction k with
  | zero =>
    intro R xi v ws H Q hl hR hxi hQ hone hx hv
    refine ACalls.wf (by kernel_rfl) fun hs => acalls_of_awp [.tmp 4] Tryz.func44 (by kernel_rfl) rfl rfl (Nat.le_of_ble_eq_true rfl) (by kernel_rfl) ?_
    have e0 : ((0 : Nat) : Int) = 0 := rfl
    have e1 : ((0 : Int) == 0) = true := rfl
    have o1 := ((Ow.refl hs).tmp ⟨80, true, [.pointer (some ⟨xi, 0, none⟩)]⟩).tmp ⟨2, true, [.int .i64 0]⟩
    try simp (disch := first | omega | (simp only [ints_length, List.length_replicate, List.length_set, bools_length, metL_length] <;> omega)) only [Sall,evalOp,init,binA_s,binE,binI,unE,convE,okNil,builtE,gv,TD.isAgg,resV,↓reduceIte,Nat.reduceEqDiff,reduceCtorEq,Nat.reduceAdd,Nat.reduceMul,Nat.reduceLeDiff,quietOp,blindOp,Int.reduceEq,Int.reduceLT,Int.reduceLE,Nat.reduceLT,tiA,tiXA, e0, e1]
    have hro : ∀ j, j < H.next → (if j = H.next + 1 then some ⟨2, true, [.int .i64 0]⟩ else if j = H.next then some ⟨80, true, [.pointer (some ⟨xi, 0, none⟩)]⟩ else H.row j) = H.row j := fun j hj => by rw [if_neg (by omega), if_neg (by omega)]
    refine ⟨rfl, by omega, fun j j1 _ => hro j j1, v, hone, by rw [hro xi hxi]; exact hx, fun X hX => ⟨ws, fun H2 h2 => ?_⟩⟩
    have e : R = X := by simpa [fgF] using hX
    subst e
    exact hv H2 fun j hj => by
      have := (hQ j hj).1
      rw [h2 j (by omega) (.inl hj), hro j this]
  | succ k ih =>
    intro R xi v ws H Q hl hR hxi hQ hone hx hv
    refine ACalls.wf (by kernel_rfl) fun hs => acalls_of_awp [.tmp 4] Tryz.func44 (by kernel_rfl) rfl rfl (Nat.le_of_ble_eq_true rfl) (by kernel_rfl) ?_
    have e1 : (((k + 1 : Nat) : Int) == 0) = false := beq_eq_false_iff_ne.2 (by omega)
    have o1 := ((Ow.refl hs).push ⟨80, true, [.pointer (some ⟨xi, 0, none⟩)]⟩).push ⟨2, true, [.int .i64 ((k + 1 : Nat) : Int)]⟩
    have o1 : Ow H ((H.push ⟨80, true, [.pointer (some ⟨xi, 0, none⟩)]⟩).push ⟨2, true, [.int .i64 ((k + 1 : Nat) : Int)]⟩) [.row H.next ⟨80, true, [.pointer (some ⟨xi, 0, none⟩)]⟩, .row (H.next + 1) ⟨2, true, [.int .i64 ((k + 1 : Nat) : Int)]⟩] := o1
    try simp (disch := first | omega | (simp only [ints_length, List.length_replicate, List.length_set, bools_length, metL_length] <;> omega)) only [Sall,evalOp,init,binA_s,binE,binI,unE,convE,okNil,builtE,gv,TD.isAgg,resV,↓reduceIte,Nat.reduceEqDiff,reduceCtorEq,Nat.reduceAdd,Nat.reduceMul,Nat.reduceLeDiff,quietOp,blindOp,Int.reduceEq,Int.reduceLT,Int.reduceLE,Nat.reduceLT,tiA,tiXA, true_and]
    have nA : ((H.push ⟨80, true, [.pointer (some ⟨xi, 0, none⟩)]⟩).push ⟨2, true, [.int .i64 ((k + 1 : Nat) : Int)]⟩).next = H.next + 2 := rfl
    generalize (H.push ⟨80, true, [.pointer (some ⟨xi, 0, none⟩)]⟩).push ⟨2, true, [.int .i64 ((k + 1 : Nat) : Int)]⟩ = A at o1 nA ⊢
    have ek : (k : Int) + 1 = ((k + 1 : Nat) : Int) := by omega
    have qx : A.row xi = some ⟨26, true, [.int .i64 n, .int .i64 g, v]⟩ := by rw [o1.low xi hxi]; exact hx
    have qb := (o1.rowAt 0 rfl).1
    have hQA : ∀ j, Q j → A.row j = H.row j := fun j hj => o1.low j (hQ j hj).1
    have hrA := hv A hQA
    have hwl : ws.length = R.length := hrA.1.1
    have hA1 : H.next < A.next := by omega
    have hA2 : xi < A.next := by omega
    try simp (disch := first | omega | (simp only [ints_length, List.length_replicate, List.length_set, bools_length, metL_length] <;> omega)) only [Sall,evalOp,init,binA_s,binE,binI,unE,convE,okNil,builtE,gv,TD.isAgg,resV,↓reduceIte,Nat.reduceEqDiff,reduceCtorEq,Nat.reduceAdd,Nat.reduceMul,Nat.reduceLeDiff,quietOp,blindOp,Int.reduceEq,Int.reduceLT,Int.reduceLE,Nat.reduceLT,tiA,tiXA, e1]
    refine awp_cutQ (fun t H2 => ∃ oi ov, t 5 = .pointer (some ⟨oi, 0, none⟩) ∧ t 2 = .pointer (some ⟨H.next, 0, none⟩) ∧ t 3 = .pointer (some ⟨H.next + 1, 0, none⟩) ∧ ov.oneCell' = true ∧ Ow A H2 [.row oi ⟨26, true, [.int .i64 n, .int .i64 g, ov]⟩, .sl 1 28 ov ws.length ws]) ?_ ?_
    · refine draw_treeS (fun j => j < A.next) (OT.run [0, 1, 2, 3, 4, 5, 6, 7, 8, 9, 10, 11] (.two 12 14 (OT.run [13, 14, 15] .nil) (OT.run [12, 13, 15] .nil))) (by kernel_rfl) (by kernel_rfl) (Nat.le_of_ble_eq_true rfl) ?_
      try simp (disch := first | omega | (simp only [ints_length, List.length_replicate, List.length_set, bools_length, metL_length] <;> omega)) only [Sall,evalOp,init,binA_s,binE,binI,unE,convE,okNil,builtE,gv,TD.isAgg,resV,↓reduceIte,Nat.reduceEqDiff,reduceCtorEq,Nat.reduceAdd,Nat.reduceMul,Nat.reduceLeDiff,quietOp,blindOp,Int.reduceEq,Int.reduceLT,Int.reduceLE,Nat.reduceLT,tiA,tiXA, awpTS_run_nil, awpTS_run_cons, awpTS_nil, awpTS_one, stepIS_op, loadOk, qb, qx, hone, hA1, hA2]
      refine awpTS_two ?_ ?_
      · try simp (disch := first | omega | (simp only [ints_length, List.length_replicate, List.length_set, bools_length, metL_length] <;> omega)) only [Sall,evalOp,init,binA_s,binE,binI,unE,convE,okNil,builtE,gv,TD.isAgg,resV,↓reduceIte,Nat.reduceEqDiff,reduceCtorEq,Nat.reduceAdd,Nat.reduceMul,Nat.reduceLeDiff,quietOp,blindOp,Int.reduceEq,Int.reduceLT,Int.reduceLE,Nat.reduceLT,tiA,tiXA, awpTS_run_nil, awpTS_run_cons, awpTS_nil, awpTS_one, stepIS_op, loadOk]
        refine ACalls.mono (cloneLL_c v ws R A hrA (by omega)) ?_
        intro u1 H1 o2
        have hu1 := o2.one 0 rfl
        refine ⟨.inr (.inr (LE.les (o2.up.le o1.sc))), ?_⟩
        have hq1 := cells_of_one hu1
        have hq2 := noTuple_of_one hu1
        try simp (disch := first | omega | (simp only [ints_length, List.length_replicate, List.length_set, bools_length, metL_length] <;> omega)) only [Sall,evalOp,init,binA_s,binE,binI,unE,convE,okNil,builtE,gv,TD.isAgg,resV,↓reduceIte,Nat.reduceEqDiff,reduceCtorEq,Nat.reduceAdd,Nat.reduceMul,Nat.reduceLeDiff,quietOp,blindOp,Int.reduceEq,Int.reduceLT,Int.reduceLE,Nat.reduceLT,tiA,tiXA, awpTS_run_nil, awpTS_run_cons, awpTS_nil, awpTS_one, stepIS_op, loadOk, hu1, hq1, hq2]
        exact ⟨.inr (.inr (LE.les (o2.sc.le _))), .inr (.inr (les_set o2.next _)), H1.next, u1, rfl, hu1, ((o2.push ⟨26, true, [.int .i64 0, .int .i64 0, .slice none 0 0]⟩).putRow 1 rfl (cs' := [.int .i64 n, .int .i64 g, u1])).pick2 1 0 rfl rfl (by omega)⟩
      · try simp (disch := first | omega | (simp only [ints_length, List.length_replicate, List.length_set, bools_length, metL_length] <;> omega)) only [Sall,evalOp,init,binA_s,binE,binI,unE,convE,okNil,builtE,gv,TD.isAgg,resV,↓reduceIte,Nat.reduceEqDiff,reduceCtorEq,Nat.reduceAdd,Nat.reduceMul,Nat.reduceLeDiff,quietOp,blindOp,Int.reduceEq,Int.reduceLT,Int.reduceLE,Nat.reduceLT,tiA,tiXA, awpTS_run_nil, awpTS_run_cons, awpTS_nil, awpTS_one, stepIS_op, loadOk]
        refine ⟨.inr (.inr (LE.les (o1.sc.le _))), ?_⟩
        have oA := (Ow.refl o1.sc).push ⟨26, true, [.int .i64 0, .int .i64 0, .slice none 0 0]⟩
        have hrB := hrA.same (oA.old o1.sc)
        refine ACalls.mono (cloneLL_c v ws R _ hrB (by omega)) ?_
        intro u1 H1 o2'
        have o2 := oA.call o2'
        have hu1 := o2.one 1 rfl
        have g1 := (o2.rowAt 0 rfl).1
        refine ⟨.inr (.inr (LE.les (o2'.up.le oA.sc))), ?_⟩
        have hq1 := cells_of_one hu1
        have hq2 := noTuple_of_one hu1
        try simp (disch := first | omega | (simp only [ints_length, List.length_replicate, List.length_set, bools_length, metL_length] <;> omega)) only [Sall,evalOp,init,binA_s,binE,binI,unE,convE,okNil,builtE,gv,TD.isAgg,resV,↓reduceIte,Nat.reduceEqDiff,reduceCtorEq,Nat.reduceAdd,Nat.reduceMul,Nat.reduceLeDiff,quietOp,blindOp,Int.reduceEq,Int.reduceLT,Int.reduceLE,Nat.reduceLT,tiA,tiXA, awpTS_run_nil, awpTS_run_cons, awpTS_nil, awpTS_one, stepIS_op, loadOk, hu1, hq1, hq2, g1]
        exact ⟨.inr (.inr (les_set (Nat.le_refl _) _)), A.next, u1, rfl, hu1, o2.putRow 0 rfl (cs' := [.int .i64 n, .int .i64 g, u1])⟩
    · rintro t H2 ⟨oi, ov, h5, h2, h3, hov, o2⟩
      have qo := (o2.rowAt 0 rfl).1
      have hmem : ∀ v ∈ [Value.pointer (some ⟨oi, 0, none⟩), .pointer (some ⟨H.next, 0, none⟩), .pointer (some ⟨H.next + 1, 0, none⟩)], v.oneCell' = true := by simp [Value.oneCell']
      try simp (disch := first | omega | (simp only [ints_length, List.length_replicate, List.length_set, bools_length, metL_length] <;> omega)) only [Sall,evalOp,init,binA_s,binE,binI,unE,convE,okNil,builtE,gv,TD.isAgg,resV,↓reduceIte,Nat.reduceEqDiff,reduceCtorEq,Nat.reduceAdd,Nat.reduceMul,Nat.reduceLeDiff,quietOp,blindOp,Int.reduceEq,Int.reduceLT,Int.reduceLE,Nat.reduceLT,tiA,tiXA, h5, h2, h3, qo, hov]
      have hst : ∀ H2' : AH, (∀ j, j < H2.next → j ≠ xi → H2'.row j = H2.row j) → Rc ov ws R H2' := fun H2' hh => by
        obtain ⟨S1, hS1, hp1⟩ := o2.at (k := 1) rfl
        have hp1' := (Th.sl _ _ _ _ _).loc H2 H2' S1 S1 (fun _ h => h) (fun i rr hi hr => by rw [hh i (hS1 i hi).2 (by have := (hS1 i hi).1; omega)]; exact hr) hp1
        exact rc_of_sl (hv H2' fun j hj => by
          obtain ⟨j1, j2⟩ := hQ j hj
          have := o2.next
          rw [hh j (by omega) j2, o2.low j (by omega), hQA j hj]).1 hp1'
      have n2 := o2.next
      have hoi := (o2.rowAt 0 rfl).2
      have hxi2 : H2.row xi = some ⟨26, true, [.int .i64 n, .int .i64 g, v]⟩ := by rw [o2.low xi hA2]; exact qx
      have hC := ext1_c (by omega) hn25 ih R hl hR H2 xi oi H.next (H.next + 1) H.next ov ws Q ⟨by omega, by omega, by omega⟩ ⟨by omega, by omega, by omega, by omega, by omega⟩ hQ qo (by rw [o2.low _ hA1]; exact qb) (by rw [o2.low _ (by omega)]; exact (o1.rowAt 1 rfl).1) hst (fun H2' hh => (hv H2' fun j hj => by
        rw [hh j hj, o2.low j (by have := (hQ j hj).1; omega), hQA j hj]).1)
      refine ⟨hmem, (tidies_c hg hn hn25 hgn 66 _ _ _ _ none ov R H2 hC ⟨rfl, fun _ _ _ => rfl, v, hone, hxi2⟩ (hst H2 fun _ _ _ => rfl).rg (by omega) hR).fin ?_⟩
      rintro H3 ⟨n3, hT, hF⟩
      have hfg : fgF n g (k + 1) R = (nxT n g (gmM n g R) n []).findSome? fun r => fgF n g k (R ++ [r]) := rfl
      rw [foldF, ← hfg] at hT hF
      rw [foldF, ← hfg]
      refine Holds.mp ?_
      cases hX : fgF n g (k + 1) R with
      | none =>
        rw [hX] at hT
        obtain ⟨_, i2, v', i3, i4⟩ := hT rfl
        try simp (disch := first | omega | (simp only [ints_length, List.length_replicate, List.length_set, bools_length, metL_length] <;> omega)) only [Sall,evalOp,init,binA_s,binE,binI,unE,convE,okNil,builtE,gv,TD.isAgg,resV,↓reduceIte,Nat.reduceEqDiff,reduceCtorEq,Nat.reduceAdd,Nat.reduceMul,Nat.reduceLeDiff,quietOp,blindOp,Int.reduceEq,Int.reduceLT,Int.reduceLE,Nat.reduceLT,tiA,tiXA, Option.isSome_none, Bool.not_true]
        exact ⟨by omega, fun j j1 j2 => by rw [i2 j (by omega) j2, o2.low j (by omega), o1.low j j1], v', i3, i4, fun X h => h.elim⟩
      | some X =>
        rw [hX] at hF
        obtain ⟨X', v', ws', eX, i2, i3, i4, i5⟩ := hF rfl
        cases eX
        try simp (disch := first | omega | (simp only [ints_length, List.length_replicate, List.length_set, bools_length, metL_length] <;> omega)) only [Sall,evalOp,init,binA_s,binE,binI,unE,convE,okNil,builtE,gv,TD.isAgg,resV,↓reduceIte,Nat.reduceEqDiff,reduceCtorEq,Nat.reduceAdd,Nat.reduceMul,Nat.reduceLeDiff,quietOp,blindOp,Int.reduceEq,Int.reduceLT,Int.reduceLE,Nat.reduceLT,tiA,tiXA, Option.isSome_some, Bool.not_false]
        exact ⟨by omega, fun j j1 j2 => by rw [i2 j (by omega) j2, o2.low j (by omega), o1.low j j1], v', i3, i4, fun X2 h => ⟨ws', fun H2' hh => by rw [← h]; exact i5 H2' hh⟩⟩
end Go.Proofs.YtollphjompimjaaGreat.A
end

section
set_option maxRecDepth 100000
set_option maxHeartbeats 2000000
namespace Go.Proofs.YtollphjompimjaaGreat.A
open Go Go.Abs Go.RowKit
open Classical in
theorem rc_stay {v : Value} {ws : List Value} {X : List (List Int)} {H : AH} {S : Nat → Prop} (h : ∀ H2 : AH, (∀ j, S j → H2.row j = H.row j) → Rc v ws X H2) (H' : AH) (hr : ∀ i r, S i → H.row i = some r → H'.row i = some r) : Rc v ws X H' := by
  refine (h ⟨H'.next, fun j => if S j then H.row j else H'.row j⟩ fun j hj => ?_).same fun i r hi => ?_
  · show (if S j then H.row j else H'.row j) = H.row j
    rw [if_pos hj]
  · have hi : (if S i then H.row i else H'.row i) = some r := hi
    by_cases hs : S i
    · rw [if_pos hs] at hi; exact hr i r hs hi
    · rw [if_neg hs] at hi; exact hi
theorem FirstGolf_c (q g k : Int) (hq : -1000 ≤ q ∧ q ≤ 1000) (hg : -1000 ≤ g ∧ g ≤ 1000) (hk : -1000 ≤ k ∧ k ≤ 1000) (H : AH) :
    ACalls Tryz.prog 17 [.int .i64 q, .int .i64 g, .int .i64 k] H (fun r H' => ∃ u ws, r = .tuple #[.agg #[.int .i64 (fgQ q g k), .int .i64 (fgG q g k), u], .int .i64 (fgC q g k)] ∧ Ow H H' [.see (Rc u ws (fgR q g k))]) := by
  refine ACalls.wf (by kernel_rfl) fun hs => acalls_of_awp [.cell 6 26, .tmp 7] Tryz.func17 (by kernel_rfl) rfl rfl (Nat.le_of_ble_eq_true rfl) (by kernel_rfl) ?_
  have nilRc : ∀ H : AH, Rc (.slice none 0 0) [] [] H := fun H => ⟨RowsC.nil H, .inl ⟨rfl, rfl⟩⟩
  have o1 := (Ow.refl hs).push ⟨26, true, [.int .i64 0, .int .i64 0, .slice none 0 0]⟩
  try simp (disch := first | omega | (simp only [ints_length, List.length_replicate, List.length_set, bools_length, metL_length] <;> omega)) only [Sall,evalOp,init,binA_s,binE,binI,unE,convE,okNil,builtE,gv,TD.isAgg,resV,↓reduceIte,Nat.reduceEqDiff,reduceCtorEq,Nat.reduceAdd,Nat.reduceMul,Nat.reduceLeDiff,quietOp,blindOp,Int.reduceEq,Int.reduceLT,Int.reduceLE,Nat.reduceLT,tiA,tiXA, true_and]
  have n1 : (H.push ⟨26, true, [.int .i64 0, .int .i64 0, .slice none 0 0]⟩).next = H.next + 1 := rfl
  have o1 : Ow H (H.push ⟨26, true, [.int .i64 0, .int .i64 0, .slice none 0 0]⟩) [.row H.next ⟨26, true, [.int .i64 0, .int .i64 0, .slice none 0 0]⟩] := o1
  have no : ∀ H2 (c : Int), fgC q g k = c → Ow H H2 [] → fgV q g k = none → ∃ u ws, (.tuple #[.agg #[.int .i64 0, .int .i64 0, .slice none 0 0], .int .i64 c] : Value) = .tuple #[.agg #[.int .i64 (fgQ q g k), .int .i64 (fgG q g k), u], .int .i64 (fgC q g k)] ∧ Ow H H2 [.see (Rc u ws (fgR q g k))] := fun H2 c e o h => by
    refine ⟨.slice none 0 0, [], ?_, ?_⟩
    · unfold fgQ fgG; rw [h, e]
    · unfold fgR; rw [h]; exact o.addSee nilRc
  generalize H.push ⟨26, true, [.int .i64 0, .int .i64 0, .slice none 0 0]⟩ = H1 at o1 n1 ⊢
  have r1 := (o1.rowAt 0 rfl).1
  have o1' := Ow.left (L := []) (o1.putRow 0 rfl (cs' := [.int .i64 0, .int .i64 0, .slice none 0 0]))
  refine (between_c q 2 9 _).to ?_
  refine Holds.mp ?_
  by_cases c1 : 2 ≤ q ∧ q ≤ 9
  rotate_left
  · have e1 : fgB q g k = false := by unfold fgB golfS; rw [decide_eq_false c1]; rfl
    have e2 : fgC q g k = 2 := by unfold fgC; rw [e1]; rfl
    have e3 : fgV q g k = none := by unfold fgV; rw [e1]; rfl
    rw [decide_eq_false c1]
    try simp (disch := first | omega | (simp only [ints_length, List.length_replicate, List.length_set, bools_length, metL_length] <;> omega)) only [Sall,evalOp,init,binA_s,binE,binI,unE,convE,okNil,builtE,gv,TD.isAgg,resV,↓reduceIte,Nat.reduceEqDiff,reduceCtorEq,Nat.reduceAdd,Nat.reduceMul,Nat.reduceLeDiff,quietOp,blindOp,Int.reduceEq,Int.reduceLT,Int.reduceLE,Nat.reduceLT,tiA,tiXA, Bool.not_false, r1]
    exact no _ _ e2 o1' e3
  rw [decide_eq_true c1]
  try simp (disch := first | omega | (simp only [ints_length, List.length_replicate, List.length_set, bools_length, metL_length] <;> omega)) only [Sall,evalOp,init,binA_s,binE,binI,unE,convE,okNil,builtE,gv,TD.isAgg,resV,↓reduceIte,Nat.reduceEqDiff,reduceCtorEq,Nat.reduceAdd,Nat.reduceMul,Nat.reduceLeDiff,quietOp,blindOp,Int.reduceEq,Int.reduceLT,Int.reduceLE,Nat.reduceLT,tiA,tiXA, Bool.not_true]
  refine (between_c g 2 q _).to ?_
  refine Holds.mp ?_
  by_cases c2 : 2 ≤ g ∧ g ≤ q
  rotate_left
  · have e1 : fgB q g k = false := by unfold fgB golfS; rw [decide_eq_false c2]; simp
    have e2 : fgC q g k = 2 := by unfold fgC; rw [e1]; rfl
    have e3 : fgV q g k = none := by unfold fgV; rw [e1]; rfl
    rw [decide_eq_false c2]
    try simp (disch := first | omega | (simp only [ints_length, List.length_replicate, List.length_set, bools_length, metL_length] <;> omega)) only [Sall,evalOp,init,binA_s,binE,binI,unE,convE,okNil,builtE,gv,TD.isAgg,resV,↓reduceIte,Nat.reduceEqDiff,reduceCtorEq,Nat.reduceAdd,Nat.reduceMul,Nat.reduceLeDiff,quietOp,blindOp,Int.reduceEq,Int.reduceLT,Int.reduceLE,Nat.reduceLT,tiA,tiXA, Bool.not_false, r1]
    exact no _ _ e2 o1' e3
  rw [decide_eq_true c2]
  have hg0 : ¬ g = 0 := by omega
  by_cases c3 : Int.tmod q g = 0
  rotate_left
  · have e1 : fgB q g k = false := by unfold fgB golfS; rw [decide_eq_false c3]; simp
    have e2 : fgC q g k = 2 := by unfold fgC; rw [e1]; rfl
    have e3 : fgV q g k = none := by unfold fgV; rw [e1]; rfl
    have e4 : (Int.tmod q g != 0) = true := by simpa using c3
    try simp (disch := first | omega | (simp only [ints_length, List.length_replicate, List.length_set, bools_length, metL_length] <;> omega)) only [Sall,evalOp,init,binA_s,binE,binI,unE,convE,okNil,builtE,gv,TD.isAgg,resV,↓reduceIte,Nat.reduceEqDiff,reduceCtorEq,Nat.reduceAdd,Nat.reduceMul,Nat.reduceLeDiff,quietOp,blindOp,Int.reduceEq,Int.reduceLT,Int.reduceLE,Nat.reduceLT,tiA,tiXA, Bool.not_true, hg0, e4, r1]
    exact no _ _ e2 o1' e3
  have e4 : (Int.tmod q g != 0) = false := by rw [c3]; rfl
  try simp (disch := first | omega | (simp only [ints_length, List.length_replicate, List.length_set, bools_length, metL_length] <;> omega)) only [Sall,evalOp,init,binA_s,binE,binI,unE,convE,okNil,builtE,gv,TD.isAgg,resV,↓reduceIte,Nat.reduceEqDiff,reduceCtorEq,Nat.reduceAdd,Nat.reduceMul,Nat.reduceLeDiff,quietOp,blindOp,Int.reduceEq,Int.reduceLT,Int.reduceLE,Nat.reduceLT,tiA,tiXA, Bool.not_true, hg0, e4]
  refine (between_c k 0 7 _).to ?_
  refine Holds.mp ?_
  have eS : golfS q g 9 = true := by unfold golfS; rw [decide_eq_true c1, decide_eq_true c2, decide_eq_true c3]; rfl
  by_cases c5 : 0 ≤ k ∧ k ≤ 7
  rotate_left
  · have e1 : fgB q g k = false := by unfold fgB; rw [decide_eq_false c5]; simp
    have e2 : fgC q g k = 2 := by unfold fgC; rw [e1]; rfl
    have e3 : fgV q g k = none := by unfold fgV; rw [e1]; rfl
    rw [decide_eq_false c5]
    try simp (disch := first | omega | (simp only [ints_length, List.length_replicate, List.length_set, bools_length, metL_length] <;> omega)) only [Sall,evalOp,init,binA_s,binE,binI,unE,convE,okNil,builtE,gv,TD.isAgg,resV,↓reduceIte,Nat.reduceEqDiff,reduceCtorEq,Nat.reduceAdd,Nat.reduceMul,Nat.reduceLeDiff,quietOp,blindOp,Int.reduceEq,Int.reduceLT,Int.reduceLE,Nat.reduceLT,tiA,tiXA, Bool.not_false, r1]
    exact no _ _ e2 o1' e3
  rw [decide_eq_true c5]
  have eB : fgB q g k = true := by unfold fgB; rw [eS, decide_eq_true c5]; rfl
  obtain ⟨n, gN, c, rfl, rfl, q0, q1, q2, q3, q4, q5⟩ := golfS_at eS
  obtain ⟨kN, rfl⟩ : ∃ kN : Nat, k = kN := ⟨k.toNat, by omega⟩
  have eD : Int.tdiv ((n : Int) - 1) ((gN : Int) - 1) = (((n - 1) / (gN - 1) : Nat) : Int) := by
    rw [show (n : Int) - 1 = ((n - 1 : Nat) : Int) by omega, show (gN : Int) - 1 = ((gN - 1 : Nat) : Int) by omega]
    rfl
  have hD : (n - 1) / (gN - 1) ≤ n - 1 := Nat.div_le_self _ _
  obtain ⟨D, eDD⟩ : ∃ D, D = (n - 1) / (gN - 1) := ⟨_, rfl⟩
  rw [← eDD] at eD hD
  have hg1 : ¬ (gN : Int) - 1 = 0 := by omega
  have nd : (gN : Int) - 1 = ((gN - 1 : Nat) : Int) := by omega
  have o2 := (o1.push ⟨26, true, [.int .i64 0, .int .i64 0, .slice none 0 0]⟩).putRow 1 rfl (cs' := [.int .i64 n, .int .i64 gN, .slice none 0 0])
  have npi : ¬ H.next = H1.next := by omega
  by_cases c6 : (D : Int) < (kN : Int)
  · have e1 : fgV n gN kN = none := by unfold fgV; rw [eD, if_neg (fun h => by omega)]
    have e2 : fgC n gN kN = 4 := by unfold fgC; rw [eB, if_pos rfl, e1]
    have e5 : decide ((D : Int) < (kN : Int)) = true := decide_eq_true c6
    try simp (disch := first | omega | (simp only [ints_length, List.length_replicate, List.length_set, bools_length, metL_length] <;> omega)) only [Sall,evalOp,init,binA_s,binE,binI,unE,convE,okNil,builtE,gv,TD.isAgg,resV,↓reduceIte,Nat.reduceEqDiff,reduceCtorEq,Nat.reduceAdd,Nat.reduceMul,Nat.reduceLeDiff,quietOp,blindOp,Int.reduceEq,Int.reduceLT,Int.reduceLE,Nat.reduceLT,tiA,tiXA, Bool.not_true, eD, hg1, e5, r1, npi, w64]
    exact no _ _ e2 (Ow.left (L := []) (o2.putRow 0 rfl (cs' := [.int .i64 0, .int .i64 0, .slice none 0 0]))) e1
  have e5 : decide ((D : Int) < (kN : Int)) = false := decide_eq_false c6
  try simp (disch := first | omega | (simp only [ints_length, List.length_replicate, List.length_set, bools_length, metL_length] <;> omega)) only [Sall,evalOp,init,binA_s,binE,binI,unE,convE,okNil,builtE,gv,TD.isAgg,resV,↓reduceIte,Nat.reduceEqDiff,reduceCtorEq,Nat.reduceAdd,Nat.reduceMul,Nat.reduceLeDiff,quietOp,blindOp,Int.reduceEq,Int.reduceLT,Int.reduceLE,Nat.reduceLT,tiA,tiXA, Bool.not_true, eD, hg1, e5, r1, npi, w64]
  have n2 : ((H1.push ⟨26, true, [.int .i64 0, .int .i64 0, .slice none 0 0]⟩).setCells H1.next [.int .i64 n, .int .i64 gN, .slice none 0 0]).next = H1.next + 1 := rfl
  have o2 : Ow H ((H1.push ⟨26, true, [.int .i64 0, .int .i64 0, .slice none 0 0]⟩).setCells H1.next [.int .i64 n, .int .i64 gN, .slice none 0 0]) [.row H.next ⟨26, true, [.int .i64 0, .int .i64 0, .slice none 0 0]⟩, .row H1.next ⟨26, true, [.int .i64 n, .int .i64 gN, .slice none 0 0]⟩] := o2
  generalize (H1.push ⟨26, true, [.int .i64 0, .int .i64 0, .slice none 0 0]⟩).setCells H1.next [.int .i64 n, .int .i64 gN, .slice none 0 0] = H2 at o2 n2 ⊢
  refine (extended_c q1 q0 (by omega) q5 kN [] H1.next (.slice none 0 0) [] H2 (fun _ => False) (by simp; omega) (fun i h => by simp at h) (by omega) (fun j h => h.elim) rfl (o2.rowAt 1 rfl).1 (fun H2 _ => nilRc H2)).scf.fin ?_
  rintro H3 ⟨⟨n3, k3, v', hv', hr', hX⟩, sc3⟩
  have r3 : H3.row H.next = some ⟨26, true, [.int .i64 0, .int .i64 0, .slice none 0 0]⟩ := by rw [k3 _ (by omega) npi]; exact (o2.rowAt 0 rfl).1
  have up4 : ∀ cs, Ow H (H3.setCells H.next cs) [] := fun cs => Ow.of_up ⟨by rw [AH.setCells_next]; omega, fun j hj => by rw [AH.setCells_row, if_neg (by omega), k3 j (by omega) (by omega), o2.low j hj]⟩ (sc3.set _ _)
  have eV : fgV n gN kN = fgF n gN kN [] := by unfold fgV; rw [if_pos ⟨eB, by rw [eD]; omega⟩, Int.toNat_natCast, Int.toNat_natCast, Int.toNat_natCast]
  refine Holds.mp ?_
  cases hF : fgF n gN kN [] with
  | none =>
    rw [hF] at eV
    have e2 : fgC n gN kN = 4 := by unfold fgC; rw [eB, if_pos rfl, eV]
    try simp (disch := first | omega | (simp only [ints_length, List.length_replicate, List.length_set, bools_length, metL_length] <;> omega)) only [Sall,evalOp,init,binA_s,binE,binI,unE,convE,okNil,builtE,gv,TD.isAgg,resV,↓reduceIte,Nat.reduceEqDiff,reduceCtorEq,Nat.reduceAdd,Nat.reduceMul,Nat.reduceLeDiff,quietOp,blindOp,Int.reduceEq,Int.reduceLT,Int.reduceLE,Nat.reduceLT,tiA,tiXA, Option.isSome_none, Bool.not_false, r3]
    exact no _ _ e2 (up4 _) eV
  | some X =>
    rw [hF] at eV
    obtain ⟨ws', hws'⟩ := hX X hF
    have e2 : fgC n gN kN = 0 := by unfold fgC; rw [eB, if_pos rfl, eV]
    have e6 : fgQ n gN kN = n := by unfold fgQ; rw [eV]
    have e7 : fgG n gN kN = gN := by unfold fgG; rw [eV]
    have e8 : fgR n gN kN = X := by unfold fgR; rw [eV]; rfl
    rw [e2, e6, e7, e8]
    try simp (disch := first | omega | (simp only [ints_length, List.length_replicate, List.length_set, bools_length, metL_length] <;> omega)) only [Sall,evalOp,init,binA_s,binE,binI,unE,convE,okNil,builtE,gv,TD.isAgg,resV,↓reduceIte,Nat.reduceEqDiff,reduceCtorEq,Nat.reduceAdd,Nat.reduceMul,Nat.reduceLeDiff,quietOp,blindOp,Int.reduceEq,Int.reduceLT,Int.reduceLE,Nat.reduceLT,tiA,tiXA, Option.isSome_some, Bool.not_true, r3, hr', hv']
    refine ⟨v', ws', rfl, ?_⟩
    have o4 := up4 [.int .i64 n, .int .i64 gN, v']
    refine ⟨o4.sc, o4.next, o4.low, fun _ => 0, fun j p hj => ?_⟩
    rcases j with _ | j
    · cases hj
      intro H' hh
      refine rc_stay (S := fun j => j < H3.next ∧ H2.next ≤ j) (H := H3) (fun H2' h2 => hws' H2' fun j j1 j2 => h2 j ⟨j1, j2.resolve_left id⟩) H' fun i r hi hr => ?_
      refine hh i r ⟨by omega, by rw [AH.setCells_next]; exact hi.1, rfl⟩ ?_
      rw [AH.setCells_row, if_neg (by omega)]
      exact hr
    · cases hj
end Go.Proofs.YtollphjompimjaaGreat.A
end

section
namespace Go.Abs
open Go Go.RowKit
structure PoolK (P : Program) (ops : Array Oper) (Q : T → AH → Prop) (post : OT) (qs : List Nat) (J : List Nat → List Nat → T → AH → Prop) (K : List Nat → T → AH → Prop) : Prop where
  call : ∀ c cs fs t H, J (c :: cs) fs t H → stepI P ops (J cs fs) c (ops.toList[c]?) t H
  free : ∀ a cs fs t H, a ∈ fs → J cs fs t H → stepI P ops (J cs (fs.erase a)) a (ops.toList[a]?) t H
  quiet : ∀ fs t H, J [] fs t H → awpI P ops (K fs) qs t H
  free2 : ∀ a fs t H, a ∈ fs → K fs t H → stepI P ops (K (fs.erase a)) a (ops.toList[a]?) t H
  done : ∀ t H, K [] t H → awpT P ops Q post t H
def onlyNil (K : List Nat → T → AH → Prop) : List Nat → List Nat → T → AH → Prop
  | [], fs => K fs
  | _ :: _, _ => fun _ _ => False
end Go.Abs
end

section
namespace Go.Abs
open Go Go.RowKit
def okPoolN (ops : Array Oper) (post : OT) (need : List (Nat × Nat)) (qs : List Nat) : Nat → List Nat → List Nat → Array Bool → Bool
  | 0, cs, fs, listed => cs.isEmpty && okPre ops post [] fs qs listed
  | n + 1, cs, fs, listed =>
    if cs.isEmpty then okPre ops post [] fs qs listed else
    !(Region.ready .any ops listed).isEmpty && (Region.ready .any ops listed).all (fun i => headIs cs i || fs.contains i) &&
    (match cs with | c :: cs' => (!(Region.ready .any ops listed).contains c) || ((fs.all fun a => !need.contains (c, a)) && okPoolN ops post need qs n cs' fs (listed.setIfInBounds c true)) | [] => true) &&
    fs.all fun a => (!(Region.ready .any ops listed).contains a) || okPoolN ops post need qs n cs (fs.erase a) (listed.setIfInBounds a true)
structure PoolN (P : Program) (ops : Array Oper) (S : Nat → Prop) (Q : T → AH → Prop) (post : OT) (need : List (Nat × Nat)) (qs : List Nat) (J : List Nat → List Nat → T → AH → Prop) (K : List Nat → T → AH → Prop) : Prop where
  call : ∀ c cs fs t H, (∀ a, a ∈ fs → ¬ (c, a) ∈ need) → J (c :: cs) fs t H → stepIS P ops S (J cs fs) c (ops.toList[c]?) t H
  free : ∀ a cs fs t H, a ∈ fs → J cs fs t H → stepIS P ops S (J cs (fs.erase a)) a (ops.toList[a]?) t H
  quiet : ∀ fs t H, J [] fs t H → awpIS P ops S (K fs) qs t H
  free2 : ∀ a fs t H, a ∈ fs → K fs t H → stepIS P ops S (K (fs.erase a)) a (ops.toList[a]?) t H
  done : ∀ t H, K [] t H → awpTS P ops S Q post t H
theorem PoolN.toS {P : Program} {ops : Array Oper} {S : Nat → Prop} {Q : T → AH → Prop} {post : OT} {need : List (Nat × Nat)} {qs : List Nat} {J : List Nat → List Nat → T → AH → Prop} {K : List Nat → T → AH → Prop} (h : PoolN P ops S Q post need qs J K) : PoolS P ops S Q post (onlyNil K) where
  call := fun c cs fs t H hJ => hJ.elim
  free := fun a cs fs t H ha hJ => by
    cases cs with
    | nil => exact h.free2 a fs t H ha hJ
    | cons c cs => exact hJ.elim
  done := fun t H hJ => h.done t H hJ
theorem AAnyS_poolN {P : Program} {ops : Array Oper} {S : Nat → Prop} {Q : T → AH → Prop} {post : OT} {need : List (Nat × Nat)} {qs : List Nat} {J : List Nat → List Nat → T → AH → Prop} {K : List Nat → T → AH → Prop} (hJ : PoolN P ops S Q post need qs J K) : ∀ (n : Nat) (cs fs : List Nat) (listed : Array Bool) (t : T) (H : AH) (f : Nat), n = cs.length + fs.length → n + qs.length + post.depth ≤ f → Closed ops listed → okPoolN ops post need qs n cs fs listed = true → J cs fs t H → AAnyS P ops S Q f listed t H
  | 0, cs, fs, listed, t, H, f, hn, hf, hc, hok, h => by
    simp only [okPoolN, Bool.and_eq_true, List.isEmpty_iff] at hok
    obtain ⟨rfl, h3⟩ := hok
    exact AAnyS_pre hJ.toS [] fs qs listed t H f (by simp only [List.length_nil] at hn ⊢; omega) hc h3 (hJ.quiet fs t H h)
  | n + 1, cs, fs, listed, t, H, 0, hn, hf, hc, hok, h => by omega
  | n + 1, cs, fs, listed, t, H, f + 1, hn, hf, hc, hok, h => by
    unfold okPoolN at hok
    split at hok
    · rename_i he
      simp only [List.isEmpty_iff] at he
      subst he
      exact AAnyS_pre hJ.toS [] fs qs listed t H (f + 1) (by simp only [List.length_nil] at hn ⊢; omega) hc hok (hJ.quiet fs t H h)
    · simp only [Bool.and_eq_true] at hok
      obtain ⟨⟨⟨h1, h2⟩, h3⟩, h4⟩ := hok
      refine ⟨fun h0 => (by rw [h0] at h1; simp at h1), fun i hi => ?_⟩
      have hci : (Region.ready .any ops listed).contains i = true := by simpa using hi
      have h5 := List.all_eq_true.1 h2 i hi
      rw [Bool.or_eq_true] at h5
      rcases h5 with h5 | h5
      · cases cs with
        | nil => simp [headIs] at h5
        | cons c cs' =>
          have e : i = c := by simpa [headIs] using h5
          subst e
          simp only [hci, Bool.not_true, Bool.false_or, Bool.and_eq_true] at h3
          obtain ⟨h7, h3⟩ := h3
          have h8 : ∀ a, a ∈ fs → ¬ (i, a) ∈ need := fun a ha hm => by
            have := List.all_eq_true.1 h7 a ha
            rw [List.contains_iff_mem.2 hm] at this
            cases this
          exact aStep_mono (stepIS_s (hJ.call i cs' fs t H h8 h)) fun t' H' hk => ⟨hk.1, AAnyS_poolN hJ n cs' fs _ t' H' f (by simp only [List.length_cons] at hn; omega) (by omega) (hc.set hi) h3 hk.2⟩
      · have hm : i ∈ fs := List.contains_iff_mem.1 h5
        have h6 := List.all_eq_true.1 h4 i hm
        simp only [hci, Bool.not_true, Bool.false_or] at h6
        have hle := List.length_erase_of_mem hm
        have hpos := List.length_pos_of_mem hm
        exact aStep_mono (stepIS_s (hJ.free i cs fs t H hm h)) fun t' H' hk => ⟨hk.1, AAnyS_poolN hJ n cs (fs.erase i) _ t' H' f (by omega) (by omega) (hc.set hi) h6 hk.2⟩
def okPreN (ops : Array Oper) (post : OT) (need : List (Nat × Nat)) (qs cs fs : List Nat) : List Nat → Array Bool → Bool
  | [], listed => okPoolN ops post need qs (cs.length + fs.length) cs fs listed
  | i :: is, listed =>
    (match ops[i]? with
     | some o => if quietOp o.op = true then (Region.ready .any ops listed).contains i && Region.free .any ops listed i else Region.ready .any ops listed == [i]
     | none => false) && okPreN ops post need qs cs fs is (listed.setIfInBounds i true)
theorem AAnyS_preN {P : Program} {ops : Array Oper} {S : Nat → Prop} {Q : T → AH → Prop} {post : OT} {need : List (Nat × Nat)} {qs : List Nat} {J : List Nat → List Nat → T → AH → Prop} {K : List Nat → T → AH → Prop} (hJ : PoolN P ops S Q post need qs J K) (cs fs : List Nat) : ∀ (is : List Nat) (listed : Array Bool) (t : T) (H : AH) (f : Nat), is.length + (cs.length + fs.length + qs.length + post.depth) ≤ f → Closed ops listed → okPreN ops post need qs cs fs is listed = true → awpIS P ops S (J cs fs) is t H → AAnyS P ops S Q f listed t H
  | [], listed, t, H, f, hf, hc, hok, h => AAnyS_poolN hJ _ cs fs listed t H f rfl (by simpa using hf) hc hok h
  | i :: is, listed, t, H, 0, hf, hc, hok, h => by simp at hf
  | i :: is, listed, t, H, f + 1, hf, hc, hok, h => by
    simp only [okPreN, Bool.and_eq_true] at hok
    simp only [List.length_cons] at hf
    obtain ⟨h1, h2⟩ := hok
    unfold awpIS at h
    cases ho : ops[i]? with
    | none => simp [ho] at h1
    | some o =>
      simp only [ho] at h1
      split at h1
      · rename_i hq
        simp only [Bool.and_eq_true] at h1
        obtain ⟨hr, hfr⟩ := h1
        have hr' : i ∈ Region.ready .any ops listed := by simpa using hr
        obtain ⟨v, hy, hk⟩ := aStep_quiet ho hq (stepIS_s h)
        obtain ⟨⟨o', e', hl'⟩, _⟩ := stepIS_a h
        have eo : o' = o := by
          have e2 : ops.toList[i]? = some o := by simpa using ho
          exact Option.some.inj (e'.symm.trans e2)
        subst eo
        exact AAnyS_first ho hq f listed t H hc (Region.free_spec ho hfr) hr' (safe_of hq hl') hy (AAnyS_preN hJ cs fs is _ _ H f (by omega) (hc.set hr') h2 hk.2)
      · have hr : Region.ready .any ops listed = [i] := by simpa using h1
        refine ⟨fun h0 => (by rw [hr] at h0; cases h0), fun j hj => ?_⟩
        have hji : j = i := by rw [hr] at hj; simpa using hj
        subst hji
        exact aStep_mono (stepIS_s h) fun t' H' hk => ⟨hk.1, AAnyS_preN hJ cs fs is _ t' H' f (by omega) (hc.set hj) h2 hk.2⟩
theorem draw_poolN {P : Program} {id : Nat} {ops : Array Oper} {Q : Exit → T → AH → Prop} {t : T} {H : AH} (S : Nat → Prop) (is cs fs : List Nat) (need : List (Nat × Nat)) (qs : List Nat) (post : OT) (hm : P.follows .mixedOrders = true) (hok : okPreN ops post need qs cs fs is (Array.replicate ops.size false) = true) (hl : is.length + (cs.length + fs.length + qs.length + post.depth) ≤ ops.size)
    (J : List Nat → List Nat → T → AH → Prop) (K : List Nat → T → AH → Prop) (hJ : PoolN P ops S (Q .normal) post need qs J K) (h : awpIS P ops S (J cs fs) is t H) : awp P (.region id ops true) Q t H := by
  intro base ρ w tmps QC hS hd hQ
  have hA := AAnyS_preN hJ cs fs is _ t H ops.size hl ⟨by simp, fun j oj hj hl => by rw [getD_replicate_false'] at hl; cases hl⟩ hok h
  refine wp_region_any hm (AAnyS_ok ops.size _ t H ρ w.drew tmps hA ⟨hS.1.drew, hS.2.ext (ext_drew (base := base) (H := H) w)⟩ ?_ fun t' H' ρ' w' tmps' hq hs he hz => ?_)
  · intro o ho i hi
    have := List.all_eq_true.1 hd o ho
    simp only [hi, decide_eq_true_eq] at this
    exact this
  · exact hQ .normal t' H' ρ' w' tmps' hq hs ((ext_drew (base := base) (H := H) (ρ := ρ) w).trans he) hz
end Go.Abs
end

section
set_option maxRecDepth 100000
set_option maxHeartbeats 4000000
namespace Go.Proofs.YtollphjompimjaaGreat.A
open Go Go.Abs Go.RowKit
structure FsJ (A : AH) (n g : Nat) (v x : Value) (ws : List Value) (v1 v2 v4 v6 v7 : Value) (cs fs : List Nat) (t : T) (H : AH) : Prop where
  hcs : cs = [4, 7, 13] ∨ cs = [7, 13] ∨ cs = [13] ∨ cs = []
  hfs : ∀ a ∈ fs, a = 12 ∨ a = 15
  t29 : t 29 = .int .i64 n
  t31 : t 31 = .int .i64 g
  t34 : t 34 = v
  t39 : t 39 = x
  t1 : t 1 = v1
  t2 : t 2 = v2
  t4 : t 4 = v4
  t6 : t 6 = v6
  t7 : t 7 = v7
  ow : ∃ a b c : Th, Ow A H [a, b, c] ∧ (cs = [7, 13] → a = .sl 1 28 (t 32) 0 []) ∧ (cs = [13] → a = .sl 1 28 (t 35) ws.length ws) ∧ (cs = [] → a = .sl 1 28 (t 41) (ws.length + 1) (ws ++ [x])) ∧ (12 ∉ fs → b = .sl 1 28 (t 40) 1 [x]) ∧ (15 ∉ fs → ∃ i, t 8 = .pointer (some ⟨i, 0, none⟩) ∧ c = .row i ⟨26, true, [.int .i64 0, .int .i64 0, .slice none 0 0]⟩)
theorem FsJ.call4 {A : AH} {n g : Nat} {v x : Value} {ws : List Value} {v1 v2 v4 v6 v7 : Value} {fs : List Nat} {t : T} {H : AH} (h : FsJ A n g v x ws v1 v2 v4 v6 v7 [4, 7, 13] fs t H) : FsJ A n g v x ws v1 v2 v4 v6 v7 [7, 13] fs (upd t 32 (.slice (some ⟨H.next, 0, some 1⟩) 0 0)) (H.push ⟨28, true, []⟩) := by
  obtain ⟨a, b, c, o, h1, h2, h3, h4, h5⟩ := h.ow
  exact ⟨.inr (.inl rfl), h.hfs, h.t29, h.t31, h.t34, h.t39, h.t1, h.t2, h.t4, h.t6, h.t7, _, b, c, (o.fillRow 0 rfl ⟨28, true, []⟩).row_sl 0 rfl rfl, fun _ => rfl, fun e => (by cases e), fun e => (by cases e), h4, h5⟩
theorem FsJ.free12 {A : AH} {n g : Nat} {v x : Value} {ws : List Value} {v1 v2 v4 v6 v7 : Value} {cs fs : List Nat} {t : T} {H : AH} (h : FsJ A n g v x ws v1 v2 v4 v6 v7 cs fs t H) : FsJ A n g v x ws v1 v2 v4 v6 v7 cs (fs.erase 12) (upd t 40 (.slice (some ⟨H.next, 0, some 1⟩) 1 1)) (H.push ⟨28, true, [x]⟩) := by
  obtain ⟨a, b, c, o, h1, h2, h3, h4, h5⟩ := h.ow
  exact ⟨h.hcs, fun x hx => h.hfs x (List.mem_of_mem_erase hx), h.t29, h.t31, h.t34, h.t39, h.t1, h.t2, h.t4, h.t6, h.t7, a, _, c, (o.fillRow 1 rfl ⟨28, true, [x]⟩).row_sl 1 rfl rfl, h1, h2, h3, fun _ => rfl, fun k => h5 (not_erase k (by decide))⟩
theorem FsJ.free15 {A : AH} {n g : Nat} {v x : Value} {ws : List Value} {v1 v2 v4 v6 v7 : Value} {cs fs : List Nat} {t : T} {H : AH} (h : FsJ A n g v x ws v1 v2 v4 v6 v7 cs fs t H) : FsJ A n g v x ws v1 v2 v4 v6 v7 cs (fs.erase 15) (upd t 8 (.pointer (some ⟨H.next, 0, none⟩))) (H.push ⟨26, true, [.int .i64 0, .int .i64 0, .slice none 0 0]⟩) := by
  obtain ⟨a, b, c, o, h1, h2, h3, h4, h5⟩ := h.ow
  exact ⟨h.hcs, fun x hx => h.hfs x (List.mem_of_mem_erase hx), h.t29, h.t31, h.t34, h.t39, h.t1, h.t2, h.t4, h.t6, h.t7, a, b, _, o.fillRow 2 rfl _, h1, h2, h3, fun k => h4 (not_erase k (by decide)), fun _ => ⟨H.next, rfl, rfl⟩⟩
theorem l08First_c {n g c : Nat} (hg : 2 ≤ g) (hn : n = g * c) (hn9 : n ≤ 9) (hgn : g ≤ n) : ∀ (f : Nat) (R : List (List Int)) (v : Value) (ws : List Value) (H : AH), R.length + f ≤ 12 → (∀ i, i < R.length → ordB n (R.getD i []) = true) → Rc v ws R H →
    ACalls Tryz.prog 46 [.agg #[.int .i64 n, .int .i64 g, v], .int .i64 ((R.length + f : Nat) : Int)] H (fun u H' => ∃ w ws', u = .tuple #[.agg #[.int .i64 (oQ (fgF n g f R) n), .int .i64 (oQ (fgF n g f R) g), w], .bool (fgF n g f R).isSome] ∧ Ow H H' [.see fun H2 => Rc v ws R H2 → Rc w ws' ((fgF n g f R).getD []) H2]) := by
  intro f
  induction f with
  | zero =>
    intro R v ws H hl hR hv
    refine ACalls.wf (by kernel_rfl) fun hs => acalls_of_awp [.cell 4 26, .tmp 5] Tryz.func46 (by kernel_rfl) rfl rfl (Nat.le_of_ble_eq_true rfl) (by kernel_rfl) ?_
    have hone := hv.rg.one
    have hlen := hv.rg.len
    have e1 : ((R.length : Int) == (R.length : Int)) = true := beq_self_eq_true _
    rw [Nat.add_zero]
    have o1 := ((golf_push hs n g v).push ⟨26, true, [.int .i64 0, .int .i64 0, .slice none 0 0]⟩).putRow 1 rfl (cs' := [.int .i64 n, .int .i64 g, v])
    try simp (disch := first | omega | (simp only [ints_length, List.length_replicate, List.length_set, bools_length, metL_length] <;> omega)) only [Sall,evalOp,init,binA_s,binE,binI,unE,convE,okNil,builtE,gv,TD.isAgg,resV,↓reduceIte,Nat.reduceEqDiff,reduceCtorEq,Nat.reduceAdd,Nat.reduceMul,Nat.reduceLeDiff,quietOp,blindOp,Int.reduceEq,Int.reduceLT,Int.reduceLE,Nat.reduceLT,tiA,tiXA, hone, builtE, hlen, e1]
    exact ⟨v, ws, rfl, (Ow.left (L := []) o1).addSee fun H2 h => h⟩
  | succ f ih =>
    intro R v ws H hl hR hv
    refine ACalls.wf (by kernel_rfl) fun hs => acalls_of_awp [.cell 4 26, .tmp 5] Tryz.func46 (by kernel_rfl) rfl rfl (Nat.le_of_ble_eq_true rfl) (by kernel_rfl) ?_
    have hone := hv.rg.one
    have hlen := hv.rg.len
    have hwl : ws.length = R.length := hv.1.1
    have e1 : ((R.length : Int) == ((R.length + (f + 1) : Nat) : Int)) = false := beq_eq_false_iff_ne.2 (by omega)
    have o1 := (golf_push hs n g v).push ⟨26, true, [.int .i64 0, .int .i64 0, .slice none 0 0]⟩
    have o1 : Ow H ((H.push ⟨26, true, [.int .i64 n, .int .i64 g, v]⟩).push ⟨26, true, [.int .i64 0, .int .i64 0, .slice none 0 0]⟩) [.row H.next ⟨26, true, [.int .i64 n, .int .i64 g, v]⟩, .row (H.next + 1) ⟨26, true, [.int .i64 0, .int .i64 0, .slice none 0 0]⟩] := o1
    try simp (disch := first | omega | (simp only [ints_length, List.length_replicate, List.length_set, bools_length, metL_length] <;> omega)) only [Sall,evalOp,init,binA_s,binE,binI,unE,convE,okNil,builtE,gv,TD.isAgg,resV,↓reduceIte,Nat.reduceEqDiff,reduceCtorEq,Nat.reduceAdd,Nat.reduceMul,Nat.reduceLeDiff,quietOp,blindOp,Int.reduceEq,Int.reduceLT,Int.reduceLE,Nat.reduceLT,tiA,tiXA, hone]
    have nA : ((H.push ⟨26, true, [.int .i64 n, .int .i64 g, v]⟩).push ⟨26, true, [.int .i64 0, .int .i64 0, .slice none 0 0]⟩).next = H.next + 2 := rfl
    generalize (H.push ⟨26, true, [.int .i64 n, .int .i64 g, v]⟩).push ⟨26, true, [.int .i64 0, .int .i64 0, .slice none 0 0]⟩ = H1 at o1 nA ⊢
    have e2 := (o1.rowAt 0 rfl).1
    try simp (disch := first | omega | (simp only [ints_length, List.length_replicate, List.length_set, bools_length, metL_length] <;> omega)) only [Sall,evalOp,init,binA_s,binE,binI,unE,convE,okNil,builtE,gv,TD.isAgg,resV,↓reduceIte,Nat.reduceEqDiff,reduceCtorEq,Nat.reduceAdd,Nat.reduceMul,Nat.reduceLeDiff,quietOp,blindOp,Int.reduceEq,Int.reduceLT,Int.reduceLE,Nat.reduceLT,tiA,tiXA, e2, hone, builtE, hlen, e1]
    obtain ⟨kk, ekk⟩ : ∃ kk : Int, kk = ((R.length + (f + 1) : Nat) : Int) := ⟨_, rfl⟩
    rw [← ekk]
    obtain ⟨L, eL⟩ : ∃ L, L = nxT n g (gmM n g R) n [] := ⟨_, rfl⟩
    have hL : L.length ≤ 1048576 := by
      rw [eL]
      have h1 := nxT_len (n := n) (g := g) (M := gmM n g R) (by omega) n [] (by simp) (PreN.nil n g)
      have h2 : ∀ m, m ≤ 9 → facN m ≤ 1048576 := by decide
      exact Nat.le_trans h1 (h2 n hn9)
    have hfg : fgF n g (f + 1) R = L.findSome? fun r => fgF n g f (R ++ [r]) := by rw [eL]; rfl
    rw [hfg]
    have hv1 := hv.same (o1.old hs)
    refine awp_cutQ (fun t H2 => ∃ u ws2, t 6 = u ∧ t 1 = .int .i64 kk ∧ t 2 = .pointer (some ⟨H.next, 0, none⟩) ∧ t 4 = .pointer (some ⟨H.next + 1, 0, none⟩) ∧ Ow H1 H2 [.sl 1 28 u ws2.length ws2, .see (RowsC ws2 L)]) ?_ ?_
    · refine draw_pool [0, 1] [2] [3] (OT.run [4, 5] .nil) (by kernel_rfl) (by kernel_rfl) (Nat.le_of_ble_eq_true rfl) (MnJ H1 (gmM n g R) (.agg #[.int .i64 n, .int .i64 g, v]) (fun i x => (i = 1 → x = .int .i64 kk) ∧ (i = 2 → x = .pointer (some ⟨H.next, 0, none⟩)) ∧ (i = 4 → x = .pointer (some ⟨H.next + 1, 0, none⟩)))) ⟨?_, ?_, ?_⟩ ?_
      · intro c' cs fs t H2 hJ
        rcases hJ.hcs with e | e
        · injection e with e1 e2
          subst e1; subst e2
          obtain ⟨a, b, o, _⟩ := hJ.ow
          have hv2 := hv1.same (o.old o1.sc)
          try simp (disch := first | omega | (simp only [ints_length, List.length_replicate, List.length_set, bools_length, metL_length] <;> omega)) only [Sall,evalOp,init,binA_s,binE,binI,unE,convE,okNil,builtE,gv,TD.isAgg,resV,↓reduceIte,Nat.reduceEqDiff,reduceCtorEq,Nat.reduceAdd,Nat.reduceMul,Nat.reduceLeDiff,quietOp,blindOp,Int.reduceEq,Int.reduceLT,Int.reduceLE,Nat.reduceLT,tiA,tiXA, awpT_nil, awpT_one, awpT_run_nil, awpT_run_cons, awpI_nil, awpI_cons, stepI_op, hJ.t18]
          refine (l08Meetings_c n g c hg hn (by omega) hgn v R H2 hv2.rg.rd2 (by omega) hR).mono ?_
          intro w H3 o3
          exact ⟨.inr (.inr (o3.up.le o.sc)), hJ.call o3⟩
        · cases e
      · intro a cs fs t H2 ha hJ
        have sc2 : Sc H2 := by obtain ⟨_, _, o, _⟩ := hJ.ow; exact o.sc
        obtain rfl := hJ.hfs a ha
        try simp (disch := first | omega | (simp only [ints_length, List.length_replicate, List.length_set, bools_length, metL_length] <;> omega)) only [Sall,evalOp,init,binA_s,binE,binI,unE,convE,okNil,builtE,gv,TD.isAgg,resV,↓reduceIte,Nat.reduceEqDiff,reduceCtorEq,Nat.reduceAdd,Nat.reduceMul,Nat.reduceLeDiff,quietOp,blindOp,Int.reduceEq,Int.reduceLT,Int.reduceLE,Nat.reduceLT,tiA,tiXA, awpT_nil, awpT_one, awpT_run_nil, awpT_run_cons, awpI_nil, awpI_cons, stepI_op, zeros_zero]
        exact ⟨.inr (.inr (sc2.le _)), hJ.free⟩
      · intro t H2 hJ
        obtain ⟨a, b, o, h1, h2⟩ := hJ.ow
        obtain rfl := h1 (by simp)
        obtain rfl := h2 (by simp)
        have t17 := hJ.t17
        have t1 := ((hJ.oth 1).resolve_right (by omega)).1 rfl
        have t2 := ((hJ.oth 2).resolve_right (by omega)).2.1 rfl
        have t4 := ((hJ.oth 4).resolve_right (by omega)).2.2 rfl
        try simp (disch := first | omega | (simp only [ints_length, List.length_replicate, List.length_set, bools_length, metL_length] <;> omega)) only [Sall,evalOp,init,binA_s,binE,binI,unE,convE,okNil,builtE,gv,TD.isAgg,resV,↓reduceIte,Nat.reduceEqDiff,reduceCtorEq,Nat.reduceAdd,Nat.reduceMul,Nat.reduceLeDiff,quietOp,blindOp,Int.reduceEq,Int.reduceLT,Int.reduceLE,Nat.reduceLT,tiA,tiXA, awpT_nil, awpT_one, awpT_run_nil, awpT_run_cons, awpI_nil, awpI_cons, stepI_op, t17]
        refine ACalls.mono (l08Next_c n g c hg hn (by omega) v (t 19) hone (gmM n g R) (gmM_sq n g R) n [] (t 20) 1048576 H2 (by simp) (PreN.nil n g) (by omega) (by omega) (o.sees 0 rfl) (Cp.of_fr (o.fr 1 rfl)) (o.rs 1 rfl)) ?_
        rintro u H3 ⟨ws2, o3⟩
        refine ⟨.inr (.inr (o3.up.le o.sc)), ?_⟩
        have huo := o3.one 0 rfl
        have od := (o.call o3).seeBy 1 3 (Q := RowsC ws2 L) rfl rfl (by omega) fun H S hp hq => by
          have h3 := hq (sl_rs hp)
          rw [← eL, List.take_of_length_le hL] at h3
          exact h3
        try simp (disch := first | omega | (simp only [ints_length, List.length_replicate, List.length_set, bools_length, metL_length] <;> omega)) only [Sall,evalOp,init,binA_s,binE,binI,unE,convE,okNil,builtE,gv,TD.isAgg,resV,↓reduceIte,Nat.reduceEqDiff,reduceCtorEq,Nat.reduceAdd,Nat.reduceMul,Nat.reduceLeDiff,quietOp,blindOp,Int.reduceEq,Int.reduceLT,Int.reduceLE,Nat.reduceLT,tiA,tiXA, awpT_nil, awpT_one, awpT_run_nil, awpT_run_cons, awpI_nil, awpI_cons, stepI_op, huo, t1, t2, t4]
        exact ⟨_, ws2, rfl, od.pick2 2 1 rfl rfl (by omega)⟩
      · try simp (disch := first | omega | (simp only [ints_length, List.length_replicate, List.length_set, bools_length, metL_length] <;> omega)) only [Sall,evalOp,init,binA_s,binE,binI,unE,convE,okNil,builtE,gv,TD.isAgg,resV,↓reduceIte,Nat.reduceEqDiff,reduceCtorEq,Nat.reduceAdd,Nat.reduceMul,Nat.reduceLeDiff,quietOp,blindOp,Int.reduceEq,Int.reduceLT,Int.reduceLE,Nat.reduceLT,tiA,tiXA, awpT_nil, awpT_one, awpT_run_nil, awpT_run_cons, awpI_nil, awpI_cons, stepI_op, e2, hone]
        refine ⟨.inl rfl, by simp, rfl, rfl, fun i => .inl ⟨fun h => by subst h; rfl, fun h => by subst h; rfl, fun h => by subst h; rfl⟩, .no, .no, (Ow.refl o1.sc).addNo.addNo, fun k => absurd (by simp) k, fun k => absurd (by simp) k⟩
    · rintro t H2 ⟨u, ws2, h6, h1, h2, h4, o2⟩
      have e3 : (1 : Nat) = 1 := rfl
      refine awp_loop (fun m t H2 => ∃ i : Nat, m = L.length - i ∧ i ≤ L.length ∧ (∀ j, j < i → ∀ y, L[j]? = some y → fgF n g f (R ++ [y]) = none) ∧ t 7 = .int .i64 i ∧ t 6 = u ∧ t 1 = .int .i64 kk ∧ t 2 = .pointer (some ⟨H.next, 0, none⟩) ∧ t 4 = .pointer (some ⟨H.next + 1, 0, none⟩) ∧ Ow H1 H2 [.sl 1 28 u ws2.length ws2, .see (RowsC ws2 L)]) L.length ?_ ?_
      · exact ⟨0, by omega, by omega, fun j hj => by omega, rfl, h6, h1, h2, h4, o2⟩
      · rintro m t H2 ⟨i, hm, hi, hno, h7, h6, h1, h2, h4, o2⟩
        have hol := o2.lenV 0 rfl
        have hw2 : ws2.length = L.length := (o2.sees 1 rfl).1
        rw [hw2] at hol
        have g1 : H2.row H.next = some ⟨26, true, [.int .i64 n, .int .i64 g, v]⟩ := by rw [o2.low _ (by omega)]; exact e2
        have g2 : H2.row (H.next + 1) = some ⟨26, true, [.int .i64 0, .int .i64 0, .slice none 0 0]⟩ := by rw [o2.low _ (by omega)]; exact (o1.rowAt 1 rfl).1
        by_cases hiL : i < L.length
        rotate_left
        · have e5 : decide ((i : Int) < (L.length : Int)) = false := decide_eq_false (by omega)
          have hn : L.findSome? (fun r => fgF n g f (R ++ [r])) = none := findSomeG_none fun j hj y hy => hno j (by omega) y hy
          rw [hn]
          have o3 := (o1.call o2).putRow 1 rfl (cs' := [.int .i64 0, .int .i64 0, .slice none 0 0])
          try simp (disch := first | omega | (simp only [ints_length, List.length_replicate, List.length_set, bools_length, metL_length] <;> omega)) only [Sall,evalOp,init,binA_s,binE,binI,unE,convE,okNil,builtE,gv,TD.isAgg,resV,↓reduceIte,Nat.reduceEqDiff,reduceCtorEq,Nat.reduceAdd,Nat.reduceMul,Nat.reduceLeDiff,quietOp,blindOp,Int.reduceEq,Int.reduceLT,Int.reduceLE,Nat.reduceLT,tiA,tiXA, h7, h6, builtE, hol, e5, h4, g2]
          exact ⟨.slice none 0 0, [], rfl, (Ow.left (L := []) o3).addSee fun H2 _ => ⟨RowsC.nil H2, .inl ⟨rfl, rfl⟩⟩⟩
        have e5 : decide ((i : Int) < (L.length : Int)) = true := decide_eq_true (by omega)
        obtain ⟨wi, b1, b2, rfl, hwr⟩ := o2.get 0 rfl (by omega)
        obtain ⟨x, hx, hxs⟩ := (o2.sees 1 rfl).2 i hiL
        have hx1 := hxs.rd.one
        obtain ⟨r, er⟩ : ∃ r, r = L.getD i [] := ⟨_, rfl⟩
        have hLi : L[i]? = some r := by rw [er, List.getD_eq_getElem?_getD, List.getElem?_eq_getElem hiL]; rfl
        rw [← er] at hxs
        have hv2 := hv1.same (o2.old o1.sc)
        have hok : Go.Abs.Row.ok ⟨28, true, ws2⟩ [x] = True := eq_true (.inl rfl)
        have hq1 := cells_of_one hx1
        have hq2 := noTuple_of_one hx1
        have hlt1 : H.next < H2.next := by have := o2.next; omega
        have zz : zeros 1 [.slice none 0 0] = [.slice none 0 0] := rfl
        have hL32 : (L.length : Int) ≤ 1048576 := by omega
        try simp (disch := first | omega | (simp only [ints_length, List.length_replicate, List.length_set, bools_length, metL_length] <;> omega)) only [Sall,evalOp,init,binA_s,binE,binI,unE,convE,okNil,builtE,gv,TD.isAgg,resV,↓reduceIte,Nat.reduceEqDiff,reduceCtorEq,Nat.reduceAdd,Nat.reduceMul,Nat.reduceLeDiff,quietOp,blindOp,Int.reduceEq,Int.reduceLT,Int.reduceLE,Nat.reduceLT,tiA,tiXA, h7, h6, builtE, hol, e5]
        refine awp_cutQ (fun t H5 => ∃ oi u41, t 8 = .pointer (some ⟨oi, 0, none⟩) ∧ t 1 = .int .i64 kk ∧ t 2 = .pointer (some ⟨H.next, 0, none⟩) ∧ t 4 = .pointer (some ⟨H.next + 1, 0, none⟩) ∧ t 6 = .slice (some ⟨wi, 0, some 1⟩) ws2.length ws2.length ∧ t 7 = .int .i64 i ∧ Ow H2 H5 [.sl 1 28 u41 (ws.length + 1) (ws ++ [x]), .row oi ⟨26, true, [.int .i64 n, .int .i64 g, u41]⟩]) ?_ ?_
        · refine draw_poolN (fun j => j < H2.next) [0, 1, 2, 3, 5, 6, 8, 9, 10, 11] [4, 7, 13] [12, 15] [(13, 12)] [14] (OT.run [16] .nil) (by kernel_rfl) (by kernel_rfl) (Nat.le_of_ble_eq_true rfl) (FsJ H2 n g v x ws (.int .i64 kk) (.pointer (some ⟨H.next, 0, none⟩)) (.pointer (some ⟨H.next + 1, 0, none⟩)) (.slice (some ⟨wi, 0, some 1⟩) ws2.length ws2.length) (.int .i64 i)) (fun fs t Hx => FsJ H2 n g v x ws (.int .i64 kk) (.pointer (some ⟨H.next, 0, none⟩)) (.pointer (some ⟨H.next + 1, 0, none⟩)) (.slice (some ⟨wi, 0, some 1⟩) ws2.length ws2.length) (.int .i64 i) [] fs t Hx ∧ (t 41).oneCell' = true ∧ t 42 = .agg #[.int .i64 n, .int .i64 g, t 41]) ⟨?_, ?_, ?_, ?_, ?_⟩ ?_
          · intro c' cs fs t H3 hnd hJ
            rcases hJ.hcs with e | e | e | e
            · injection e with e1 e2
              subst e1; subst e2
              have sc3 : Sc H3 := by obtain ⟨_, _, _, o, _⟩ := hJ.ow; exact o.sc
              try simp (disch := first | omega | (simp only [ints_length, List.length_replicate, List.length_set, bools_length, metL_length] <;> omega)) only [Sall,evalOp,init,binA_s,binE,binI,unE,convE,okNil,builtE,gv,TD.isAgg,resV,↓reduceIte,Nat.reduceEqDiff,reduceCtorEq,Nat.reduceAdd,Nat.reduceMul,Nat.reduceLeDiff,quietOp,blindOp,Int.reduceEq,Int.reduceLT,Int.reduceLE,Nat.reduceLT,tiA,tiXA, awpTS_run_nil, awpTS_run_cons, awpTS_nil, awpTS_one, awpIS_nil, awpIS_cons, stepIS_op, loadOk, zeros_zero]
              exact ⟨.inr (.inr (LE.les (sc3.le _))), hJ.call4⟩
            · injection e with e1 e2
              subst e1; subst e2
              obtain ⟨a, b, cc, o, k1, k2, k3, k4, k5⟩ := hJ.ow
              obtain rfl := k1 rfl
              have t34 := hJ.t34
              have hv3 := hv2.same (o.old o2.sc)
              try simp (disch := first | omega | (simp only [ints_length, List.length_replicate, List.length_set, bools_length, metL_length] <;> omega)) only [Sall,evalOp,init,binA_s,binE,binI,unE,convE,okNil,builtE,gv,TD.isAgg,resV,↓reduceIte,Nat.reduceEqDiff,reduceCtorEq,Nat.reduceAdd,Nat.reduceMul,Nat.reduceLeDiff,quietOp,blindOp,Int.reduceEq,Int.reduceLT,Int.reduceLE,Nat.reduceLT,tiA,tiXA, awpTS_run_nil, awpTS_run_cons, awpTS_nil, awpTS_one, awpIS_nil, awpIS_cons, stepIS_op, loadOk, t34]
              refine o.appWC 0 rfl hv3 rfl (by decide) (by omega) ?_
              intro w H4 n4 o4
              rw [Nat.zero_add, List.nil_append] at o4
              exact ⟨.inr (.inr (les_low o o4 n4)), .inr (.inr (.inl rfl)), hJ.hfs, hJ.t29, hJ.t31, hJ.t34, hJ.t39, hJ.t1, hJ.t2, hJ.t4, hJ.t6, hJ.t7, _, b, cc, o4, fun e => (by cases e), fun _ => rfl, fun e => (by cases e), k4, k5⟩
            · injection e with e1 e2
              subst e1; subst e2
              obtain ⟨a, b, cc, o, k1, k2, k3, k4, k5⟩ := hJ.ow
              obtain rfl := k2 rfl
              obtain rfl := k4 (fun h => hnd 12 h (by simp))
              obtain ⟨S1, hS1, hp1⟩ := o.at (k := 1) rfl
              have hrx : Rc (t 40) [x] [r] H3 := rc_of_sl (RowsC.snoc (RowsC.nil H3) (hxs.same (o.old o2.sc))) hp1
              try simp (disch := first | omega | (simp only [ints_length, List.length_replicate, List.length_set, bools_length, metL_length] <;> omega)) only [Sall,evalOp,init,binA_s,binE,binI,unE,convE,okNil,builtE,gv,TD.isAgg,resV,↓reduceIte,Nat.reduceEqDiff,reduceCtorEq,Nat.reduceAdd,Nat.reduceMul,Nat.reduceLeDiff,quietOp,blindOp,Int.reduceEq,Int.reduceLT,Int.reduceLE,Nat.reduceLT,tiA,tiXA, awpTS_run_nil, awpTS_run_cons, awpTS_nil, awpTS_one, awpIS_nil, awpIS_cons, stepIS_op, loadOk]
              refine o.appWC 0 rfl hrx rfl (by decide) (by simp; omega) ?_
              intro w H4 n4 o4
              exact ⟨.inr (.inr (les_low o o4 n4)), .inr (.inr (.inr rfl)), hJ.hfs, hJ.t29, hJ.t31, hJ.t34, hJ.t39, hJ.t1, hJ.t2, hJ.t4, hJ.t6, hJ.t7, _, _, cc, o4, fun e => (by cases e), fun e => (by cases e), fun _ => rfl, fun _ => rfl, k5⟩
            · cases e
          · intro a cs fs t H3 ha hJ
            have sc3 : Sc H3 := by obtain ⟨_, _, _, o, _⟩ := hJ.ow; exact o.sc
            rcases hJ.hfs a ha with rfl | rfl
            · have t39 := hJ.t39
              try simp (disch := first | omega | (simp only [ints_length, List.length_replicate, List.length_set, bools_length, metL_length] <;> omega)) only [Sall,evalOp,init,binA_s,binE,binI,unE,convE,okNil,builtE,gv,TD.isAgg,resV,↓reduceIte,Nat.reduceEqDiff,reduceCtorEq,Nat.reduceAdd,Nat.reduceMul,Nat.reduceLeDiff,quietOp,blindOp,Int.reduceEq,Int.reduceLT,Int.reduceLE,Nat.reduceLT,tiA,tiXA, awpTS_run_nil, awpTS_run_cons, awpTS_nil, awpTS_one, awpIS_nil, awpIS_cons, stepIS_op, loadOk, t39, hx1, hq1, hq2, zz]
              exact ⟨.inr (.inr (LE.les (sc3.le _))), hJ.free12⟩
            · try simp (disch := first | omega | (simp only [ints_length, List.length_replicate, List.length_set, bools_length, metL_length] <;> omega)) only [Sall,evalOp,init,binA_s,binE,binI,unE,convE,okNil,builtE,gv,TD.isAgg,resV,↓reduceIte,Nat.reduceEqDiff,reduceCtorEq,Nat.reduceAdd,Nat.reduceMul,Nat.reduceLeDiff,quietOp,blindOp,Int.reduceEq,Int.reduceLT,Int.reduceLE,Nat.reduceLT,tiA,tiXA, awpTS_run_nil, awpTS_run_cons, awpTS_nil, awpTS_one, awpIS_nil, awpIS_cons, stepIS_op, loadOk]
              exact ⟨.inr (.inr (LE.les (sc3.le _))), hJ.free15⟩
          · intro fs t H3 hJ
            obtain ⟨a, b, cc, o, k1, k2, k3, k4, k5⟩ := hJ.ow
            obtain rfl := k3 rfl
            have h41 := o.one 0 rfl
            have hq41 := cells_of_one h41
            have hn41 := noTuple_of_one h41
            have t29 := hJ.t29
            have t31 := hJ.t31
            try simp (disch := first | omega | (simp only [ints_length, List.length_replicate, List.length_set, bools_length, metL_length] <;> omega)) only [Sall,evalOp,init,binA_s,binE,binI,unE,convE,okNil,builtE,gv,TD.isAgg,resV,↓reduceIte,Nat.reduceEqDiff,reduceCtorEq,Nat.reduceAdd,Nat.reduceMul,Nat.reduceLeDiff,quietOp,blindOp,Int.reduceEq,Int.reduceLT,Int.reduceLE,Nat.reduceLT,tiA,tiXA, awpTS_run_nil, awpTS_run_cons, awpTS_nil, awpTS_one, awpIS_nil, awpIS_cons, stepIS_op, loadOk, t29, t31, h41, hq41, hn41]
            exact ⟨.inr (.inr (.inr rfl)), hJ.hfs, hJ.t29, hJ.t31, hJ.t34, hJ.t39, hJ.t1, hJ.t2, hJ.t4, hJ.t6, hJ.t7, hJ.ow⟩
          · rintro a fs t H3 ha ⟨hJ, k1, k2⟩
            have sc3 : Sc H3 := by obtain ⟨_, _, _, o, _⟩ := hJ.ow; exact o.sc
            rcases hJ.hfs a ha with rfl | rfl
            · have t39 := hJ.t39
              try simp (disch := first | omega | (simp only [ints_length, List.length_replicate, List.length_set, bools_length, metL_length] <;> omega)) only [Sall,evalOp,init,binA_s,binE,binI,unE,convE,okNil,builtE,gv,TD.isAgg,resV,↓reduceIte,Nat.reduceEqDiff,reduceCtorEq,Nat.reduceAdd,Nat.reduceMul,Nat.reduceLeDiff,quietOp,blindOp,Int.reduceEq,Int.reduceLT,Int.reduceLE,Nat.reduceLT,tiA,tiXA, awpTS_run_nil, awpTS_run_cons, awpTS_nil, awpTS_one, awpIS_nil, awpIS_cons, stepIS_op, loadOk, t39, hx1, hq1, hq2, zz]
              exact ⟨.inr (.inr (LE.les (sc3.le _))), hJ.free12, k1, k2⟩
            · try simp (disch := first | omega | (simp only [ints_length, List.length_replicate, List.length_set, bools_length, metL_length] <;> omega)) only [Sall,evalOp,init,binA_s,binE,binI,unE,convE,okNil,builtE,gv,TD.isAgg,resV,↓reduceIte,Nat.reduceEqDiff,reduceCtorEq,Nat.reduceAdd,Nat.reduceMul,Nat.reduceLeDiff,quietOp,blindOp,Int.reduceEq,Int.reduceLT,Int.reduceLE,Nat.reduceLT,tiA,tiXA, awpTS_run_nil, awpTS_run_cons, awpTS_nil, awpTS_one, awpIS_nil, awpIS_cons, stepIS_op, loadOk]
              exact ⟨.inr (.inr (LE.les (sc3.le _))), hJ.free15, k1, k2⟩
          · rintro t H3 ⟨hJ, k1, k2⟩
            obtain ⟨a, b, cc, o, _, _, k3, k4, k5⟩ := hJ.ow
            obtain rfl := k3 rfl
            obtain ⟨oi, h8, rfl⟩ := k5 (by simp)
            have r8 := (o.rowAt 2 rfl).1
            have t1 := hJ.t1
            have t2 := hJ.t2
            have t4 := hJ.t4
            have t6 := hJ.t6
            have t7 := hJ.t7
            have o4 := (o.putRow 2 rfl (cs' := [.int .i64 n, .int .i64 g, t 41])).pick2 0 2 rfl rfl (by omega)
            try simp (disch := first | omega | (simp only [ints_length, List.length_replicate, List.length_set, bools_length, metL_length] <;> omega)) only [Sall,evalOp,init,binA_s,binE,binI,unE,convE,okNil,builtE,gv,TD.isAgg,resV,↓reduceIte,Nat.reduceEqDiff,reduceCtorEq,Nat.reduceAdd,Nat.reduceMul,Nat.reduceLeDiff,quietOp,blindOp,Int.reduceEq,Int.reduceLT,Int.reduceLE,Nat.reduceLT,tiA,tiXA, awpTS_run_nil, awpTS_run_cons, awpTS_nil, awpTS_one, awpIS_nil, awpIS_cons, stepIS_op, loadOk, h8, r8, k1, k2, t1, t2, t4, t6, t7]
            exact ⟨.inr (.inr (les_set (o.rowAt 2 rfl).2.1 _)), oi, t 41, rfl, o4⟩
          · try simp (disch := first | omega | (simp only [ints_length, List.length_replicate, List.length_set, bools_length, metL_length] <;> omega)) only [Sall,evalOp,init,binA_s,binE,binI,unE,convE,okNil,builtE,gv,TD.isAgg,resV,↓reduceIte,Nat.reduceEqDiff,reduceCtorEq,Nat.reduceAdd,Nat.reduceMul,Nat.reduceLeDiff,quietOp,blindOp,Int.reduceEq,Int.reduceLT,Int.reduceLE,Nat.reduceLT,tiA,tiXA, awpTS_run_nil, awpTS_run_cons, awpTS_nil, awpTS_one, awpIS_nil, awpIS_cons, stepIS_op, loadOk, h1, h2, h4, h6, h7, g1, hwr, hx, hx1, hone, hok, hlt1, b2]
            exact ⟨⟨by omega, by omega⟩, .inl rfl, by simp, rfl, rfl, rfl, rfl, h1, h2, h4, h6, h7, .no, .no, .no, (Ow.refl o2.sc).addNo.addNo.addNo, fun e => (by cases e), fun e => (by cases e), fun e => (by cases e), fun k => absurd (by simp) k, fun k => absurd (by simp) k⟩
        · rintro t H5 ⟨oi, u41, h8, h1, h2, h4, h6, h7, o5⟩
          have r5 := (o5.rowAt 1 rfl).1
          have hu41 := o5.one 0 rfl
          obtain ⟨S1, hS1, hp1⟩ := o5.at (k := 0) rfl
          have hxs5 := hxs.same (o5.old o2.sc)
          have hrc5 : Rc u41 (ws ++ [x]) (R ++ [r]) H5 := rc_of_sl (RowsC.snoc (hv2.same (o5.old o2.sc)).1 hxs5) hp1
          have hR2 : ∀ i, i < (R ++ [r]).length → ordB n ((R ++ [r]).getD i []) = true := fun i hi => by
            rw [List.length_append, List.length_singleton] at hi
            by_cases e : i < R.length
            · rw [List.getD_eq_getElem?_getD, List.getElem?_append_left e, ← List.getD_eq_getElem?_getD]; exact hR i e
            · rw [show i = R.length by omega, List.getD_eq_getElem?_getD, List.getElem?_append_right (Nat.le_refl _), Nat.sub_self]
              exact (nxt_of (M := gmM n g R) (n := n) (g := g) (by omega) (by rw [← eL]; exact List.mem_of_getElem? hLi)).ord
          have ekk2 : kk = (((R ++ [r]).length + f : Nat) : Int) := by rw [ekk, List.length_append, List.length_singleton]; omega
          have hih := ih (R ++ [r]) u41 (ws ++ [x]) H5 (by rw [List.length_append, List.length_singleton]; omega) hR2 hrc5
          rw [← ekk2] at hih
          have hfo : fgF n g f (R ++ [r]) = none → ∀ j, j < i + 1 → ∀ y, L[j]? = some y → fgF n g f (R ++ [y]) = none := fun h j hj y hy => by
            by_cases e : j < i
            · exact hno j e y hy
            · obtain rfl : j = i := by omega
              rw [hLi] at hy
              cases hy
              exact h
          have hfs : ∀ X, fgF n g f (R ++ [r]) = some X → L.findSome? (fun r => fgF n g f (R ++ [r])) = some X := fun X h => findSomeG_at hLi h hno
          generalize fgF n g f (R ++ [r]) = o at hih hfo hfs
          try simp (disch := first | omega | (simp only [ints_length, List.length_replicate, List.length_set, bools_length, metL_length] <;> omega)) only [Sall,evalOp,init,binA_s,binE,binI,unE,convE,okNil,builtE,gv,TD.isAgg,resV,↓reduceIte,Nat.reduceEqDiff,reduceCtorEq,Nat.reduceAdd,Nat.reduceMul,Nat.reduceLeDiff,quietOp,blindOp,Int.reduceEq,Int.reduceLT,Int.reduceLE,Nat.reduceLT,tiA,tiXA, h8, h1, r5, hu41]
          refine hih.mono ?_
          rintro res H6 ⟨w, ws', er', o6⟩
          rw [er']
          have hw : w.oneCell' = true := (o6.sees 0 rfl (hrc5.same (o6.old o5.sc))).rg.one
          have o7 := (((o2.call o5).call o6).push ⟨26, true, [.int .i64 0, .int .i64 0, .slice none 0 0]⟩).putRow 5 rfl (cs' := [.int .i64 (oQ o n), .int .i64 (oQ o g), w])
          refine Holds.mp ?_
          cases o with
          | none =>
            try simp (disch := first | omega | (simp only [ints_length, List.length_replicate, List.length_set, bools_length, metL_length] <;> omega)) only [Sall,evalOp,init,binA_s,binE,binI,unE,convE,okNil,builtE,gv,TD.isAgg,resV,↓reduceIte,Nat.reduceEqDiff,reduceCtorEq,Nat.reduceAdd,Nat.reduceMul,Nat.reduceLeDiff,quietOp,blindOp,Int.reduceEq,Int.reduceLT,Int.reduceLE,Nat.reduceLT,tiA,tiXA, Option.isSome_none, hw, h7, w64]
            exact ⟨L.length - (i + 1), by omega, i + 1, rfl, by omega, hfo rfl, rfl, h6, h1, h2, h4, o7.pick2 0 1 rfl rfl (by omega)⟩
          | some X =>
            rw [hfs X rfl]
            have o8 := (o1.call o7).putRow 1 rfl (cs' := [.int .i64 (oQ (some X) n), .int .i64 (oQ (some X) g), w])
            have rg : H6.row (H.next + 1) = some ⟨26, true, [.int .i64 0, .int .i64 0, .slice none 0 0]⟩ := by rw [((o2.call o5).call o6).low _ (by omega)]; exact (o1.rowAt 1 rfl).1
            have n6 := ((o2.call o5).call o6).next
            have ng : ¬ H.next + 1 = H6.next := by omega
            try simp (disch := first | omega | (simp only [ints_length, List.length_replicate, List.length_set, bools_length, metL_length] <;> omega)) only [Sall,evalOp,init,binA_s,binE,binI,unE,convE,okNil,builtE,gv,TD.isAgg,resV,↓reduceIte,Nat.reduceEqDiff,reduceCtorEq,Nat.reduceAdd,Nat.reduceMul,Nat.reduceLeDiff,quietOp,blindOp,Int.reduceEq,Int.reduceLT,Int.reduceLE,Nat.reduceLT,tiA,tiXA, Option.isSome_some, hw, h4, rg, ng]
            refine ⟨w, ws', rfl, ?_⟩
            have o9 := o8.seeBy 4 3 (Q := fun H2 => RowsC ws R H2 → Rc u41 (ws ++ [x]) (R ++ [r]) H2) rfl rfl (by omega) fun H' S hp hq hr => by
              obtain ⟨x', hx', hxs'⟩ := hq.2 i hiL
              rw [hx] at hx'
              cases hx'
              rw [← er] at hxs'
              exact rc_of_sl (RowsC.snoc hr hxs') hp
            have o10 := o9.seeBy 6 4 (Q := fun H2 => Rc v ws R H2 → Rc w ws' X H2) rfl rfl (by omega) fun H' S hp hq hr => hp H' (fun _ _ _ h => h) (hq hr.1)
            exact o10.only 6 rfl
end Go.Proofs.YtollphjompimjaaGreat.A
end

section
set_option maxRecDepth 100000
set_option maxHeartbeats 4000000
namespace Go.Proofs.YtollphjompimjaaGreat.A
open Go Go.Abs Go.RowKit
theorem specFirstGolf_c (q g k : Int) (hq : -1000 ≤ q ∧ q ≤ 1000) (hg : -1000 ≤ g ∧ g ≤ 1000) (hk : -1000 ≤ k ∧ k ≤ 1000) (H : AH) :
    ACalls Tryz.prog 18 [.int .i64 q, .int .i64 g, .int .i64 k] H (fun r H' => ∃ u ws, r = .tuple #[.agg #[.int .i64 (fgQ q g k), .int .i64 (fgG q g k), u], .int .i64 (fgC q g k)] ∧ Ow H H' [.see (Rc u ws (fgR q g k))]) := by
  refine ACalls.wf (by kernel_rfl) fun hs => acalls_of_awp [.cell 6 26, .tmp 7] Tryz.func18 (by kernel_rfl) rfl rfl (Nat.le_of_ble_eq_true rfl) (by kernel_rfl) ?_
  have nilRc : ∀ H : AH, Rc (.slice none 0 0) [] [] H := fun H => ⟨RowsC.nil H, .inl ⟨rfl, rfl⟩⟩
  have o1 := (Ow.refl hs).push ⟨26, true, [.int .i64 0, .int .i64 0, .slice none 0 0]⟩
  try simp (disch := first | omega | (simp only [ints_length, List.length_replicate, List.length_set, bools_length, metL_length] <;> omega)) only [Sall,evalOp,init,binA_s,binE,binI,unE,convE,okNil,builtE,gv,TD.isAgg,resV,↓reduceIte,Nat.reduceEqDiff,reduceCtorEq,Nat.reduceAdd,Nat.reduceMul,Nat.reduceLeDiff,quietOp,blindOp,Int.reduceEq,Int.reduceLT,Int.reduceLE,Nat.reduceLT,tiA,tiXA, true_and]
  have n1 : (H.push ⟨26, true, [.int .i64 0, .int .i64 0, .slice none 0 0]⟩).next = H.next + 1 := rfl
  have o1 : Ow H (H.push ⟨26, true, [.int .i64 0, .int .i64 0, .slice none 0 0]⟩) [.row H.next ⟨26, true, [.int .i64 0, .int .i64 0, .slice none 0 0]⟩] := o1
  have no : ∀ H2 (c : Int), fgC q g k = c → Ow H H2 [] → fgV q g k = none → ∃ u ws, (.tuple #[.agg #[.int .i64 0, .int .i64 0, .slice none 0 0], .int .i64 c] : Value) = .tuple #[.agg #[.int .i64 (fgQ q g k), .int .i64 (fgG q g k), u], .int .i64 (fgC q g k)] ∧ Ow H H2 [.see (Rc u ws (fgR q g k))] := fun H2 c e o h => by
    refine ⟨.slice none 0 0, [], ?_, ?_⟩
    · unfold fgQ fgG; rw [h, e]
    · unfold fgR; rw [h]; exact o.addSee nilRc
  generalize H.push ⟨26, true, [.int .i64 0, .int .i64 0, .slice none 0 0]⟩ = H1 at o1 n1 ⊢
  have r1 := (o1.rowAt 0 rfl).1
  have o1' := Ow.left (L := []) (o1.putRow 0 rfl (cs' := [.int .i64 0, .int .i64 0, .slice none 0 0]))
  refine (l08Size_c q g 9 _ (by omega)).to ?_
  refine Holds.mp ?_
  cases eS : golfS q g 9 with
  | false =>
    have e1 : fgB q g k = false := by unfold fgB; rw [eS]; rfl
    have e2 : fgC q g k = 2 := by unfold fgC; rw [e1]; rfl
    have e3 : fgV q g k = none := by unfold fgV; rw [e1]; rfl
    try simp (disch := first | omega | (simp only [ints_length, List.length_replicate, List.length_set, bools_length, metL_length] <;> omega)) only [Sall,evalOp,init,binA_s,binE,binI,unE,convE,okNil,builtE,gv,TD.isAgg,resV,↓reduceIte,Nat.reduceEqDiff,reduceCtorEq,Nat.reduceAdd,Nat.reduceMul,Nat.reduceLeDiff,quietOp,blindOp,Int.reduceEq,Int.reduceLT,Int.reduceLE,Nat.reduceLT,tiA,tiXA, Bool.not_false, r1]
    exact no _ _ e2 o1' e3
  | true =>
  try simp (disch := first | omega | (simp only [ints_length, List.length_replicate, List.length_set, bools_length, metL_length] <;> omega)) only [Sall,evalOp,init,binA_s,binE,binI,unE,convE,okNil,builtE,gv,TD.isAgg,resV,↓reduceIte,Nat.reduceEqDiff,reduceCtorEq,Nat.reduceAdd,Nat.reduceMul,Nat.reduceLeDiff,quietOp,blindOp,Int.reduceEq,Int.reduceLT,Int.reduceLE,Nat.reduceLT,tiA,tiXA, Bool.not_true]
  refine (l01In_c k 0 7 _).to ?_
  refine Holds.mp ?_
  by_cases c5 : 0 ≤ k ∧ k ≤ 7
  rotate_left
  · have e1 : fgB q g k = false := by unfold fgB; rw [decide_eq_false c5]; simp
    have e2 : fgC q g k = 2 := by unfold fgC; rw [e1]; rfl
    have e3 : fgV q g k = none := by unfold fgV; rw [e1]; rfl
    rw [decide_eq_false c5]
    try simp (disch := first | omega | (simp only [ints_length, List.length_replicate, List.length_set, bools_length, metL_length] <;> omega)) only [Sall,evalOp,init,binA_s,binE,binI,unE,convE,okNil,builtE,gv,TD.isAgg,resV,↓reduceIte,Nat.reduceEqDiff,reduceCtorEq,Nat.reduceAdd,Nat.reduceMul,Nat.reduceLeDiff,quietOp,blindOp,Int.reduceEq,Int.reduceLT,Int.reduceLE,Nat.reduceLT,tiA,tiXA, Bool.not_false, r1]
    exact no _ _ e2 o1' e3
  rw [decide_eq_true c5]
  have eB : fgB q g k = true := by unfold fgB; rw [eS, decide_eq_true c5]; rfl
  obtain ⟨n, gN, c, rfl, rfl, q0, q1, q2, q3, q4, q5⟩ := golfS_at eS
  obtain ⟨kN, rfl⟩ : ∃ kN : Nat, k = kN := ⟨k.toNat, by omega⟩
  have eD : Int.tdiv ((n : Int) - 1) ((gN : Int) - 1) = (((n - 1) / (gN - 1) : Nat) : Int) := by
    rw [show (n : Int) - 1 = ((n - 1 : Nat) : Int) by omega, show (gN : Int) - 1 = ((gN - 1 : Nat) : Int) by omega]
    rfl
  have hD : (n - 1) / (gN - 1) ≤ n - 1 := Nat.div_le_self _ _
  obtain ⟨D, eDD⟩ : ∃ D, D = (n - 1) / (gN - 1) := ⟨_, rfl⟩
  rw [← eDD] at eD hD
  have hg1 : ¬ (gN : Int) - 1 = 0 := by omega
  have nd : (gN : Int) - 1 = ((gN - 1 : Nat) : Int) := by omega
  have o2 := o1.pushSl (k := 1) (n := 0) (ty := 28) (vs := []) rfl
  have npi : ¬ H.next = H1.next := by omega
  by_cases c6 : (D : Int) < (kN : Int)
  · have e1 : fgV n gN kN = none := by unfold fgV; rw [eD, if_neg (fun h => by omega)]
    have e2 : fgC n gN kN = 4 := by unfold fgC; rw [eB, if_pos rfl, e1]
    have e5 : decide ((D : Int) < (kN : Int)) = true := decide_eq_true c6
    try simp (disch := first | omega | (simp only [ints_length, List.length_replicate, List.length_set, bools_length, metL_length] <;> omega)) only [Sall,evalOp,init,binA_s,binE,binI,unE,convE,okNil,builtE,gv,TD.isAgg,resV,↓reduceIte,Nat.reduceEqDiff,reduceCtorEq,Nat.reduceAdd,Nat.reduceMul,Nat.reduceLeDiff,quietOp,blindOp,Int.reduceEq,Int.reduceLT,Int.reduceLE,Nat.reduceLT,tiA,tiXA, Bool.not_true, eD, hg1, e5, r1, npi, w64]
    exact no _ _ e2 o1' e1
  have e5 : decide ((D : Int) < (kN : Int)) = false := decide_eq_false c6
  have zz : zeros 0 [.slice none 0 0] = [] := rfl
  try simp (disch := first | omega | (simp only [ints_length, List.length_replicate, List.length_set, bools_length, metL_length] <;> omega)) only [Sall,evalOp,init,binA_s,binE,binI,unE,convE,okNil,builtE,gv,TD.isAgg,resV,↓reduceIte,Nat.reduceEqDiff,reduceCtorEq,Nat.reduceAdd,Nat.reduceMul,Nat.reduceLeDiff,quietOp,blindOp,Int.reduceEq,Int.reduceLT,Int.reduceLE,Nat.reduceLT,tiA,tiXA, Bool.not_true, eD, hg1, e5, r1, npi, zz, w64]
  have n2 : (H1.push ⟨28, true, []⟩).next = H1.next + 1 := rfl
  have o2 : Ow H (H1.push ⟨28, true, []⟩) [.row H.next ⟨26, true, [.int .i64 0, .int .i64 0, .slice none 0 0]⟩, .sl 1 28 (.slice (some ⟨H1.next, 0, some 1⟩) 0 0) 0 []] := o2
  generalize H1.push ⟨28, true, []⟩ = H2 at o2 n2 ⊢
  obtain ⟨S1, hS1, hp1⟩ := o2.at (k := 1) rfl
  have hrc : Rc (.slice (some ⟨H1.next, 0, some 1⟩) 0 0) [] [] H2 := rc_of_sl (RowsC.nil H2) hp1
  have hc := l08First_c q1 q0 (by omega) q5 kN [] _ [] H2 (by simp; omega) (fun i h => by simp at h) hrc
  rw [show ([] : List (List Int)).length + kN = kN by simp] at hc
  have eV : fgV n gN kN = fgF n gN kN [] := by unfold fgV; rw [if_pos ⟨eB, by rw [eD]; omega⟩, Int.toNat_natCast, Int.toNat_natCast, Int.toNat_natCast]
  refine hc.mono ?_
  rintro res H3 ⟨w, ws', er', o3⟩
  rw [er']
  have hw : w.oneCell' = true := (o3.sees 0 rfl (hrc.same (o3.old o2.sc))).rg.one
  have n3 := o3.next
  have r3 : H3.row H.next = some ⟨26, true, [.int .i64 0, .int .i64 0, .slice none 0 0]⟩ := by rw [o3.low _ (by omega)]; exact (o2.rowAt 0 rfl).1
  have np3 : ¬ H.next = H3.next := by omega
  refine Holds.mp ?_
  cases hF : fgF n gN kN [] with
  | none =>
    rw [hF] at eV
    have e2 : fgC n gN kN = 4 := by unfold fgC; rw [eB, if_pos rfl, eV]
    have o4 := (((o2.call o3).push ⟨26, true, [.int .i64 0, .int .i64 0, .slice none 0 0]⟩).putRow 3 rfl (cs' := [.int .i64 (oQ (none : Option (List (List Int))) n), .int .i64 (oQ (none : Option (List (List Int))) gN), w])).putRow 0 rfl (cs' := [.int .i64 0, .int .i64 0, .slice none 0 0])
    try simp (disch := first | omega | (simp only [ints_length, List.length_replicate, List.length_set, bools_length, metL_length] <;> omega)) only [Sall,evalOp,init,binA_s,binE,binI,unE,convE,okNil,builtE,gv,TD.isAgg,resV,↓reduceIte,Nat.reduceEqDiff,reduceCtorEq,Nat.reduceAdd,Nat.reduceMul,Nat.reduceLeDiff,quietOp,blindOp,Int.reduceEq,Int.reduceLT,Int.reduceLE,Nat.reduceLT,tiA,tiXA, Option.isSome_none, Bool.not_false, hw, r3, np3]
    exact no _ _ e2 (Ow.left (L := []) o4) eV
  | some X =>
    rw [hF] at eV o3
    have e2 : fgC n gN kN = 0 := by unfold fgC; rw [eB, if_pos rfl, eV]
    have e6 : fgQ n gN kN = n := by unfold fgQ; rw [eV]
    have e7 : fgG n gN kN = gN := by unfold fgG; rw [eV]
    have e8 : fgR n gN kN = X := by unfold fgR; rw [eV]; rfl
    have e9 : ∀ z : Int, oQ (some X) z = z := fun _ => rfl
    have o4 := (((o2.call o3).push ⟨26, true, [.int .i64 0, .int .i64 0, .slice none 0 0]⟩).putRow 3 rfl (cs' := [.int .i64 n, .int .i64 gN, w])).putRow 0 rfl (cs' := [.int .i64 n, .int .i64 gN, w])
    rw [e2, e6, e7, e8, e9, e9]
    try simp (disch := first | omega | (simp only [ints_length, List.length_replicate, List.length_set, bools_length, metL_length] <;> omega)) only [Sall,evalOp,init,binA_s,binE,binI,unE,convE,okNil,builtE,gv,TD.isAgg,resV,↓reduceIte,Nat.reduceEqDiff,reduceCtorEq,Nat.reduceAdd,Nat.reduceMul,Nat.reduceLeDiff,quietOp,blindOp,Int.reduceEq,Int.reduceLT,Int.reduceLE,Nat.reduceLT,tiA,tiXA, Option.isSome_some, Bool.not_true, hw, r3, np3]
    refine ⟨w, ws', rfl, ?_⟩
    have o5 := o4.seeBy 1 2 (Q := Rc w ws' X) rfl rfl (by omega) fun H' S hp hq => hq (rc_of_sl (RowsC.nil H') hp)
    exact o5.only 1 rfl
end Go.Proofs.YtollphjompimjaaGreat.A
end

section
set_option maxRecDepth 100000
set_option maxHeartbeats 2000000
namespace Go.Proofs.YtollphjompimjaaGreat.A
open Go Go.Abs Go.RowKit
def CodeOk (H : AH) (cv : Value) (nb : Nat) : Prop :=
  (nb = 0 ∧ ∃ a c, cv = .slice a 0 c) ∨ ∃ i o u c r, cv = .slice (some ⟨i, o, u⟩) nb c ∧ H.row i = some r ∧ ∀ j, j < nb → ∃ x, r.cells[o + j]? = some (.int .u8 x) ∧ 0 ≤ x ∧ x ≤ 255
theorem CodeOk.len {H : AH} {cv : Value} {nb : Nat} (h : CodeOk H cv nb) (H' : AH) : asSl cv (.val (.int .i64 0) H') (fun _ _ _ n _ => .val (.int .i64 (n : Int)) H') = .val (.int .i64 (nb : Int)) H' := by
  rcases h with ⟨rfl, a, c, rfl⟩ | ⟨i, o, u, c, r, rfl, _⟩
  · cases a <;> rfl
  · rfl
theorem CodeOk.one {H : AH} {cv : Value} {nb : Nat} (h : CodeOk H cv nb) : cv.oneCell' = true := by
  rcases h with ⟨rfl, a, c, rfl⟩ | ⟨i, o, u, c, r, rfl, _⟩ <;> rfl
theorem CodeOk.get {H : AH} {cv : Value} {nb : Nat} (h : CodeOk H cv nb) {j : Nat} (hj : j < nb) : ∃ i o u c r x, cv = .slice (some ⟨i, o, u⟩) nb c ∧ H.row i = some r ∧ r.cells[o + j]? = some (.int .u8 x) ∧ 0 ≤ x ∧ x ≤ 255 := by
  rcases h with ⟨rfl, _⟩ | ⟨i, o, u, c, r, rfl, hr, hx⟩
  · omega
  · obtain ⟨x, h1, h2, h3⟩ := hx j hj
    exact ⟨i, o, u, c, r, x, rfl, hr, h1, h2, h3⟩
def Src (cv : Value) (nb si : Nat) (H : AH) : Prop := ∃ (a : Nat) (h : Int), H.row si = some ⟨69, true, [cv, .int .i64 a, .int .u64 h]⟩ ∧ a ≤ nb
structure SrcB (cv : Value) (nb si : Nat) (H H' : AH) : Prop where
  next : H'.next = H.next
  row : ∀ i, i ≠ si → H'.row i = H.row i
  src : Src cv nb si H'
theorem SrcB.refl {cv : Value} {nb si : Nat} {H : AH} (h : Src cv nb si H) : SrcB cv nb si H H := ⟨rfl, fun _ _ => rfl, h⟩
theorem SrcB.trans {cv : Value} {nb si : Nat} {A B C : AH} (h : SrcB cv nb si A B) (k : SrcB cv nb si B C) : SrcB cv nb si A C := ⟨k.next.trans h.next, fun i hi => (k.row i hi).trans (h.row i hi), k.src⟩
def CodeX (cv : Value) (nb si : Nat) (H : AH) : Prop := ∀ H', (∀ i r, i ≠ si → H.row i = some r → H'.row i = some r) → CodeOk H' cv nb
theorem CodeX.now {cv : Value} {nb si : Nat} {H : AH} (h : CodeX cv nb si H) : CodeOk H cv nb := h H fun _ _ _ k => k
theorem CodeX.later {cv : Value} {nb si : Nat} {H H' : AH} (h : CodeX cv nb si H) (hs : ∀ i r, i ≠ si → H.row i = some r → H'.row i = some r) : CodeX cv nb si H' := fun H2 h2 => h H2 fun i r hi hr => h2 i r hi (hs i r hi hr)
theorem SrcB.sc {cv : Value} {nb si : Nat} {H H' : AH} (h : SrcB cv nb si H H') (hs : Sc H) (hi : si < H.next) : Sc H' := fun i r hr => by
  rw [h.next]
  by_cases e : i = si
  · rw [e]; exact hi
  · rw [h.row i e] at hr; exact hs i r hr
theorem Ow.src {cv : Value} {nb si : Nat} {B H H' : AH} {L : List Th} (h : Ow B H L) (hi : si < B.next) (k : SrcB cv nb si H H') : ∃ B', SrcB cv nb si B B' ∧ Ow B' H' L := by
  have hb := h.next
  have hsr := k.src
  refine ⟨⟨B.next, fun i => if i = si then H'.row si else B.row i⟩, ⟨rfl, fun i hi => if_neg hi, ?_⟩, ⟨k.sc h.sc (by omega), by rw [k.next]; exact h.next, fun i hi2 => ?_, ?_⟩⟩
  · obtain ⟨a, x, h1, h2⟩ := hsr
    exact ⟨a, x, by show (if si = si then H'.row si else B.row si) = _; rw [if_pos rfl]; exact h1, h2⟩
  · show H'.row i = if i = si then H'.row si else B.row i
    by_cases e : i = si
    · rw [if_pos e, e]
    · rw [if_neg e, k.row i e, h.low i hi2]
  · obtain ⟨o, ho⟩ := h.own
    refine ⟨o, fun j q hj => q.loc H H' _ _ (fun i hi2 => ⟨hi2.1, by rw [k.next]; exact hi2.2.1, hi2.2.2⟩) (fun i r hi2 hr => ?_) (ho j q hj)⟩
    have hbn : B.next ≤ i := hi2.1
    rw [k.row i (by omega)]; exact hr
theorem Ow.srcCall {cv : Value} {nb si : Nat} {B H H1 H' : AH} {L M : List Th} (h : Ow B H L) (hi : si < B.next) (k : SrcB cv nb si H H1) (o : Ow H1 H' M) : ∃ B', SrcB cv nb si B B' ∧ Ow B' H' (L ++ M) := by
  obtain ⟨B', b1, b2⟩ := Ow.src h hi k
  exact ⟨B', b1, b2.call o⟩
theorem Ow.oldX {cv : Value} {nb si : Nat} {A B H : AH} {L : List Th} (h : Ow B H L) (k : SrcB cv nb si A B) (hs : Sc A) : ∀ i r, i ≠ si → A.row i = some r → H.row i = some r := fun i r hi hr => by
  rw [h.low i (by rw [k.next]; exact hs i r hr), k.row i hi, hr]
theorem Ow.srcAt {cv : Value} {nb si : Nat} {A B H : AH} {L : List Th} (h : Ow B H L) (k : SrcB cv nb si A B) (hi : si < A.next) : Src cv nb si H := by
  obtain ⟨a, x, h1, h2⟩ := k.src
  exact ⟨a, x, by rw [h.low si (by rw [k.next]; exact hi), h1], h2⟩
theorem and24 (x : Int) : ∃ y : Nat, IntKind.u64.wrap (BitVec.ofInt IntKind.u64.bits x &&& BitVec.ofInt IntKind.u64.bits 16777215).toNat = (y : Int) ∧ y ≤ 16777215 := by
  refine ⟨(BitVec.ofInt 64 x &&& BitVec.ofInt 64 16777215).toNat, ?_, ?_⟩
  · have h : (BitVec.ofInt 64 x &&& BitVec.ofInt 64 16777215).toNat ≤ 16777215 := by
      rw [BitVec.toNat_and]
      exact Nat.le_trans Nat.and_le_right (by decide)
    have hb : IntKind.u64.bits = 64 := rfl
    rw [hb]
    generalize (BitVec.ofInt 64 x &&& BitVec.ofInt 64 16777215).toNat = y at h ⊢
    unfold IntKind.wrap
    simp only [IntKind.bits, IntKind.signed, Bool.false_and, Bool.false_eq_true, if_false]
    omega
  · rw [BitVec.toNat_and]
    exact Nat.le_trans Nat.and_le_right (by decide)
theorem tmodN {y n : Int} (hy : 0 ≤ y) (hn : ¬ n < 1) : ∃ x : Nat, y.tmod n = (x : Int) ∧ (x : Int) < n := by
  have h1 := Int.emod_nonneg y (show n ≠ 0 by omega)
  have h2 := Int.emod_lt_of_pos y (show 0 < n by omega)
  exact ⟨(y % n).toNat, by rw [Int.tmod_eq_emod_of_nonneg hy]; omega, by omega⟩
theorem l01Next_c (cv : Value) (nb si : Nat) (n : Int) (H : AH) (hn : n ≤ 9223372036854775807) (hnb : nb ≤ 4611686018427387904) (hs : Src cv nb si H) (hc : CodeX cv nb si H) :
    ACalls Tryz.prog 27 [.pointer (some ⟨si, 0, none⟩), .int .i64 n] H (fun v H' => ∃ x : Nat, v = .int .i64 x ∧ ((n < 1 ∧ x = 0) ∨ (x : Int) < n) ∧ SrcB cv nb si H H') := by
  refine acalls_of_awp [.tmp 4] Tryz.func27 (by kernel_rfl) rfl rfl (Nat.le_of_ble_eq_true rfl) (by kernel_rfl) ?_
  by_cases hn1 : n < 1
  · have e1 : decide (n < 1) = true := decide_eq_true hn1
    try simp (disch := first | omega | (simp only [L3] <;> omega)) only [Sall,evalOp,init,binA_s,binE,binI,unE,convE,okNil,builtE,gv,TD.isAgg,resV,↓reduceIte,Nat.reduceEqDiff,reduceCtorEq,Nat.reduceAdd,Nat.reduceMul,Nat.reduceLeDiff,quietOp,blindOp,Int.reduceEq,Int.reduceLT,Int.reduceLE,Nat.reduceLT,tiA,tiXA, e1]
    exact ⟨0, rfl, .inl ⟨hn1, rfl⟩, SrcB.refl hs⟩
  · have e1 : decide (n < 1) = false := decide_eq_false hn1
    obtain ⟨a, hh, hrow, ha⟩ := hs
    have hone := hc.now.one
    obtain ⟨y, hy1, hy2⟩ := and24 ((IntKind.u64.wrap (IntKind.u64.wrap (hh * 6364136223846793005) + 1442695040888963407)).fdiv (2 ^ min (Int.toNat 33) IntKind.u64.bits))
    have ey : IntKind.i64.wrap (y : Int) = (y : Int) := w64 (by omega)
    obtain ⟨h2, eh2⟩ : ∃ h2, h2 = IntKind.u64.wrap (IntKind.u64.wrap (hh * 6364136223846793005) + 1442695040888963407) := ⟨_, rfl⟩
    rw [← eh2] at hy1
    try simp (disch := first | omega | (simp only [L3] <;> omega)) only [Sall,evalOp,init,binA_s,binE,binI,unE,convE,okNil,builtE,gv,TD.isAgg,resV,↓reduceIte,Nat.reduceEqDiff,reduceCtorEq,Nat.reduceAdd,Nat.reduceMul,Nat.reduceLeDiff,quietOp,blindOp,Int.reduceEq,Int.reduceLT,Int.reduceLE,Nat.reduceLT,tiA,tiXA, e1, hrow, hone, ← eh2, hy1, ey]
    obtain ⟨H1, g1⟩ : ∃ H1, H1 = H.setCells si [cv, .int .i64 a, .int .u64 h2] := ⟨_, rfl⟩
    have r1 : H1.row si = some ⟨69, true, [cv, .int .i64 a, .int .u64 h2]⟩ := by rw [g1, AH.setCells_row, if_pos rfl, hrow]; rfl
    have k1 : ∀ i, i ≠ si → H1.row i = H.row i := fun i hi => by rw [g1, AH.setCells_row, if_neg hi]
    have n1 : H1.next = H.next := by rw [g1]; rfl
    rw [← g1]
    clear g1
    have hc1 := hc.later (H' := H1) fun i r hi hr => by rw [k1 i hi, hr]
    have hln := hc1.now.len
    refine draw_id (by kernel_rfl) (by kernel_rfl) ?_
    by_cases ha2 : a < nb
    · have e2 : decide ((a : Int) < (nb : Int)) = true := decide_eq_true (by omega)
      obtain ⟨ci, co, cu, cc, cr, b, rfl, cr1, cr2, cb1, cb2⟩ := hc1.now.get ha2
      have ebw : IntKind.i64.wrap b = b := w64 (by omega)
      try simp (disch := first | omega | (simp only [L3] <;> omega)) only [Sall,evalOp,init,binA_s,binE,binI,unE,convE,okNil,builtE,gv,TD.isAgg,resV,↓reduceIte,Nat.reduceEqDiff,reduceCtorEq,Nat.reduceAdd,Nat.reduceMul,Nat.reduceLeDiff,quietOp,blindOp,Int.reduceEq,Int.reduceLT,Int.reduceLE,Nat.reduceLT,tiA,tiXA, r1, hone, builtE, e2]
      refine draw_id (by kernel_rfl) (by kernel_rfl) ?_
      try simp (disch := first | omega | (simp only [L3] <;> omega)) only [Sall,evalOp,init,binA_s,binE,binI,unE,convE,okNil,builtE,gv,TD.isAgg,resV,↓reduceIte,Nat.reduceEqDiff,reduceCtorEq,Nat.reduceAdd,Nat.reduceMul,Nat.reduceLeDiff,quietOp,blindOp,Int.reduceEq,Int.reduceLT,Int.reduceLE,Nat.reduceLT,tiA,tiXA, r1, hone, builtE, e2, cr1, cr2, ebw]
      (repeat refine And.intro (by omega) ?_)
      try simp (disch := first | omega | (simp only [L3] <;> omega)) only [Sall,evalOp,init,binA_s,binE,binI,unE,convE,okNil,builtE,gv,TD.isAgg,resV,↓reduceIte,Nat.reduceEqDiff,reduceCtorEq,Nat.reduceAdd,Nat.reduceMul,Nat.reduceLeDiff,quietOp,blindOp,Int.reduceEq,Int.reduceLT,Int.reduceLE,Nat.reduceLT,tiA,tiXA, r1, hone, builtE, e2, cr1, cr2, ebw, w64]
      obtain ⟨x, x1, x2⟩ := tmodN (y := (y : Int) + b) (by omega) hn1
      exact ⟨x, x1, .inr x2, ⟨n1, fun i hi => by rw [AH.setCells_row, if_neg hi, k1 i hi], ⟨a + 1, h2, by rw [AH.setCells_row, if_pos rfl, r1]; rfl, by omega⟩⟩⟩
    · have e2 : decide ((a : Int) < (nb : Int)) = false := decide_eq_false (by omega)
      try simp (disch := first | omega | (simp only [L3] <;> omega)) only [Sall,evalOp,init,binA_s,binE,binI,unE,convE,okNil,builtE,gv,TD.isAgg,resV,↓reduceIte,Nat.reduceEqDiff,reduceCtorEq,Nat.reduceAdd,Nat.reduceMul,Nat.reduceLeDiff,quietOp,blindOp,Int.reduceEq,Int.reduceLT,Int.reduceLE,Nat.reduceLT,tiA,tiXA, r1, hone, builtE, hln, e2]
      obtain ⟨x, x1, x2⟩ := tmodN (y := (y : Int)) (by omega) hn1
      exact ⟨by omega, x, x1, .inr x2, ⟨n1, k1, ⟨a, h2, r1, ha⟩⟩⟩
theorem l01Pick_c (cv : Value) (nb si : Nat) (lv : Value) (k : Nat) (l : List Int) (H : AH) (hk : 0 < k) (hk2 : k ≤ 4294967296) (hnb : nb ≤ 4611686018427387904) (hs : Src cv nb si H) (hc : CodeX cv nb si H) (hl : ∀ H', SrcB cv nb si H H' → Rd 1 H' lv k l) :
    ACalls Tryz.prog 41 [.pointer (some ⟨si, 0, none⟩), lv] H (fun v H' => ∃ x : Int, v = .int .i64 x ∧ x ∈ l ∧ SrcB cv nb si H H') := by
  refine acalls_of_awp [.tmp 4] Tryz.func41 (by kernel_rfl) rfl rfl (Nat.le_of_ble_eq_true rfl) (by kernel_rfl) ?_
  have hr := hl H (SrcB.refl hs)
  have hln := hr.len
  have hlk := hr.lenK1
  try simp (disch := first | omega | (simp only [L3] <;> omega)) only [Sall,evalOp,init,binA_s,binE,binI,unE,convE,okNil,builtE,gv,TD.isAgg,resV,↓reduceIte,Nat.reduceEqDiff,reduceCtorEq,Nat.reduceAdd,Nat.reduceMul,Nat.reduceLeDiff,quietOp,blindOp,Int.reduceEq,Int.reduceLT,Int.reduceLE,Nat.reduceLT,tiA,tiXA, builtE, hln]
  refine (l01Next_c cv nb si k H (by omega) hnb hs hc).ex ?_
  rintro x H1 ⟨hx, hS⟩
  have hxk : x < k := by rcases hx with h | h <;> omega
  obtain ⟨i, o, u, c, r, rfl, r1, r2, r3, r4⟩ := (hl H1 hS).get hk
  have r5 := r3 x (by omega)
  refine Holds.mp ?_
  try simp (disch := first | omega | (simp only [L3] <;> omega)) only [Sall,evalOp,init,binA_s,binE,binI,unE,convE,okNil,builtE,gv,TD.isAgg,resV,↓reduceIte,Nat.reduceEqDiff,reduceCtorEq,Nat.reduceAdd,Nat.reduceMul,Nat.reduceLeDiff,quietOp,blindOp,Int.reduceEq,Int.reduceLT,Int.reduceLE,Nat.reduceLT,tiA,tiXA, r1, r5]
  refine ⟨⟨by omega, by omega⟩, ?_, hS⟩
  rw [List.getD_eq_getElem?_getD, List.getElem?_eq_getElem (by omega)]
  exact List.getElem_mem _
theorem l01Near_c (cv : Value) (nb si : Nat) (m : Int) (H : AH) (hm : -1 ≤ m ∧ m ≤ 4294967296) (hnb : nb ≤ 4611686018427387904) (hs : Src cv nb si H) (hc : CodeX cv nb si H) (hsc : Sc H) :
    ACalls Tryz.prog 40 [.pointer (some ⟨si, 0, none⟩), .int .i64 m] H (fun v H' => ∃ x : Int, v = .int .i64 x ∧ -4611686018427387904 ≤ x ∧ x ≤ 1099511627776 ∧ ∃ H1, SrcB cv nb si H H1 ∧ Ow H1 H' []) := by
  refine acalls_of_awp [.tmp 4] Tryz.func40 (by kernel_rfl) rfl rfl (Nat.le_of_ble_eq_true rfl) (by kernel_rfl) ?_
  obtain ⟨_, _, hrow, _⟩ := id hs
  have hsi := hsc _ _ hrow
  try simp (disch := first | omega | (simp only [L3] <;> omega)) only [Sall,evalOp,init,binA_s,binE,binI,unE,convE,okNil,builtE,gv,TD.isAgg,resV,↓reduceIte,Nat.reduceEqDiff,reduceCtorEq,Nat.reduceAdd,Nat.reduceMul,Nat.reduceLeDiff,quietOp,blindOp,Int.reduceEq,Int.reduceLT,Int.reduceLE,Nat.reduceLT,tiA,tiXA, true_and]
  refine (l01Next_c cv nb si 14 H (by omega) hnb hs hc).ex ?_
  rintro x H1 ⟨hx, hS⟩
  have hc1 := hc.later (H' := H1) fun i r hi hr => by rw [hS.row i hi, hr]
  have hsc1 := hS.sc hsc hsi
  refine Holds.mp ?_
  by_cases h0 : (x : Int) = 0
  · have e0 : ((x : Int) == 0) = true := by rw [h0]; rfl
    have zz : zeros 4 [.int .i64 0] = [.int .i64 0, .int .i64 0, .int .i64 0, .int .i64 0] := rfl
    try simp (disch := first | omega | (simp only [L3] <;> omega)) only [Sall,evalOp,init,binA_s,binE,binI,unE,convE,okNil,builtE,gv,TD.isAgg,resV,↓reduceIte,Nat.reduceEqDiff,reduceCtorEq,Nat.reduceAdd,Nat.reduceMul,Nat.reduceLeDiff,quietOp,blindOp,Int.reduceEq,Int.reduceLT,Int.reduceLE,Nat.reduceLT,tiA,tiXA, e0, zz, w64]
    obtain ⟨H2, e2⟩ : ∃ H2, H2 = H1.push ⟨2, true, ints [-1, m + 1, 1099511627776, -4611686018427387904]⟩ := ⟨_, rfl⟩
    have e2' : H1.push ⟨2, true, [.int .i64 (-1), .int .i64 (m + 1), .int .i64 1099511627776, .int .i64 (-4611686018427387904)]⟩ = H2 := e2.symm
    rw [e2']
    have o2 : Ow H1 H2 [.sl 1 2 (.slice (some ⟨H1.next, 0, some 1⟩) 4 4) 4 (ints [-1, m + 1, 1099511627776, -4611686018427387904])] := by rw [e2]; exact (Ow.refl hsc1).pushSl rfl
    clear e2 e2'
    have hs2 : Src cv nb si H2 := Ow.srcAt o2 (SrcB.refl hS.src) (by rw [hS.next]; exact hsi)
    have hc2 := hc1.later (H' := H2) fun i r hi hr => Ow.oldX o2 (SrcB.refl hS.src) hsc1 i r hi hr
    have hfr := (o2.getV 0 rfl).2.2
    refine (l01Pick_c cv nb si _ 4 [-1, m + 1, 1099511627776, -4611686018427387904] H2 (by omega) (by omega) hnb hs2 hc2 fun H' hS' => Fr.rd (ty := 2) (lo := 0) (hi := H1.next + 1) ⟨rfl, .inr ⟨H1.next, Nat.zero_le _, Nat.lt_succ_self _, rfl, by rw [hS'.row _ (by have := hS.next; omega)]; exact hfr⟩⟩).ex ?_
    rintro y H3 ⟨hy, hS3⟩
    obtain ⟨B', b1, b2⟩ := Ow.src o2 (by rw [hS.next]; exact hsi) hS3
    refine Holds.mp ?_
    try simp (disch := first | omega | (simp only [L3] <;> omega)) only [Sall,evalOp,init,binA_s,binE,binI,unE,convE,okNil,builtE,gv,TD.isAgg,resV,↓reduceIte,Nat.reduceEqDiff,reduceCtorEq,Nat.reduceAdd,Nat.reduceMul,Nat.reduceLeDiff,quietOp,blindOp,Int.reduceEq,Int.reduceLT,Int.reduceLE,Nat.reduceLT,tiA,tiXA, true_and]
    simp only [List.mem_cons, List.not_mem_nil, or_false] at hy
    refine ⟨by omega, by omega, B', hS.trans b1, Ow.left (L := []) b2⟩
  · have e0 : ((x : Int) == 0) = false := beq_eq_false_iff_ne.2 h0
    try simp (disch := first | omega | (simp only [L3] <;> omega)) only [Sall,evalOp,init,binA_s,binE,binI,unE,convE,okNil,builtE,gv,TD.isAgg,resV,↓reduceIte,Nat.reduceEqDiff,reduceCtorEq,Nat.reduceAdd,Nat.reduceMul,Nat.reduceLeDiff,quietOp,blindOp,Int.reduceEq,Int.reduceLT,Int.reduceLE,Nat.reduceLT,tiA,tiXA, e0, w64]
    refine (l01Next_c cv nb si (m + 1) H1 (by omega) hnb hS.src hc1).ex ?_
    rintro y H2 ⟨hy, hS2⟩
    refine Holds.mp ?_
    try simp (disch := first | omega | (simp only [L3] <;> omega)) only [Sall,evalOp,init,binA_s,binE,binI,unE,convE,okNil,builtE,gv,TD.isAgg,resV,↓reduceIte,Nat.reduceEqDiff,reduceCtorEq,Nat.reduceAdd,Nat.reduceMul,Nat.reduceLeDiff,quietOp,blindOp,Int.reduceEq,Int.reduceLT,Int.reduceLE,Nat.reduceLT,tiA,tiXA, true_and]
    exact ⟨by omega, by omega, H2, hS.trans hS2, Ow.refl (hS2.sc hsc1 (by rw [hS.next]; exact hsi))⟩
end Go.Proofs.YtollphjompimjaaGreat.A
end

section
set_option maxRecDepth 100000
set_option maxHeartbeats 2000000
namespace Go.Proofs.YtollphjompimjaaGreat.A
open Go Go.Abs Go.RowKit
theorem evo_pnil (t : T) : evo t (.const (.pointer none)) = some (.pointer none) := (rfl)
theorem l01From_c (cv : Value) (nb : Nat) (H : AH) (hnb : nb ≤ 4611686018427387904) (hc : CodeOk H cv nb) :
    ACalls Tryz.prog 24 [cv] H (fun v H' => v = .pointer (some ⟨H.next, 0, none⟩) ∧ Up H.next H H' ∧ Sc H' ∧ H.next < H'.next ∧ Src cv nb H.next H') := by
  refine ACalls.wf (by kernel_rfl) fun hs => acalls_of_awp [.tmp 2] Tryz.func24 (by kernel_rfl) rfl rfl (Nat.le_of_ble_eq_true rfl) (by kernel_rfl) ?_
  have hone := hc.one
  have hw1 := cells_of_one hone
  have hw2 := noTuple_of_one hone
  have hln := hc.len
  have hz : [Value.slice none 0 0, .int .i64 0, .int .u64 0] = [Value.slice none 0 0, .int .i64 0, .int .u64 0] := rfl
  try simp (disch := first | omega | (simp only [L3] <;> omega)) only [Sall,evalOp,init,binA_s,binE,binI,unE,convE,okNil,builtE,gv,TD.isAgg,resV,↓reduceIte,Nat.reduceEqDiff,reduceCtorEq,Nat.reduceAdd,Nat.reduceMul,Nat.reduceLeDiff,quietOp,blindOp,Int.reduceEq,Int.reduceLT,Int.reduceLE,Nat.reduceLT,tiA,tiXA, hone, hw1, hw2, hln, builtE, evo_pnil]
  obtain ⟨h0, eh0⟩ : ∃ h0, h0 = IntKind.u64.wrap (13791 + IntKind.u64.wrap (nb : Int)) := ⟨_, rfl⟩
  rw [← eh0]
  have o1 := (Ow.refl hs).push ⟨69, true, [cv, .int .i64 0, .int .u64 h0]⟩
  refine awp_loop (fun z t H' => ∃ (j : Nat) (h : Int), z = nb - j ∧ j ≤ nb ∧ t 4 = .int .i64 j ∧ t 3 = .pointer (some ⟨H.next, 0, none⟩) ∧ t 0 = cv ∧ Ow H H' [.row H.next ⟨69, true, [cv, .int .i64 0, .int .u64 h]⟩]) nb ?_ ?_
  · refine ⟨0, h0, by omega, by omega, ?_⟩
    try simp (disch := first | omega | (simp only [L3] <;> omega)) only [Sall,evalOp,init,binA_s,binE,binI,unE,convE,okNil,builtE,gv,TD.isAgg,resV,↓reduceIte,Nat.reduceEqDiff,reduceCtorEq,Nat.reduceAdd,Nat.reduceMul,Nat.reduceLeDiff,quietOp,blindOp,Int.reduceEq,Int.reduceLT,Int.reduceLE,Nat.reduceLT,tiA,tiXA, Int.natCast_zero]
    exact o1
  · rintro z t H' ⟨j, h, hz, hj, h4, h3, h0', o2⟩
    have g0 := (o2.rowAt 0 rfl).1
    have n0 := (o2.rowAt 0 rfl).2
    by_cases c1 : j < nb
    · have e1 : decide ((j : Int) < (nb : Int)) = true := decide_eq_true (by omega)
      by_cases c2 : j < 4096
      · have e2 : decide ((j : Int) < 4096) = true := decide_eq_true (by omega)
        try simp (disch := first | omega | (simp only [L3] <;> omega)) only [Sall,evalOp,init,binA_s,binE,binI,unE,convE,okNil,builtE,gv,TD.isAgg,resV,↓reduceIte,Nat.reduceEqDiff,reduceCtorEq,Nat.reduceAdd,Nat.reduceMul,Nat.reduceLeDiff,quietOp,blindOp,Int.reduceEq,Int.reduceLT,Int.reduceLE,Nat.reduceLT,tiA,tiXA, h4, h0', builtE, hln, e1, e2]
        have hc' : CodeOk H' cv nb := by
          rcases hc with ⟨q1, q2⟩ | ⟨i, o, u, c, r, q1, q2, q3⟩
          · exact .inl ⟨q1, q2⟩
          · exact .inr ⟨i, o, u, c, r, q1, o2.old hs _ _ q2, q3⟩
        obtain ⟨ci, co, cu, cc, cr, b, rfl, cr1, cr2, cb1, cb2⟩ := hc'.get c1
        try simp (disch := first | omega | (simp only [L3] <;> omega)) only [Sall,evalOp,init,binA_s,binE,binI,unE,convE,okNil,builtE,gv,TD.isAgg,resV,↓reduceIte,Nat.reduceEqDiff,reduceCtorEq,Nat.reduceAdd,Nat.reduceMul,Nat.reduceLeDiff,quietOp,blindOp,Int.reduceEq,Int.reduceLT,Int.reduceLE,Nat.reduceLT,tiA,tiXA, h4, h3]
        refine draw_id (by kernel_rfl) (by kernel_rfl) ?_
        try simp (disch := first | omega | (simp only [L3] <;> omega)) only [Sall,evalOp,init,binA_s,binE,binI,unE,convE,okNil,builtE,gv,TD.isAgg,resV,↓reduceIte,Nat.reduceEqDiff,reduceCtorEq,Nat.reduceAdd,Nat.reduceMul,Nat.reduceLeDiff,quietOp,blindOp,Int.reduceEq,Int.reduceLT,Int.reduceLE,Nat.reduceLT,tiA,tiXA, h4, h3, h0', g0, cr1, cr2, hone]
        (repeat refine And.intro (by omega) ?_)
        exact ⟨.inr (.inl (by kernel_rfl)), nb - (j + 1), by omega, j + 1, _, rfl, by omega, w64 (by omega), o2.putRow 0 rfl⟩
      · have e2 : decide ((j : Int) < 4096) = false := decide_eq_false (by omega)
        try simp (disch := first | omega | (simp only [L3] <;> omega)) only [Sall,evalOp,init,binA_s,binE,binI,unE,convE,okNil,builtE,gv,TD.isAgg,resV,↓reduceIte,Nat.reduceEqDiff,reduceCtorEq,Nat.reduceAdd,Nat.reduceMul,Nat.reduceLeDiff,quietOp,blindOp,Int.reduceEq,Int.reduceLT,Int.reduceLE,Nat.reduceLT,tiA,tiXA, h4, h0', h3, builtE, hln, e1, e2]
        exact ⟨o2.up, o2.sc, by omega, ⟨0, h, g0, Nat.zero_le _⟩⟩
    · have e1 : decide ((j : Int) < (nb : Int)) = false := decide_eq_false (by omega)
      try simp (disch := first | omega | (simp only [L3] <;> omega)) only [Sall,evalOp,init,binA_s,binE,binI,unE,convE,okNil,builtE,gv,TD.isAgg,resV,↓reduceIte,Nat.reduceEqDiff,reduceCtorEq,Nat.reduceAdd,Nat.reduceMul,Nat.reduceLeDiff,quietOp,blindOp,Int.reduceEq,Int.reduceLT,Int.reduceLE,Nat.reduceLT,tiA,tiXA, h4, h0', h3, builtE, hln, e1]
      exact ⟨o2.up, o2.sc, by omega, ⟨0, h, g0, Nat.zero_le _⟩⟩
structure PermL (n : Nat) (l : List Int) : Prop where
  len : l.length = n
  nod : l.Nodup
  rng : ∀ x ∈ l, 0 ≤ x ∧ x < (n : Int)
  all : ∀ x : Nat, x < n → (x : Int) ∈ l
theorem PermL.zero : PermL 0 [] := ⟨rfl, by simp, by simp, fun x hx => by omega⟩
theorem PermL.ins {n : Nat} {l : List Int} (h : PermL n l) (a : Nat) (ha : a ≤ n) : PermL (n + 1) (l.take a ++ [(n : Int)] ++ l.drop a) := by
  have hta := List.take_append_drop a l
  have hp : (l.take a ++ [(n : Int)] ++ l.drop a).Perm ((n : Int) :: l) := by
    rw [List.append_assoc]
    refine (List.perm_middle (l₁ := l.take a) (l₂ := l.drop a) (a := (n : Int))).trans ?_
    rw [hta]
  refine ⟨?_, ?_, fun x hx => ?_, fun x hx => ?_⟩
  · rw [hp.length_eq, List.length_cons, h.len]
  · rw [hp.nodup_iff, List.nodup_cons]
    exact ⟨fun hm => by have := h.rng _ hm; omega, h.nod⟩
  · have := hp.mem_iff.1 hx
    rcases List.mem_cons.1 this with e | e
    · omega
    · have := h.rng _ e; omega
  · rw [hp.mem_iff]
    by_cases e : x = n
    · rw [e]; simp
    · exact List.mem_cons_of_mem _ (h.all x (by omega))
theorem frcut {P : Program} {E : TI} {K : Value → AH → Prop} {H : AH} {i n a b : Nat} {lo hi : Option Int} (hE : E.size = 1) (ha : lo.getD 0 = (a : Int)) (hb : hi.getD (n : Int) = (b : Int)) (hab : a ≤ b) (hbn : b ≤ n) (hK : K (.slice (some ⟨i, a, some 1⟩) (b - a) (b - a)) H) :
    runOut P H (sliceE E (.slice (some ⟨i, 0, some 1⟩) n n) lo hi none H) K := by
  unfold sliceE
  rw [if_neg (by simp)]
  simp only [asSl_some, runOut_need, runOut_val, ha, hb, Int.toNat_natCast, hE, Nat.mul_one, Nat.zero_add]
  exact ⟨⟨by omega, by omega, by omega, trivial⟩, hK⟩
theorem appE_zero {P : Program} {E : TI} {K : Value → AH → Prop} {H : AH} {ty : TypeId} {i o z n c : Nat} {xs : List Value} (hK : K (.slice (some ⟨i, o, some z⟩) n c) H) : runOut P H (appE E ty (.slice (some ⟨i, o, some z⟩) n c) xs 0 H) K := by
  unfold appE
  rw [if_pos rfl]
  simp only [asSl_some, runOut_need, runOut_val]
  exact ⟨(fun h => by cases h), hK⟩
theorem cp_pre {H : AH} {i a n : Nat} {ty : TypeId} {l : List Int} (hr : H.row i = some ⟨ty, true, ints l⟩) (ha : a ≤ l.length) : Cp H (.slice (some ⟨i, 0, some 1⟩) a n) (l.take a) := by
  have hl : (l.take a).length = a := by rw [List.length_take]; omega
  refine ⟨⟨by omega, .inr ⟨i, 0, some 1, n, _, by rw [hl], hr, by rw [hl, ints_length]; omega, ?_⟩⟩, fun h => .inr ⟨i, n, _, by rw [show a = 0 by omega], hr, rfl⟩⟩
  rw [hl, Nat.mul_one]
  simp [seg, ints, List.map_take]
theorem l01DrawOrder_c (cv : Value) (nb si : Nat) (n : Int) (H : AH) (hn : n ≤ 4096) (hnb : nb ≤ 4611686018427387904) (hs : Src cv nb si H) (hc : CodeX cv nb si H) :
    ACalls Tryz.prog 73 [.pointer (some ⟨si, 0, none⟩), .int .i64 n] H (fun v H' => ∃ (l : List Int) (H1 : AH), SrcB cv nb si H H1 ∧ Ow H1 H' [.sl 1 2 v n.toNat (ints l)] ∧ PermL n.toNat l) := by
  refine ACalls.wf (by kernel_rfl) fun hsc => acalls_of_awp [.tmp 4] Tryz.func73 (by kernel_rfl) rfl rfl (Nat.le_of_ble_eq_true rfl) (by kernel_rfl) ?_
  obtain ⟨_, _, hrow, _⟩ := id hs
  have hsi := hsc _ _ hrow
  have o1 := (Ow.refl hsc).pushSl (k := 1) (n := 0) (ty := 2) (vs := ints []) rfl
  try simp (disch := first | omega | (simp only [L3] <;> omega)) only [Sall,evalOp,init,binA_s,binE,binI,unE,convE,okNil,builtE,gv,TD.isAgg,resV,↓reduceIte,Nat.reduceEqDiff,reduceCtorEq,Nat.reduceAdd,Nat.reduceMul,Nat.reduceLeDiff,quietOp,blindOp,Int.reduceEq,Int.reduceLT,Int.reduceLE,Nat.reduceLT,tiA,tiXA, zeros_zero]
  refine awp_loop (fun z t H' => ∃ (i ui : Nat) (l : List Int) (B : AH), z = n.toNat - i ∧ i ≤ n.toNat ∧ t 6 = .int .i64 i ∧ t 5 = .slice (some ⟨ui, 0, some 1⟩) i i ∧ t 0 = .pointer (some ⟨si, 0, none⟩) ∧ t 1 = .int .i64 n ∧ SrcB cv nb si H B ∧ Ow B H' [.sl 1 2 (.slice (some ⟨ui, 0, some 1⟩) i i) i (ints l)] ∧ PermL i l) n.toNat ?_ ?_
  · refine ⟨0, H.next, [], H, by omega, by omega, ?_⟩
    try simp (disch := first | omega | (simp only [L3] <;> omega)) only [Sall,evalOp,init,binA_s,binE,binI,unE,convE,okNil,builtE,gv,TD.isAgg,resV,↓reduceIte,Nat.reduceEqDiff,reduceCtorEq,Nat.reduceAdd,Nat.reduceMul,Nat.reduceLeDiff,quietOp,blindOp,Int.reduceEq,Int.reduceLT,Int.reduceLE,Nat.reduceLT,tiA,tiXA, Int.natCast_zero]
    exact ⟨SrcB.refl hs, o1, PermL.zero⟩
  · rintro z t H' ⟨i, ui, l, B, hz, hi, h6, h5, h0, h1, hB, o2, hp⟩
    try simp (disch := first | omega | (simp only [L3] <;> omega)) only [Sall,evalOp,init,binA_s,binE,binI,unE,convE,okNil,builtE,gv,TD.isAgg,resV,↓reduceIte,Nat.reduceEqDiff,reduceCtorEq,Nat.reduceAdd,Nat.reduceMul,Nat.reduceLeDiff,quietOp,blindOp,Int.reduceEq,Int.reduceLT,Int.reduceLE,Nat.reduceLT,tiA,tiXA, h6, h1]
    have hsiB : si < B.next := by rw [hB.next]; exact hsi
    refine condC_dec (fun hh => ?_) (fun hh => ?_)
    · try simp (disch := first | omega | (simp only [L3] <;> omega)) only [Sall,evalOp,init,binA_s,binE,binI,unE,convE,okNil,builtE,gv,TD.isAgg,resV,↓reduceIte,Nat.reduceEqDiff,reduceCtorEq,Nat.reduceAdd,Nat.reduceMul,Nat.reduceLeDiff,quietOp,blindOp,Int.reduceEq,Int.reduceLT,Int.reduceLE,Nat.reduceLT,tiA,tiXA, h6, h0, w64]
      refine (l01Next_c cv nb si ((i : Int) + 1) H' (by omega) hnb (Ow.srcAt o2 hB hsi) (hc.later fun j r hj hr => Ow.oldX o2 hB hsc j r hj hr)).ex ?_
      rintro a H2 ⟨ha, hS⟩
      have hai : a ≤ i := by omega
      obtain ⟨B2, b1, o3⟩ := Ow.src o2 hsiB hS
      have hB2 := hB.trans b1
      have hl := hp.len
      have rU3 := (o3.getV 0 rfl).2.2
      refine Holds.mp ?_
      try simp (disch := first | omega | (simp only [L3] <;> omega)) only [Sall,evalOp,init,binA_s,binE,binI,unE,convE,okNil,builtE,gv,TD.isAgg,resV,↓reduceIte,Nat.reduceEqDiff,reduceCtorEq,Nat.reduceAdd,Nat.reduceMul,Nat.reduceLeDiff,quietOp,blindOp,Int.reduceEq,Int.reduceLT,Int.reduceLE,Nat.reduceLT,tiA,tiXA, h6, h5]
      refine draw_tree (OT.run [0, 1, 2, 4, 7, 8, 9] (.two 3 5 (OT.run [5, 6, 10, 11] .nil) (OT.run [3, 6, 10, 11] .nil))) (by kernel_rfl) (by kernel_rfl) (Nat.le_of_ble_eq_true rfl) ?_
      try simp (disch := first | omega | (simp only [L3] <;> omega)) only [Sall,evalOp,init,binA_s,binE,binI,unE,convE,okNil,builtE,gv,TD.isAgg,resV,↓reduceIte,Nat.reduceEqDiff,reduceCtorEq,Nat.reduceAdd,Nat.reduceMul,Nat.reduceLeDiff,quietOp,blindOp,Int.reduceEq,Int.reduceLT,Int.reduceLE,Nat.reduceLT,tiA,tiXA, awpT_nil, awpT_one, awpT_run_nil, awpT_run_cons, h6, h5]
      refine frcut (a := 0) (b := a) rfl rfl rfl (Nat.zero_le _) hai ?_
      try simp (disch := first | omega | (simp only [L3] <;> omega)) only [Sall,evalOp,init,binA_s,binE,binI,unE,convE,okNil,builtE,gv,TD.isAgg,resV,↓reduceIte,Nat.reduceEqDiff,reduceCtorEq,Nat.reduceAdd,Nat.reduceMul,Nat.reduceLeDiff,quietOp,blindOp,Int.reduceEq,Int.reduceLT,Int.reduceLE,Nat.reduceLT,tiA,tiXA, awpT_nil, awpT_one, awpT_run_nil, awpT_run_cons, h6, h5]
      refine frcut (a := a) (b := i) rfl rfl rfl hai (Nat.le_refl _) ?_
      have hsg : seg (ints l) a (i - a) = ints (l.drop a) := by
        rw [ints_seg, List.take_of_length_le (by rw [List.length_drop]; omega)]
      have hm6 : PermL (i + 1) (l.take a ++ [(i : Int)] ++ l.drop a) := hp.ins a hai
      have fin7 : ∀ (A : AH) (H7 : AH) (x y : Th), Ow A H7 [x, y] → Ow A H7 [y] := fun A H7 x y o => o.sub (fun _ => 1) (fun j hj => by
          obtain rfl : j = 0 := by simp at hj; omega
          rfl) (fun x y hx hy _ => by simp at hx hy; omega)
      have hla : (l.take a).length = a := by rw [List.length_take]; omega
      have zz : zeros 1 [.int .i64 0] = [.int .i64 0] := rfl
      try simp (disch := first | omega | (simp only [L3] <;> omega)) only [Sall,evalOp,init,binA_s,binE,binI,unE,convE,okNil,builtE,gv,TD.isAgg,resV,↓reduceIte,Nat.reduceEqDiff,reduceCtorEq,Nat.reduceAdd,Nat.reduceMul,Nat.reduceLeDiff,quietOp,blindOp,Int.reduceEq,Int.reduceLT,Int.reduceLE,Nat.reduceLT,tiA,tiXA, awpT_nil, awpT_one, awpT_run_nil, awpT_run_cons, h6, h5, Nat.sub_zero]
      refine awpT_two ?_ ?_
      · try simp (disch := first | omega | (simp only [L3] <;> omega)) only [Sall,evalOp,init,binA_s,binE,binI,unE,convE,okNil,builtE,gv,TD.isAgg,resV,↓reduceIte,Nat.reduceEqDiff,reduceCtorEq,Nat.reduceAdd,Nat.reduceMul,Nat.reduceLeDiff,quietOp,blindOp,Int.reduceEq,Int.reduceLT,Int.reduceLE,Nat.reduceLT,tiA,tiXA, awpT_nil, awpT_one, awpT_run_nil, awpT_run_cons, h6, h5]
        refine (l01Own_c _ (l.take a) H2 (cp_pre rU3 (by omega)) (by omega)).sc.mono ?_
        rintro w H4 ⟨⟨up4, hf4⟩, sc4⟩
        have o4 := o3.call (Ow.of_fr up4 sc4 hf4)
        rw [hla] at o4
        have rU4 := (o4.getV 0 rfl).2
        refine ⟨.inr (.inr (up4.le o3.sc)), ?_⟩
        have ne4 : ¬ ui = H4.next := by omega
        try simp (disch := first | omega | (simp only [L3] <;> omega)) only [Sall,evalOp,init,binA_s,binE,binI,unE,convE,okNil,builtE,gv,TD.isAgg,resV,↓reduceIte,Nat.reduceEqDiff,reduceCtorEq,Nat.reduceAdd,Nat.reduceMul,Nat.reduceLeDiff,quietOp,blindOp,Int.reduceEq,Int.reduceLT,Int.reduceLE,Nat.reduceLT,tiA,tiXA, awpT_nil, awpT_one, awpT_run_nil, awpT_run_cons, h6, h5, zz, slCells]
        (repeat refine And.intro (by omega) ?_)
        refine ⟨.inr (.inr (o4.sc.le _)), ?_⟩
        try simp (disch := first | omega | (simp only [L3] <;> omega)) only [Sall,evalOp,init,binA_s,binE,binI,unE,convE,okNil,builtE,gv,TD.isAgg,resV,↓reduceIte,Nat.reduceEqDiff,reduceCtorEq,Nat.reduceAdd,Nat.reduceMul,Nat.reduceLeDiff,quietOp,blindOp,Int.reduceEq,Int.reduceLT,Int.reduceLE,Nat.reduceLT,tiA,tiXA, awpT_nil, awpT_one, awpT_run_nil, awpT_run_cons, h6, h5, zz, slCells]
        (repeat refine And.intro (by omega) ?_)
        refine (o4.tmp ⟨2, true, [.int .i64 i]⟩).app 1 (ms := ints [(i : Int)]) rfl rfl (by omega) rfl (by omega) (by decide) (by omega) ?_
        intro v6 H6 n6 o6
        rw [ints_append] at o6
        refine ⟨.inr (.inl (by kernel_rfl)), ?_⟩
        try simp (disch := first | omega | (simp only [L3] <;> omega)) only [Sall,evalOp,init,binA_s,binE,binI,unE,convE,okNil,builtE,gv,TD.isAgg,resV,↓reduceIte,Nat.reduceEqDiff,reduceCtorEq,Nat.reduceAdd,Nat.reduceMul,Nat.reduceLeDiff,quietOp,blindOp,Int.reduceEq,Int.reduceLT,Int.reduceLE,Nat.reduceLT,tiA,tiXA, awpT_nil, awpT_one, awpT_run_nil, awpT_run_cons, h6, h5]
        have rU := (o6.getV 0 rfl).2.2
        try simp (disch := first | omega | (simp only [L3] <;> omega)) only [Sall,evalOp,init,binA_s,binE,binI,unE,convE,okNil,builtE,gv,TD.isAgg,resV,↓reduceIte,Nat.reduceEqDiff,reduceCtorEq,Nat.reduceAdd,Nat.reduceMul,Nat.reduceLeDiff,quietOp,blindOp,Int.reduceEq,Int.reduceLT,Int.reduceLE,Nat.reduceLT,tiA,tiXA, awpT_nil, awpT_one, awpT_run_nil, awpT_run_cons, h6, h5, slCells, rU, hsg, hl, ints_length]
        (repeat refine And.intro (by omega) ?_)
        by_cases hd : a < i
        · refine o6.app 1 (vs := ints (l.take a ++ [(i : Int)])) (n := a + 1) (c := i - a) (ms := ints (l.drop a)) rfl rfl (by omega) (by rw [ints_length, List.length_drop]; omega) (by omega) (by decide) (by omega) ?_
          intro v7 H7 n7 o7
          rw [show a + 1 + (i - a) = i + 1 by omega, ints_append] at o7
          have o8 : Ow B2 H7 [.sl 1 2 (.slice (some ⟨ui, 0, some 1⟩) i i) i (ints l), .sl 1 2 v7 (i + 1) (ints (l.take a ++ [(i : Int)] ++ l.drop a))] := o7
          obtain ⟨u7, q1, q2, rfl, q4⟩ := o8.get 1 rfl (by omega)
          try simp (disch := first | omega | (simp only [L3] <;> omega)) only [Sall,evalOp,init,binA_s,binE,binI,unE,convE,okNil,builtE,gv,TD.isAgg,resV,↓reduceIte,Nat.reduceEqDiff,reduceCtorEq,Nat.reduceAdd,Nat.reduceMul,Nat.reduceLeDiff,quietOp,blindOp,Int.reduceEq,Int.reduceLT,Int.reduceLE,Nat.reduceLT,tiA,tiXA, awpT_nil, awpT_one, awpT_run_nil, awpT_run_cons, h6, h5, h0, h1, w64]
          exact ⟨.inr (.inl (by kernel_rfl)), n.toNat - (i + 1), by omega, i + 1, u7, _, B2, rfl, by omega, by omega, rfl, hB2, fin7 _ _ _ _ o8, hm6⟩
        · have hai2 : a = i := by omega
          subst hai2
          have o8 : Ow B2 H6 [.sl 1 2 (.slice (some ⟨ui, 0, some 1⟩) a a) a (ints l), .sl 1 2 v6 (a + 1) (ints (l.take a ++ [(a : Int)]))] := o6
          obtain ⟨u7, q1, q2, rfl, q4⟩ := o8.get 1 rfl (by omega)
          rw [Nat.sub_self]
          refine appE_zero ?_
          have hd0 : l.drop a = [] := List.drop_eq_nil_of_le (by omega)
          rw [hd0, List.append_nil] at hm6
          try simp (disch := first | omega | (simp only [L3] <;> omega)) only [Sall,evalOp,init,binA_s,binE,binI,unE,convE,okNil,builtE,gv,TD.isAgg,resV,↓reduceIte,Nat.reduceEqDiff,reduceCtorEq,Nat.reduceAdd,Nat.reduceMul,Nat.reduceLeDiff,quietOp,blindOp,Int.reduceEq,Int.reduceLT,Int.reduceLE,Nat.reduceLT,tiA,tiXA, awpT_nil, awpT_one, awpT_run_nil, awpT_run_cons, h6, h5, h0, h1, w64]
          exact ⟨.inr (.inl (by kernel_rfl)), n.toNat - (a + 1), by omega, a + 1, u7, _, B2, rfl, by omega, by omega, rfl, hB2, fin7 _ _ _ _ o8, hm6⟩
      · try simp (disch := first | omega | (simp only [L3] <;> omega)) only [Sall,evalOp,init,binA_s,binE,binI,unE,convE,okNil,builtE,gv,TD.isAgg,resV,↓reduceIte,Nat.reduceEqDiff,reduceCtorEq,Nat.reduceAdd,Nat.reduceMul,Nat.reduceLeDiff,quietOp,blindOp,Int.reduceEq,Int.reduceLT,Int.reduceLE,Nat.reduceLT,tiA,tiXA, awpT_nil, awpT_one, awpT_run_nil, awpT_run_cons, h6, h5, zz, slCells]
        (repeat refine And.intro (by omega) ?_)
        refine ⟨.inr (.inr (o3.sc.le _)), ?_⟩
        have o3t := o3.tmp ⟨2, true, [.int .i64 i]⟩
        have rT : (H2.push ⟨2, true, [.int .i64 i]⟩).row H2.next = some ⟨2, true, [.int .i64 i]⟩ := by rw [AH.push_row, if_pos rfl]
        have nT : (H2.push ⟨2, true, [.int .i64 i]⟩).next = H2.next + 1 := rfl
        revert o3t rT nT
        generalize H2.push ⟨2, true, [.int .i64 i]⟩ = H3
        intro o3t rT nT
        try simp (disch := first | omega | (simp only [L3] <;> omega)) only [Sall,evalOp,init,binA_s,binE,binI,unE,convE,okNil,builtE,gv,TD.isAgg,resV,↓reduceIte,Nat.reduceEqDiff,reduceCtorEq,Nat.reduceAdd,Nat.reduceMul,Nat.reduceLeDiff,quietOp,blindOp,Int.reduceEq,Int.reduceLT,Int.reduceLE,Nat.reduceLT,tiA,tiXA, awpT_nil, awpT_one, awpT_run_nil, awpT_run_cons, h6, h5]
        have rU3' := (o3t.getV 0 rfl).2.2
        refine (l01Own_c _ (l.take a) H3 (cp_pre rU3' (by omega)) (by omega)).sc.mono ?_
        rintro w H4 ⟨⟨up4, hf4⟩, sc4⟩
        have o4 := o3t.call (Ow.of_fr up4 sc4 hf4)
        rw [hla] at o4
        have rT4 : H4.row H2.next = some ⟨2, true, [.int .i64 i]⟩ := by rw [up4.row _ (by omega)]; exact rT
        refine ⟨.inr (.inr (up4.le o3t.sc)), ?_⟩
        try simp (disch := first | omega | (simp only [L3] <;> omega)) only [Sall,evalOp,init,binA_s,binE,binI,unE,convE,okNil,builtE,gv,TD.isAgg,resV,↓reduceIte,Nat.reduceEqDiff,reduceCtorEq,Nat.reduceAdd,Nat.reduceMul,Nat.reduceLeDiff,quietOp,blindOp,Int.reduceEq,Int.reduceLT,Int.reduceLE,Nat.reduceLT,tiA,tiXA, awpT_nil, awpT_one, awpT_run_nil, awpT_run_cons, h6, h5, zz, slCells, rT4]
        (repeat refine And.intro (by omega) ?_)
        refine o4.app 1 (ms := ints [(i : Int)]) rfl rfl (by omega) rfl (by omega) (by decide) (by omega) ?_
        intro v6 H6 n6 o6
        rw [ints_append] at o6
        refine ⟨.inr (.inl (by kernel_rfl)), ?_⟩
        try simp (disch := first | omega | (simp only [L3] <;> omega)) only [Sall,evalOp,init,binA_s,binE,binI,unE,convE,okNil,builtE,gv,TD.isAgg,resV,↓reduceIte,Nat.reduceEqDiff,reduceCtorEq,Nat.reduceAdd,Nat.reduceMul,Nat.reduceLeDiff,quietOp,blindOp,Int.reduceEq,Int.reduceLT,Int.reduceLE,Nat.reduceLT,tiA,tiXA, awpT_nil, awpT_one, awpT_run_nil, awpT_run_cons, h6, h5]
        have rU := (o6.getV 0 rfl).2.2
        try simp (disch := first | omega | (simp only [L3] <;> omega)) only [Sall,evalOp,init,binA_s,binE,binI,unE,convE,okNil,builtE,gv,TD.isAgg,resV,↓reduceIte,Nat.reduceEqDiff,reduceCtorEq,Nat.reduceAdd,Nat.reduceMul,Nat.reduceLeDiff,quietOp,blindOp,Int.reduceEq,Int.reduceLT,Int.reduceLE,Nat.reduceLT,tiA,tiXA, awpT_nil, awpT_one, awpT_run_nil, awpT_run_cons, h6, h5, slCells, rU, hsg, hl, ints_length]
        (repeat refine And.intro (by omega) ?_)
        by_cases hd : a < i
        · refine o6.app 1 (vs := ints (l.take a ++ [(i : Int)])) (n := a + 1) (c := i - a) (ms := ints (l.drop a)) rfl rfl (by omega) (by rw [ints_length, List.length_drop]; omega) (by omega) (by decide) (by omega) ?_
          intro v7 H7 n7 o7
          rw [show a + 1 + (i - a) = i + 1 by omega, ints_append] at o7
          have o8 : Ow B2 H7 [.sl 1 2 (.slice (some ⟨ui, 0, some 1⟩) i i) i (ints l), .sl 1 2 v7 (i + 1) (ints (l.take a ++ [(i : Int)] ++ l.drop a))] := o7
          obtain ⟨u7, q1, q2, rfl, q4⟩ := o8.get 1 rfl (by omega)
          try simp (disch := first | omega | (simp only [L3] <;> omega)) only [Sall,evalOp,init,binA_s,binE,binI,unE,convE,okNil,builtE,gv,TD.isAgg,resV,↓reduceIte,Nat.reduceEqDiff,reduceCtorEq,Nat.reduceAdd,Nat.reduceMul,Nat.reduceLeDiff,quietOp,blindOp,Int.reduceEq,Int.reduceLT,Int.reduceLE,Nat.reduceLT,tiA,tiXA, awpT_nil, awpT_one, awpT_run_nil, awpT_run_cons, h6, h5, h0, h1, w64]
          exact ⟨.inr (.inl (by kernel_rfl)), n.toNat - (i + 1), by omega, i + 1, u7, _, B2, rfl, by omega, by omega, rfl, hB2, fin7 _ _ _ _ o8, hm6⟩
        · have hai2 : a = i := by omega
          subst hai2
          have o8 : Ow B2 H6 [.sl 1 2 (.slice (some ⟨ui, 0, some 1⟩) a a) a (ints l), .sl 1 2 v6 (a + 1) (ints (l.take a ++ [(a : Int)]))] := o6
          obtain ⟨u7, q1, q2, rfl, q4⟩ := o8.get 1 rfl (by omega)
          rw [Nat.sub_self]
          refine appE_zero ?_
          have hd0 : l.drop a = [] := List.drop_eq_nil_of_le (by omega)
          rw [hd0, List.append_nil] at hm6
          try simp (disch := first | omega | (simp only [L3] <;> omega)) only [Sall,evalOp,init,binA_s,binE,binI,unE,convE,okNil,builtE,gv,TD.isAgg,resV,↓reduceIte,Nat.reduceEqDiff,reduceCtorEq,Nat.reduceAdd,Nat.reduceMul,Nat.reduceLeDiff,quietOp,blindOp,Int.reduceEq,Int.reduceLT,Int.reduceLE,Nat.reduceLT,tiA,tiXA, awpT_nil, awpT_one, awpT_run_nil, awpT_run_cons, h6, h5, h0, h1, w64]
          exact ⟨.inr (.inl (by kernel_rfl)), n.toNat - (a + 1), by omega, a + 1, u7, _, B2, rfl, by omega, by omega, rfl, hB2, fin7 _ _ _ _ o8, hm6⟩
    · have hie : i = n.toNat := by omega
      subst hie
      try simp (disch := first | omega | (simp only [L3] <;> omega)) only [Sall,evalOp,init,binA_s,binE,binI,unE,convE,okNil,builtE,gv,TD.isAgg,resV,↓reduceIte,Nat.reduceEqDiff,reduceCtorEq,Nat.reduceAdd,Nat.reduceMul,Nat.reduceLeDiff,quietOp,blindOp,Int.reduceEq,Int.reduceLT,Int.reduceLE,Nat.reduceLT,tiA,tiXA, h5]
      exact ⟨l, B, hB, o2, hp⟩
end Go.Proofs.YtollphjompimjaaGreat.A
end

section
set_option maxRecDepth 100000
set_option maxHeartbeats 2000000
namespace Go.Proofs.YtollphjompimjaaGreat.A
open Go Go.Abs Go.RowKit
theorem Ow.rebase {cv : Value} {nb si : Nat} {H H1 B H' : AH} {L : List Th} (o : Ow B H' L) (up : Up H.next H H1) (k : SrcB cv nb si H1 B) (hsi : H.next ≤ si) : Ow H H' L := by
  obtain ⟨w, hw⟩ := o.own
  have h1 := up.next
  have h2 := k.next
  have h3 := o.next
  refine ⟨o.sc, by omega, fun i hi => by rw [o.low i (by omega), k.row i (by omega), up.row i hi], w, fun j q hj => q.loc H' H' _ _ (fun i hi => ⟨by omega, hi.2⟩) (fun _ _ _ h => h) (hw j q hj)⟩
theorem CodeX.of {cv : Value} {nb : Nat} {H H1 : AH} (h : CodeOk H cv nb) (hs : Sc H) (up : Up H.next H H1) : CodeX cv nb H.next H1 := fun H' hk => by
  rcases h with ⟨q1, q2⟩ | ⟨i, o, u, c, r, q1, q2, q3⟩
  · exact .inl ⟨q1, q2⟩
  · have := hs _ _ q2
    exact .inr ⟨i, o, u, c, r, q1, hk _ _ (by omega) (by rw [up.row i this]; exact q2), q3⟩
theorem CodeOk.up {cv : Value} {nb : Nat} {H H1 : AH} (h : CodeOk H cv nb) (hs : ∀ i r, H.row i = some r → H1.row i = some r) : CodeOk H1 cv nb := by
  rcases h with ⟨q1, q2⟩ | ⟨i, o, u, c, r, q1, q2, q3⟩
  · exact .inl ⟨q1, q2⟩
  · exact .inr ⟨i, o, u, c, r, q1, hs _ _ q2, q3⟩
end Go.Proofs.YtollphjompimjaaGreat.A
end

section
set_option maxRecDepth 100000
set_option maxHeartbeats 2000000
namespace Go.Proofs.YtollphjompimjaaGreat.A
open Go Go.Abs Go.RowKit
theorem big_c (cv : Value) (nb : Nat) (H : AH) (hc : CodeOk H cv nb) : ACalls Tryz.prog 4 [cv] H (is (.bool (decide (4096 < (nb : Int)))) H) := by
  refine acalls_of_awp [.tmp 2] Tryz.func4 (by kernel_rfl) rfl rfl (Nat.le_of_ble_eq_true rfl) (by kernel_rfl) ?_
  have hln := hc.len
  try simp (disch := first | omega | (simp only [L3] <;> omega)) only [Sall,evalOp,init,binA_s,binE,binI,unE,convE,okNil,builtE,gv,TD.isAgg,resV,↓reduceIte,Nat.reduceEqDiff,reduceCtorEq,Nat.reduceAdd,Nat.reduceMul,Nat.reduceLeDiff,quietOp,blindOp,Int.reduceEq,Int.reduceLT,Int.reduceLE,Nat.reduceLT,tiA,tiXA, hln, builtE]
  exact ⟨rfl, rfl⟩
theorem likeInts_c (a b : Value) (n : Nat) (l : List Int) (H : AH) (hn : n ≤ 4294967296) (ha : Rd 1 H a n l) (hb : Rd 1 H b n l) : ACalls Tryz.prog 8 [a, b] H (is (.bool true) H) := by
  refine acalls_of_awp [.tmp 4] Tryz.func8 (by kernel_rfl) rfl rfl (Nat.le_of_ble_eq_true rfl) (by kernel_rfl) ?_
  have la := ha.len
  have lb := hb.len
  try simp (disch := first | omega | (simp only [L3] <;> omega)) only [Sall,evalOp,init,binA_s,binE,binI,unE,convE,okNil,builtE,gv,TD.isAgg,resV,↓reduceIte,Nat.reduceEqDiff,reduceCtorEq,Nat.reduceAdd,Nat.reduceMul,Nat.reduceLeDiff,quietOp,blindOp,Int.reduceEq,Int.reduceLT,Int.reduceLE,Nat.reduceLT,tiA,tiXA, la, lb, builtE, bne_self_eq_false]
  refine awp_loop (fun z t H' => H' = H ∧ ∃ j : Nat, z = n - j ∧ j ≤ n ∧ t 5 = .int .i64 j ∧ t 0 = a ∧ t 1 = b) n ?_ ?_
  · refine ⟨rfl, 0, by omega, by omega, ?_⟩
    try simp (disch := first | omega | (simp only [L3] <;> omega)) only [Sall,evalOp,init,binA_s,binE,binI,unE,convE,okNil,builtE,gv,TD.isAgg,resV,↓reduceIte,Nat.reduceEqDiff,reduceCtorEq,Nat.reduceAdd,Nat.reduceMul,Nat.reduceLeDiff,quietOp,blindOp,Int.reduceEq,Int.reduceLT,Int.reduceLE,Nat.reduceLT,tiA,tiXA, Int.natCast_zero]
  · rintro z t H' ⟨rfl, j, hz, hj, h5, h0, h1⟩
    try simp (disch := first | omega | (simp only [L3] <;> omega)) only [Sall,evalOp,init,binA_s,binE,binI,unE,convE,okNil,builtE,gv,TD.isAgg,resV,↓reduceIte,Nat.reduceEqDiff,reduceCtorEq,Nat.reduceAdd,Nat.reduceMul,Nat.reduceLeDiff,quietOp,blindOp,Int.reduceEq,Int.reduceLT,Int.reduceLE,Nat.reduceLT,tiA,tiXA, h5, h0, la, builtE]
    refine condC_dec (fun hh => ?_) (fun hh => ?_)
    · obtain ⟨ai, ao, au, ac, ar, rfl, a1, a2, a3, a4⟩ := ha.get (by omega)
      obtain ⟨bi, bo, bu, bc, br, rfl, b1, b2, b3, b4⟩ := hb.get (by omega)
      have a5 := a3 j (by omega)
      have b5 := b3 j (by omega)
      try simp (disch := first | omega | (simp only [L3] <;> omega)) only [Sall,evalOp,init,binA_s,binE,binI,unE,convE,okNil,builtE,gv,TD.isAgg,resV,↓reduceIte,Nat.reduceEqDiff,reduceCtorEq,Nat.reduceAdd,Nat.reduceMul,Nat.reduceLeDiff,quietOp,blindOp,Int.reduceEq,Int.reduceLT,Int.reduceLE,Nat.reduceLT,tiA,tiXA, h5, h0, h1]
      refine draw_id (by kernel_rfl) (by kernel_rfl) ?_
      try simp (disch := first | omega | (simp only [L3] <;> omega)) only [Sall,evalOp,init,binA_s,binE,binI,unE,convE,okNil,builtE,gv,TD.isAgg,resV,↓reduceIte,Nat.reduceEqDiff,reduceCtorEq,Nat.reduceAdd,Nat.reduceMul,Nat.reduceLeDiff,quietOp,blindOp,Int.reduceEq,Int.reduceLT,Int.reduceLE,Nat.reduceLT,tiA,tiXA, h5, h0, h1, a1, a5, b1, b5, bne_self_eq_false, w64]
      (repeat refine And.intro (by omega) ?_)
      try simp (disch := first | omega | (simp only [L3] <;> omega)) only [Sall,evalOp,init,binA_s,binE,binI,unE,convE,okNil,builtE,gv,TD.isAgg,resV,↓reduceIte,Nat.reduceEqDiff,reduceCtorEq,Nat.reduceAdd,Nat.reduceMul,Nat.reduceLeDiff,quietOp,blindOp,Int.reduceEq,Int.reduceLT,Int.reduceLE,Nat.reduceLT,tiA,tiXA, h5, h0, h1, a1, a5, b1, b5, bne_self_eq_false, w64]
      exact ⟨n - (j + 1), by omega, j + 1, rfl, by omega, rfl⟩
    · try simp (disch := first | omega | (simp only [L3] <;> omega)) only [Sall,evalOp,init,binA_s,binE,binI,unE,convE,okNil,builtE,gv,TD.isAgg,resV,↓reduceIte,Nat.reduceEqDiff,reduceCtorEq,Nat.reduceAdd,Nat.reduceMul,Nat.reduceLeDiff,quietOp,blindOp,Int.reduceEq,Int.reduceLT,Int.reduceLE,Nat.reduceLT,tiA,tiXA, true_and]
      exact ⟨rfl, rfl⟩
structure Dr (cv : Value) (nb : Nat) (H H1 H' : AH) (L : List Th) : Prop where
  ex : ∃ B, SrcB cv nb H.next H1 B ∧ Ow B H' L
section
variable {cv : Value} {nb : Nat} {H H1 H' : AH} {L : List Th}
theorem Dr.src (h : Dr cv nb H H1 H' L) (hn : H.next < H1.next) : Src cv nb H.next H' := by
  obtain ⟨B, b, o⟩ := h.ex; exact Ow.srcAt o b hn
theorem Dr.code (h : Dr cv nb H H1 H' L) (hx : CodeX cv nb H.next H1) (sc : Sc H1) : CodeX cv nb H.next H' := by
  obtain ⟨B, b, o⟩ := h.ex; exact hx.later fun i r hi hr => Ow.oldX o b sc i r hi hr
theorem Dr.sc (h : Dr cv nb H H1 H' L) : Sc H' := by obtain ⟨B, b, o⟩ := h.ex; exact o.sc
theorem Dr.next (h : Dr cv nb H H1 H' L) (hn : H.next < H1.next) {H2 : AH} (k : SrcB cv nb H.next H' H2) : Dr cv nb H H1 H2 L := by
  obtain ⟨B, b, o⟩ := h.ex
  obtain ⟨B2, b2, o2⟩ := Ow.src o (by rw [b.next]; exact hn) k
  exact ⟨B2, b.trans b2, o2⟩
theorem Dr.call (h : Dr cv nb H H1 H' L) (hn : H.next < H1.next) {H2 H3 : AH} {M : List Th} (k : SrcB cv nb H.next H' H2) (o3 : Ow H2 H3 M) : Dr cv nb H H1 H3 (L ++ M) := by
  obtain ⟨B, b, o⟩ := h.ex
  obtain ⟨B2, b2, o2⟩ := Ow.srcCall o (by rw [b.next]; exact hn) k o3
  exact ⟨B2, b.trans b2, o2⟩
theorem Dr.calls (h : Dr cv nb H H1 H' L) {H3 : AH} {M : List Th} (o3 : Ow H' H3 M) : Dr cv nb H H1 H3 (L ++ M) := by
  obtain ⟨B, b, o⟩ := h.ex
  exact ⟨B, b, o.call o3⟩
theorem Dr.map (h : Dr cv nb H H1 H' L) {H2 : AH} {M : List Th} (f : ∀ B, Ow B H' L → Ow B H2 M) : Dr cv nb H H1 H2 M := by
  obtain ⟨B, b, o⟩ := h.ex
  exact ⟨B, b, f B o⟩
theorem Dr.fin (h : Dr cv nb H H1 H' L) (up : Up H.next H H1) : Ow H H' L := by
  obtain ⟨B, b, o⟩ := h.ex
  exact Ow.rebase o up b (Nat.le_refl _)
end
end Go.Proofs.YtollphjompimjaaGreat.A
end

section
set_option maxRecDepth 100000
set_option maxHeartbeats 2000000
namespace Go.Proofs.YtollphjompimjaaGreat.A
open Go Go.Abs Go.RowKit
theorem condC_cut {P : Program} {A : Code} {Q : Exit → T → AH → Prop} {N : T → AH → Prop} {t : T} {H : AH} {b : Bool} (M : T → AH → Prop) (hf : b = false → M t H) (ht : b = true → awp P A (seqQ M Q) t H) (hN : ∀ t H, M t H → N t H) :
    condC (some (.bool b)) (awp P A (seqQ N Q) t H) (N t H) := by
  cases b with
  | false => exact hN _ _ (hf rfl)
  | true => exact awp_mono A _ _ t H (seqQ_mono hN fun _ _ _ h => h) (ht rfl)
end Go.Proofs.YtollphjompimjaaGreat.A
end

section
set_option maxRecDepth 100000
set_option maxHeartbeats 2000000
namespace Go.Proofs.YtollphjompimjaaGreat.A
open Go Go.Abs Go.RowKit
end Go.Proofs.YtollphjompimjaaGreat.A
end

section
set_option maxRecDepth 100000
set_option maxHeartbeats 2000000
namespace Go.Proofs.YtollphjompimjaaGreat.A
open Go Go.Abs Go.RowKit
theorem rows9G_c (a b : Value) (ll : List (List Int)) (H : AH) (hn : ll.length ≤ 4294967296) (hr : ∀ j, j < ll.length → (ll.getD j []).length ≤ 4294967296) (ha : Rd2 1 H a ll) (hb : Rd2 1 H b ll) : ACalls Tryz.prog 47 [a, b] H (is (.bool true) H) := by
  refine acalls_of_awp [.tmp 4] Tryz.func47 (by kernel_rfl) rfl rfl (Nat.le_of_ble_eq_true rfl) (by kernel_rfl) ?_
  have la := ha.len
  have lb := hb.len
  try simp (disch := first | omega | (simp only [L3] <;> omega)) only [Sall,evalOp,init,binA_s,binE,binI,unE,convE,okNil,builtE,gv,TD.isAgg,resV,↓reduceIte,Nat.reduceEqDiff,reduceCtorEq,Nat.reduceAdd,Nat.reduceMul,Nat.reduceLeDiff,quietOp,blindOp,Int.reduceEq,Int.reduceLT,Int.reduceLE,Nat.reduceLT,tiA,tiXA, la, lb, builtE, bne_self_eq_false]
  refine awp_loop (fun z t H' => H' = H ∧ ∃ j : Nat, z = ll.length - j ∧ j ≤ ll.length ∧ t 5 = .int .i64 j ∧ t 0 = a ∧ t 1 = b) ll.length ?_ ?_
  · refine ⟨rfl, 0, by omega, by omega, ?_⟩
    try simp (disch := first | omega | (simp only [L3] <;> omega)) only [Sall,evalOp,init,binA_s,binE,binI,unE,convE,okNil,builtE,gv,TD.isAgg,resV,↓reduceIte,Nat.reduceEqDiff,reduceCtorEq,Nat.reduceAdd,Nat.reduceMul,Nat.reduceLeDiff,quietOp,blindOp,Int.reduceEq,Int.reduceLT,Int.reduceLE,Nat.reduceLT,tiA,tiXA, Int.natCast_zero]
  · rintro z t H' ⟨rfl, j, hz, hj, h5, h0, h1⟩
    try simp (disch := first | omega | (simp only [L3] <;> omega)) only [Sall,evalOp,init,binA_s,binE,binI,unE,convE,okNil,builtE,gv,TD.isAgg,resV,↓reduceIte,Nat.reduceEqDiff,reduceCtorEq,Nat.reduceAdd,Nat.reduceMul,Nat.reduceLeDiff,quietOp,blindOp,Int.reduceEq,Int.reduceLT,Int.reduceLE,Nat.reduceLT,tiA,tiXA, h5, h0, la, builtE]
    refine condC_dec (fun hh => ?_) (fun hh => ?_)
    · obtain ⟨ai, ao, au, ac, ar, ax, am, rfl, a1, a2, a3, a4⟩ := ha.get (j := j) (by omega)
      obtain ⟨bi, bo, bu, bc, br, bx, bm, rfl, b1, b2, b3, b4⟩ := hb.get (j := j) (by omega)
      have a5 := a3.lenK1
      have b5 := b3.lenK1
      rw [a5] at a3
      rw [b5] at b3
      have hj2 := hr j (by omega)
      try simp (disch := first | omega | (simp only [L3] <;> omega)) only [Sall,evalOp,init,binA_s,binE,binI,unE,convE,okNil,builtE,gv,TD.isAgg,resV,↓reduceIte,Nat.reduceEqDiff,reduceCtorEq,Nat.reduceAdd,Nat.reduceMul,Nat.reduceLeDiff,quietOp,blindOp,Int.reduceEq,Int.reduceLT,Int.reduceLE,Nat.reduceLT,tiA,tiXA, h5, h0, h1]
      refine draw_id (by kernel_rfl) (by kernel_rfl) ?_
      try simp (disch := first | omega | (simp only [L3] <;> omega)) only [Sall,evalOp,init,binA_s,binE,binI,unE,convE,okNil,builtE,gv,TD.isAgg,resV,↓reduceIte,Nat.reduceEqDiff,reduceCtorEq,Nat.reduceAdd,Nat.reduceMul,Nat.reduceLeDiff,quietOp,blindOp,Int.reduceEq,Int.reduceLT,Int.reduceLE,Nat.reduceLT,tiA,tiXA, h5, h0, h1, a1, a2, a4, b1, b2, b4]
      (repeat refine And.intro (by omega) ?_)
      try simp (disch := first | omega | (simp only [L3] <;> omega)) only [Sall,evalOp,init,binA_s,binE,binI,unE,convE,okNil,builtE,gv,TD.isAgg,resV,↓reduceIte,Nat.reduceEqDiff,reduceCtorEq,Nat.reduceAdd,Nat.reduceMul,Nat.reduceLeDiff,quietOp,blindOp,Int.reduceEq,Int.reduceLT,Int.reduceLE,Nat.reduceLT,tiA,tiXA, h5, h0, h1, a1, a2, a4, b1, b2, b4]
      refine (likeInts_c ax bx _ _ H' hj2 a3 b3).to ?_
      refine ⟨.inr (.inr (LE.refl _)), ?_⟩
      try simp (disch := first | omega | (simp only [L3] <;> omega)) only [Sall,evalOp,init,binA_s,binE,binI,unE,convE,okNil,builtE,gv,TD.isAgg,resV,↓reduceIte,Nat.reduceEqDiff,reduceCtorEq,Nat.reduceAdd,Nat.reduceMul,Nat.reduceLeDiff,quietOp,blindOp,Int.reduceEq,Int.reduceLT,Int.reduceLE,Nat.reduceLT,tiA,tiXA, h5, h0, h1, w64]
      exact ⟨ll.length - (j + 1), by omega, j + 1, rfl, by omega, rfl⟩
    · try simp (disch := first | omega | (simp only [L3] <;> omega)) only [Sall,evalOp,init,binA_s,binE,binI,unE,convE,okNil,builtE,gv,TD.isAgg,resV,↓reduceIte,Nat.reduceEqDiff,reduceCtorEq,Nat.reduceAdd,Nat.reduceMul,Nat.reduceLeDiff,quietOp,blindOp,Int.reduceEq,Int.reduceLT,Int.reduceLE,Nat.reduceLT,tiA,tiXA, true_and]
      exact ⟨rfl, rfl⟩
theorem golf9G_c (q g : Int) (a b : Value) (ll : List (List Int)) (H : AH) (hn : ll.length ≤ 4294967296) (hr : ∀ j, j < ll.length → (ll.getD j []).length ≤ 4294967296) (ha : Rd2 1 H a ll) (hb : Rd2 1 H b ll) :
    ACalls Tryz.prog 19 [.agg #[.int .i64 q, .int .i64 g, a], .agg #[.int .i64 q, .int .i64 g, b]] H (is (.bool true) H) := by
  refine acalls_up rfl (ACalls.wf (by kernel_rfl) fun hs => acalls_of_awp [.tmp 4] Tryz.func19 (by kernel_rfl) rfl rfl (Nat.le_of_ble_eq_true rfl) (by kernel_rfl) ?_)
  have oa := ha.one
  have ob := hb.one
  have o1 := (golf_push hs q g a).push ⟨26, true, [.int .i64 q, .int .i64 g, b]⟩
  try simp (disch := first | omega | (simp only [L3] <;> omega)) only [Sall,evalOp,init,binA_s,binE,binI,unE,convE,okNil,builtE,gv,TD.isAgg,resV,↓reduceIte,Nat.reduceEqDiff,reduceCtorEq,Nat.reduceAdd,Nat.reduceMul,Nat.reduceLeDiff,quietOp,blindOp,Int.reduceEq,Int.reduceLT,Int.reduceLE,Nat.reduceLT,tiA,tiXA, oa, ob]
  have o1 : Ow H ((H.push ⟨26, true, [.int .i64 q, .int .i64 g, a]⟩).push ⟨26, true, [.int .i64 q, .int .i64 g, b]⟩) [.row H.next ⟨26, true, [.int .i64 q, .int .i64 g, a]⟩, .row (H.next + 1) ⟨26, true, [.int .i64 q, .int .i64 g, b]⟩] := o1
  generalize (H.push ⟨26, true, [.int .i64 q, .int .i64 g, a]⟩).push ⟨26, true, [.int .i64 q, .int .i64 g, b]⟩ = H1 at o1 ⊢
  have e1 := (o1.rowAt 0 rfl).1
  have e2 : H1.row (H.next + 1) = _ := (o1.rowAt 1 rfl).1
  have up := o1.up
  try simp (disch := first | omega | (simp only [L3] <;> omega)) only [Sall,evalOp,init,binA_s,binE,binI,unE,convE,okNil,builtE,gv,TD.isAgg,resV,↓reduceIte,Nat.reduceEqDiff,reduceCtorEq,Nat.reduceAdd,Nat.reduceMul,Nat.reduceLeDiff,quietOp,blindOp,Int.reduceEq,Int.reduceLT,Int.reduceLE,Nat.reduceLT,tiA,tiXA, e1, e2, oa, ob, beq_self_eq_true]
  refine (rows9G_c a b ll H1 hn hr (ha.same (o1.old hs)) (hb.same (o1.old hs))).to ?_
  refine Holds.mp ?_
  try simp (disch := first | omega | (simp only [L3] <;> omega)) only [Sall,evalOp,init,binA_s,binE,binI,unE,convE,okNil,builtE,gv,TD.isAgg,resV,↓reduceIte,Nat.reduceEqDiff,reduceCtorEq,Nat.reduceAdd,Nat.reduceMul,Nat.reduceLeDiff,quietOp,blindOp,Int.reduceEq,Int.reduceLT,Int.reduceLE,Nat.reduceLT,tiA,tiXA, true_and]
  exact up
structure MoJ (A : AH) (q g : Int) (v x : Value) (ws : List Value) (v3 v4 : Value) (cs fs : List Nat) (t : T) (H : AH) : Prop where
  hcs : cs = [4, 7, 10] ∨ cs = [7, 10] ∨ cs = [10] ∨ cs = []
  hfs : ∀ a ∈ fs, a = 9 ∨ a = 12
  t265 : t 265 = .int .i64 q
  t267 : t 267 = .int .i64 g
  t270 : t 270 = v
  t272 : t 272 = x
  t3 : t 3 = v3
  t4 : t 4 = v4
  ow : ∃ a b c : Th, Ow A H [a, b, c] ∧ (cs = [7, 10] → a = .sl 1 28 (t 268) 0 []) ∧ (cs = [10] → a = .sl 1 28 (t 271) ws.length ws) ∧ (cs = [] → a = .sl 1 28 (t 274) (ws.length + 1) (ws ++ [x])) ∧ (9 ∉ fs → b = .sl 1 28 (t 273) 1 [x]) ∧ (12 ∉ fs → ∃ i, t 40 = .pointer (some ⟨i, 0, none⟩) ∧ c = .row i ⟨26, true, [.int .i64 0, .int .i64 0, .slice none 0 0]⟩)
theorem MoJ.call4 {A : AH} {q g : Int} {v x : Value} {ws : List Value} {v3 v4 : Value} {fs : List Nat} {t : T} {H : AH} (h : MoJ A q g v x ws v3 v4 [4, 7, 10] fs t H) : MoJ A q g v x ws v3 v4 [7, 10] fs (upd t 268 (.slice (some ⟨H.next, 0, some 1⟩) 0 0)) (H.push ⟨28, true, []⟩) := by
  obtain ⟨a, b, c, o, h1, h2, h3, h4, h5⟩ := h.ow
  exact ⟨.inr (.inl rfl), h.hfs, h.t265, h.t267, h.t270, h.t272, h.t3, h.t4, _, b, c, (o.fillRow 0 rfl ⟨28, true, []⟩).row_sl 0 rfl rfl, fun _ => rfl, fun e => (by cases e), fun e => (by cases e), h4, h5⟩
theorem MoJ.free9 {A : AH} {q g : Int} {v x : Value} {ws : List Value} {v3 v4 : Value} {cs fs : List Nat} {t : T} {H : AH} (h : MoJ A q g v x ws v3 v4 cs fs t H) : MoJ A q g v x ws v3 v4 cs (fs.erase 9) (upd t 273 (.slice (some ⟨H.next, 0, some 1⟩) 1 1)) (H.push ⟨28, true, [x]⟩) := by
  obtain ⟨a, b, c, o, h1, h2, h3, h4, h5⟩ := h.ow
  exact ⟨h.hcs, fun x hx => h.hfs x (List.mem_of_mem_erase hx), h.t265, h.t267, h.t270, h.t272, h.t3, h.t4, a, _, c, (o.fillRow 1 rfl ⟨28, true, [x]⟩).row_sl 1 rfl rfl, h1, h2, h3, fun _ => rfl, fun k => h5 (not_erase k (by decide))⟩
theorem MoJ.free12 {A : AH} {q g : Int} {v x : Value} {ws : List Value} {v3 v4 : Value} {cs fs : List Nat} {t : T} {H : AH} (h : MoJ A q g v x ws v3 v4 cs fs t H) : MoJ A q g v x ws v3 v4 cs (fs.erase 12) (upd t 40 (.pointer (some ⟨H.next, 0, none⟩))) (H.push ⟨26, true, [.int .i64 0, .int .i64 0, .slice none 0 0]⟩) := by
  obtain ⟨a, b, c, o, h1, h2, h3, h4, h5⟩ := h.ow
  exact ⟨h.hcs, fun x hx => h.hfs x (List.mem_of_mem_erase hx), h.t265, h.t267, h.t270, h.t272, h.t3, h.t4, a, b, _, o.fillRow 2 rfl _, h1, h2, h3, fun k => h4 (not_erase k (by decide)), fun _ => ⟨H.next, rfl, rfl⟩⟩
end Go.Proofs.YtollphjompimjaaGreat.A
end

section
set_option maxRecDepth 100000
set_option maxHeartbeats 2000000
namespace Go.Proofs.YtollphjompimjaaGreat.A
open Go Go.Abs Go.RowKit
end Go.Proofs.YtollphjompimjaaGreat.A
end

section
set_option maxRecDepth 100000
set_option maxHeartbeats 2000000
namespace Go.Proofs.YtollphjompimjaaGreat.A
open Go Go.Abs Go.RowKit
end Go.Proofs.YtollphjompimjaaGreat.A
end

section
set_option maxRecDepth 100000
set_option maxHeartbeats 2000000
namespace Go.Proofs.YtollphjompimjaaGreat.A
open Go Go.Abs Go.RowKit
end Go.Proofs.YtollphjompimjaaGreat.A
end

section
set_option maxRecDepth 100000
set_option maxHeartbeats 2000000
namespace Go.Proofs.YtollphjompimjaaGreat.A
open Go Go.Abs Go.RowKit
structure FtJ (A : AH) (n : Nat) (R : List (List Int)) (sv : Value) (cs fs : List Nat) (t : T) (H : AH) : Prop where
  hcs : cs = [1, 2] ∨ cs = [2] ∨ cs = []
  hfs : fs = [4] ∨ fs = []
  t13 : t 13 = sv
  t16 : t 16 = sv
  up : Up A.next A H
  sc : Sc H
  p1 : 1 ∉ cs → ∃ i, t 14 = .slice (some ⟨i, 0, some 1⟩) 1 1 ∧ i < H.next ∧ H.row i = some ⟨3, true, [.int .i64 1]⟩
  s2 : 2 ∉ cs → Fr2 1 28 2 A.next H.next H (t 15) (tabM n wP R)
  p4 : 4 ∉ fs → ∃ i, t 17 = .slice (some ⟨i, 0, some 1⟩) 2 2 ∧ i < H.next ∧ H.row i = some ⟨3, true, [.int .i64 2, .int .i64 3]⟩
end Go.Proofs.YtollphjompimjaaGreat.A
end

section
set_option maxRecDepth 100000
set_option maxHeartbeats 2000000
namespace Go.Proofs.YtollphjompimjaaGreat.A
open Go Go.Abs Go.RowKit Go.Shelf Go.Sort
end Go.Proofs.YtollphjompimjaaGreat.A
end

section
set_option maxRecDepth 100000
set_option maxHeartbeats 2000000
namespace Go.Proofs.YtollphjompimjaaGreat.A
open Go Go.Abs Go.RowKit
end Go.Proofs.YtollphjompimjaaGreat.A
end

section
set_option maxRecDepth 100000
set_option maxHeartbeats 2000000
namespace Go.Proofs.YtollphjompimjaaGreat.A
open Go Go.Abs Go.RowKit
end Go.Proofs.YtollphjompimjaaGreat.A
end

section
set_option maxRecDepth 100000
set_option maxHeartbeats 2000000
namespace Go.Proofs.YtollphjompimjaaGreat.A
open Go Go.Abs Go.RowKit
end Go.Proofs.YtollphjompimjaaGreat.A
end

section
set_option maxRecDepth 100000
set_option maxHeartbeats 2000000
namespace Go.Proofs.YtollphjompimjaaGreat.A
open Go Go.Abs Go.RowKit
end Go.Proofs.YtollphjompimjaaGreat.A
end

section
set_option maxRecDepth 100000
set_option maxHeartbeats 2000000
namespace Go.Proofs.YtollphjompimjaaGreat.A
open Go Go.Abs Go.RowKit
end Go.Proofs.YtollphjompimjaaGreat.A
end

section
set_option maxRecDepth 100000
set_option maxHeartbeats 2000000
namespace Go.Proofs.YtollphjompimjaaGreat.A
open Go Go.Abs Go.RowKit
end Go.Proofs.YtollphjompimjaaGreat.A
end

section
set_option maxRecDepth 100000
set_option maxHeartbeats 2000000
namespace Go.Proofs.YtollphjompimjaaGreat.A
open Go Go.Abs Go.RowKit
end Go.Proofs.YtollphjompimjaaGreat.A
end

section
set_option maxRecDepth 100000
set_option maxHeartbeats 2000000
namespace Go.Proofs.YtollphjompimjaaGreat.A
open Go Go.Abs Go.RowKit
def VL (n : Nat) (l : List Int) : Prop := ∀ x, x ∈ l → 0 ≤ x ∧ x < (n : Int)
theorem VL.getD {n : Nat} {l : List Int} (h : VL n l) {j : Nat} (hj : j < l.length) : 0 ≤ l.getD j 0 ∧ l.getD j 0 < (n : Int) := by
  rw [List.getD_eq_getElem?_getD, List.getElem?_eq_getElem hj]
  exact h _ (List.getElem_mem _)
theorem VL.set {n : Nat} {l : List Int} (h : VL n l) {x : Int} (hx : 0 ≤ x ∧ x < (n : Int)) (j : Nat) : VL n (l.set j x) := fun y hy => by
  rcases List.mem_or_eq_of_mem_set hy with h1 | h1
  · exact h y h1
  · rw [h1]; exact hx
theorem VL.app {n : Nat} {l m : List Int} (h : VL n l) (k : VL n m) : VL n (l ++ m) := fun y hy => by
  rcases List.mem_append.1 hy with h1 | h1
  · exact h y h1
  · exact k y h1
theorem VL.zeros {n : Nat} (h : 0 < n) (k : Nat) : VL n (List.replicate k 0) := fun y hy => by
  rw [List.eq_of_mem_replicate hy]; omega
theorem VL.nil (n : Nat) : VL n [] := fun y hy => by simp at hy
end Go.Proofs.YtollphjompimjaaGreat.A
end

section
set_option maxRecDepth 100000
set_option maxHeartbeats 2000000
namespace Go.Proofs.YtollphjompimjaaGreat.A
open Go Go.Abs Go.RowKit
structure Dq (cv : Value) (nb si : Nat) (H H' : AH) (L : List Th) : Prop where
  ex : ∃ B, SrcB cv nb si H B ∧ Ow B H' L
section
variable {cv : Value} {nb si : Nat} {H H' : AH} {L : List Th}
theorem Dq.start (h : Src cv nb si H) (sc : Sc H) : Dq cv nb si H H [] := ⟨⟨H, SrcB.refl h, Ow.refl sc⟩⟩
theorem Dq.src (h : Dq cv nb si H H' L) (hn : si < H.next) : Src cv nb si H' := by
  obtain ⟨B, b, o⟩ := h.ex; exact Ow.srcAt o b hn
theorem Dq.code (h : Dq cv nb si H H' L) (hx : CodeX cv nb si H) (sc : Sc H) : CodeX cv nb si H' := by
  obtain ⟨B, b, o⟩ := h.ex; exact hx.later fun i r hi hr => Ow.oldX o b sc i r hi hr
theorem Dq.sc (h : Dq cv nb si H H' L) : Sc H' := by obtain ⟨B, b, o⟩ := h.ex; exact o.sc
theorem Dq.le (h : Dq cv nb si H H' L) : H.next ≤ H'.next := by obtain ⟨B, b, o⟩ := h.ex; have := b.next; have := o.next; omega
theorem Dq.old (h : Dq cv nb si H H' L) (sc : Sc H) : ∀ i r, i ≠ si → H.row i = some r → H'.row i = some r := by
  obtain ⟨B, b, o⟩ := h.ex; exact Ow.oldX o b sc
theorem Dq.next (h : Dq cv nb si H H' L) (hn : si < H.next) {H2 : AH} (k : SrcB cv nb si H' H2) : Dq cv nb si H H2 L := by
  obtain ⟨B, b, o⟩ := h.ex
  obtain ⟨B2, b2, o2⟩ := Ow.src o (by rw [b.next]; exact hn) k
  exact ⟨B2, b.trans b2, o2⟩
theorem Dq.call (h : Dq cv nb si H H' L) (hn : si < H.next) {H2 H3 : AH} {M : List Th} (k : SrcB cv nb si H' H2) (o3 : Ow H2 H3 M) : Dq cv nb si H H3 (L ++ M) := by
  obtain ⟨B, b, o⟩ := h.ex
  obtain ⟨B2, b2, o2⟩ := Ow.srcCall o (by rw [b.next]; exact hn) k o3
  exact ⟨B2, b.trans b2, o2⟩
theorem Dq.bind (h : Dq cv nb si H H' L) (hn : si < H.next) {H3 : AH} {M : List Th} (k : Dq cv nb si H' H3 M) : Dq cv nb si H H3 (L ++ M) := by
  obtain ⟨B, b, o⟩ := k.ex
  exact h.call hn b o
theorem Dq.calls (h : Dq cv nb si H H' L) {H3 : AH} {M : List Th} (o3 : Ow H' H3 M) : Dq cv nb si H H3 (L ++ M) := by
  obtain ⟨B, b, o⟩ := h.ex
  exact ⟨B, b, o.call o3⟩
theorem Dq.map (h : Dq cv nb si H H' L) {H2 : AH} {M : List Th} (f : ∀ B, Ow B H' L → Ow B H2 M) : Dq cv nb si H H2 M := by
  obtain ⟨B, b, o⟩ := h.ex
  exact ⟨B, b, f B o⟩
theorem Dq.push (h : Dq cv nb si H H' L) (r : Row) : Dq cv nb si H (H'.push r) (L ++ [.row H'.next r]) := h.map fun B o => o.push r
theorem Dq.tmp (h : Dq cv nb si H H' L) (r : Row) : Dq cv nb si H (H'.push r) L := h.map fun B o => o.tmp r
theorem Dq.left {M : List Th} (h : Dq cv nb si H H' (L ++ M)) : Dq cv nb si H H' L := h.map fun B o => o.left
theorem Dq.putRow (h : Dq cv nb si H H' L) (k : Nat) {i : Nat} {ty : TypeId} {b : Bool} {cs cs' : List Value} (hk : L[k]? = some (.row i ⟨ty, b, cs⟩)) : Dq cv nb si H (H'.setCells i cs') (L.set k (.row i ⟨ty, b, cs'⟩)) := h.map fun B o => o.putRow k hk
theorem Dq.rowAt (h : Dq cv nb si H H' L) (k : Nat) {i : Nat} {r : Row} (hk : L[k]? = some (.row i r)) : H'.row i = some r := by
  obtain ⟨B, b, o⟩ := h.ex
  exact (o.rowAt k hk).1
theorem Dq.rd (h : Dq cv nb si H H' L) (k : Nat) {z n : Nat} {ty : TypeId} {v : Value} {l : List Int} (hk : L[k]? = some (.sl z ty v n (ints l))) : Rd z H' v n l := by
  obtain ⟨B, b, o⟩ := h.ex
  exact o.rd k hk
theorem Dq.rd2 (h : Dq cv nb si H H' L) (k : Nat) {ty ty' : TypeId} {v : Value} {ll : List (List Int)} (hk : L[k]? = some (.sl2 (Value.int .i64) ty ty' v ll)) : Rd2 1 H' v ll := by
  obtain ⟨B, b, o⟩ := h.ex
  exact o.rd2 k hk
theorem Dq.one (h : Dq cv nb si H H' L) (k : Nat) {z n : Nat} {ty : TypeId} {v : Value} {vs : List Value} (hk : L[k]? = some (.sl z ty v n vs)) : v.oneCell' = true := by
  obtain ⟨B, b, o⟩ := h.ex
  exact o.one k hk
theorem Dq.capRs (h : Dq cv nb si H H' L) (k : Nat) {z n : Nat} {ty : TypeId} {v : Value} {l : List Int} (hk : L[k]? = some (.cap z ty v n (ints l))) : Rs z H' v n l := by
  obtain ⟨B, b, o⟩ := h.ex
  exact o.capRs k hk
end
end Go.Proofs.YtollphjompimjaaGreat.A
end

section
set_option maxRecDepth 100000
set_option maxHeartbeats 2000000
namespace Go.Proofs.YtollphjompimjaaGreat.A
open Go Go.Abs Go.RowKit
theorem pickD {cv : Value} {nb si k m : Nat} {H Hp : AH} {L : List Th} {ty : TypeId} {lv : Value} {ls : List Int} (d : Dq cv nb si H Hp L) (hsi : si < H.next) (hc : CodeX cv nb si H) (hsc : Sc H) (hnb : nb ≤ 4611686018427387904) (hk : L[k]? = some (.sl 1 ty lv m (ints ls))) (hm : 0 < m ∧ m ≤ 100) :
    ACalls Tryz.prog 41 [.pointer (some ⟨si, 0, none⟩), lv] Hp (fun v H' => ∃ x : Int, v = .int .i64 x ∧ x ∈ ls ∧ SrcB cv nb si Hp H') :=
  l01Pick_c cv nb si lv m ls Hp hm.1 (by omega) hnb (d.src hsi) (d.code hc hsc) fun H' hS => (d.next hsi hS).rd k hk
theorem nextD {cv : Value} {nb si : Nat} {H Hp : AH} {L : List Th} (n : Int) (d : Dq cv nb si H Hp L) (hsi : si < H.next) (hc : CodeX cv nb si H) (hsc : Sc H) (hnb : nb ≤ 4611686018427387904) (hn : n ≤ 9223372036854775807) :
    ACalls Tryz.prog 27 [.pointer (some ⟨si, 0, none⟩), .int .i64 n] Hp (fun v H' => ∃ x : Nat, v = .int .i64 x ∧ ((n < 1 ∧ x = 0) ∨ (x : Int) < n) ∧ Dq cv nb si H H' L) := by
  refine (l01Next_c cv nb si n Hp hn hnb (d.src hsi) (d.code hc hsc)).mono ?_
  rintro v H' ⟨x, hv, hx, hS⟩
  exact ⟨x, hv, hx, d.next hsi hS⟩
theorem ACalls.ex4 {P : Program} {f : FuncId} {args : List Value} {H : AH} {α β γ δ : Type} {g : α → β → γ → δ → Value} {X : α → β → γ → δ → AH → Prop} {R : Value → AH → Prop} (h : ACalls P f args H (fun v H' => ∃ a b c d, v = g a b c d ∧ X a b c d H')) (k : ∀ a b c d H', X a b c d H' → R (g a b c d) H') : ACalls P f args H R :=
  h.mono fun v H' hh => by obtain ⟨a, b, c, d, rfl, hx⟩ := hh; exact k _ _ _ _ _ hx
theorem Dq.les {cv : Value} {nb si : Nat} {H H' : AH} {L : List Th} (h : Dq cv nb si H H' L) (sc : Sc H) : LES (fun j => j ≠ si) H H' := ⟨h.le, fun i r hi hr => h.old sc i r hi hr⟩
theorem les_of {cv : Value} {nb si : Nat} {H B H' : AH} {M : List Th} (k : SrcB cv nb si H B) (o : Ow B H' M) (sc : Sc H) : LES (fun j => j ≠ si) H H' := Dq.les (⟨⟨B, k, o⟩⟩ : Dq cv nb si H H' M) sc
theorem ACalls.scz {P : Program} {f : FuncId} {args : List Value} {H : AH} {α : Type} {g : α → Value} {X : α → AH → Prop} (h : ACalls P f args H (fun v H' => ∃ u, v = g u ∧ X u H')) : ACalls P f args H (fun v H' => ∃ u, v = g u ∧ X u H' ∧ Sc H') :=
  h.sc.mono fun _ _ ⟨⟨u, h1, h2⟩, h3⟩ => ⟨u, h1, h2, h3⟩
theorem pickL {cv : Value} {nb si : Nat} {H Hp : AH} {L : List Th} (ls : List Int) (m : Nat) (hm : ls.length = m) (hm0 : 0 < m) (hm1 : m ≤ 100) (d : Dq cv nb si H Hp L) (hsi : si < H.next) (hc : CodeX cv nb si H) (hsc : Sc H) (hnb : nb ≤ 4611686018427387904) :
    ACalls Tryz.prog 41 [.pointer (some ⟨si, 0, none⟩), .slice (some ⟨Hp.next, 0, some 1⟩) m m] (Hp.push ⟨2, true, ints ls⟩) (fun v H' => ∃ x : Int, v = .int .i64 x ∧ x ∈ ls ∧ Dq cv nb si H H' L) := by
  have d6 : Dq cv nb si H (Hp.push ⟨2, true, ints ls⟩) L := d.tmp _
  have d7 : Dq cv nb si H (Hp.push ⟨2, true, ints ls⟩) (L ++ [.sl 1 2 (.slice (some ⟨Hp.next, 0, some 1⟩) m m) m (ints ls)]) := d.map fun B o => o.pushSl (by rw [ints_length, hm, Nat.mul_one])
  refine (pickD (k := L.length) (ty := 2) (ls := ls) d7 hsi hc hsc hnb (by simp) ⟨hm0, hm1⟩).mono ?_
  rintro v H' ⟨x, h1, h2, h3⟩
  exact ⟨x, h1, h2, d6.next hsi h3⟩
end Go.Proofs.YtollphjompimjaaGreat.A
end

section
set_option maxRecDepth 100000
set_option maxHeartbeats 2000000
namespace Go.Proofs.YtollphjompimjaaGreat.A
open Go Go.Abs Go.RowKit
theorem Dq.toCap {cv : Value} {nb si : Nat} {H H' : AH} {L : List Th} (h : Dq cv nb si H H' L) (k : Nat) {z n : Nat} {ty : TypeId} {v : Value} {vs : List Value} (hk : L[k]? = some (.sl z ty v n vs)) : Dq cv nb si H H' (L.set k (.cap z ty v n vs)) := h.map fun B o => o.toCap k hk
theorem Dq.cut {cv : Value} {nb si : Nat} {H H' : AH} {L : List Th} (h : Dq cv nb si H H' L) (k : Nat) {z n : Nat} {ty : TypeId} {v : Value} {l : List Int} (hk : L[k]? = some (.cap z ty v n (ints l))) {hi : Option Int} {b : Nat} (hb : hi.getD (n : Int) = (b : Int)) (hbn : b ≤ n) :
    ∃ w, (∀ (P : Program) (E : TI) (K : Value → AH → Prop) (H2 : AH), E.size = z → K w H2 → runOut P H2 (sliceE E v none hi none H2) K) ∧ Dq cv nb si H H' (L.set k (.cap z ty w b (ints (l.take (b * z))))) := by
  obtain ⟨B, b1, o⟩ := h.ex
  obtain ⟨w, h1, h2⟩ := o.cut k hk hb hbn
  exact ⟨w, h1, ⟨⟨B, b1, h2⟩⟩⟩
theorem SrcB.les {cv : Value} {nb si : Nat} {H H' : AH} (k : SrcB cv nb si H H') : LES (fun j => j ≠ si) H H' := ⟨Nat.le_of_eq k.next.symm, fun i r hi hr => by rw [k.row i hi]; exact hr⟩
theorem nextE {cv : Value} {nb si : Nat} {H Hp : AH} {L : List Th} (n : Int) (d : Dq cv nb si H Hp L) (hsi : si < H.next) (hc : CodeX cv nb si H) (hsc : Sc H) (hnb : nb ≤ 4611686018427387904) (hn : n ≤ 9223372036854775807) :
    ACalls Tryz.prog 27 [.pointer (some ⟨si, 0, none⟩), .int .i64 n] Hp (fun v H' => ∃ x : Nat, v = .int .i64 x ∧ ((n < 1 ∧ x = 0) ∨ (x : Int) < n) ∧ LES (fun j => j ≠ si) Hp H' ∧ Dq cv nb si H H' L) := by
  refine (l01Next_c cv nb si n Hp hn hnb (d.src hsi) (d.code hc hsc)).mono ?_
  rintro v H' ⟨x, hv, hx, hS⟩
  exact ⟨x, hv, hx, hS.les, d.next hsi hS⟩
theorem VL.take {n : Nat} {l : List Int} (h : VL n l) (k : Nat) : VL n (l.take k) := fun x hx => h x (List.mem_of_mem_take hx)
end Go.Proofs.YtollphjompimjaaGreat.A
end

section
set_option maxRecDepth 100000
set_option maxHeartbeats 2000000
namespace Go.Proofs.YtollphjompimjaaGreat.A
open Go Go.Abs Go.RowKit
end Go.Proofs.YtollphjompimjaaGreat.A
end
