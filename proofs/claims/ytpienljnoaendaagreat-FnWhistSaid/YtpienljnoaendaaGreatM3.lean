/- Contracts: sorted lists, orders of the numbers below another, lists of these, on both sides. And what follows. -/
import Derived.Test.YtpienljnoaendaaGreatM2
import Derived.Lib.SlicesCompact
import Derived.Shelf.SlicesG.CompactI
import Derived.Sort.OwnSortedInts
set_option linter.unusedSimpArgs false
set_option linter.unusedVariables false
section
set_option maxRecDepth 100000
set_option maxHeartbeats 2000000
namespace Go.Proofs.YtpienljnoaendaaGreat.A
open Go Go.Abs Go.RowKit
theorem size_c (v : Value) (y : List Int) (H : AH) (hv : Rd 1 H v y.length y) (hy : y.length ≤ 4294967296) : ACalls Tryz.prog 126 [v] H (is (.int .i64 y.length) H) := by
  refine acalls_of_awp [.tmp 2] Tryz.func126 (by kernel_rfl) rfl rfl (Nat.le_of_ble_eq_true rfl) (by kernel_rfl) ?_
  try simp (disch := first | omega | (simp only [ints_length, List.length_replicate, List.length_set, sortedL_length, bools_length, metL_length] <;> omega)) only [Sall,evalOp,init,binA_s,binE,binI,unE,convE,okNil,builtE,gv,TD.isAgg,resV,↓reduceIte,Nat.reduceEqDiff,reduceCtorEq,Nat.reduceAdd,Nat.reduceMul,Nat.reduceLeDiff,quietOp,blindOp,Int.reduceEq,Int.reduceLT,Int.reduceLE,Nat.reduceLT,tiA, builtE, hv.len, is]
theorem evo_nilF (t : T) : evo t (.const .nilFunc) = some .nilFunc := (rfl)
theorem values_c (v : Value) (H : AH) (ho : v.oneCell' = true) :
    ACalls Tryz.prog 208 [v] H (is (.func (.func 280) #[] #[.pointer (some ⟨H.next, 0, none⟩)]) (H.push ⟨33, true, [v]⟩)) := by
  refine acalls_of_awp [.tmp 2] Tryz.func208 (by kernel_rfl) rfl rfl (Nat.le_of_ble_eq_true rfl) (by kernel_rfl) ?_
  try simp (disch := first | omega | (simp only [ints_length, List.length_replicate, List.length_set, sortedL_length, bools_length, metL_length] <;> omega)) only [Sall,evalOp,init,binA_s,binE,binI,unE,convE,okNil,builtE,gv,TD.isAgg,resV,↓reduceIte,Nat.reduceEqDiff,reduceCtorEq,Nat.reduceAdd,Nat.reduceMul,Nat.reduceLeDiff,quietOp,blindOp,Int.reduceEq,Int.reduceLT,Int.reduceLE,Nat.reduceLT,tiA, ho, asCells_one ho, evo_nilF, List.mem_cons, List.not_mem_nil, or_false, forall_eq_or_imp, forall_eq, Array.size_empty, is]
theorem isOrder_c (n : Nat) (v : Value) (y : List Int) (H : AH) (hv : Rd 1 H v y.length y) (hy : y.length ≤ 4294967296) :
    ACalls Tryz.prog 159 [v, .int .i64 n] H (is (.bool (ordB n y)) H) := by
  refine acalls_up rfl (ACalls.wf (by kernel_rfl) fun hs => acalls_of_awp [.tmp 4] Tryz.func159 (by kernel_rfl) rfl rfl (Nat.le_of_ble_eq_true rfl) (by kernel_rfl) ?_)
  try simp (disch := first | omega | (simp only [ints_length, List.length_replicate, List.length_set, sortedL_length, bools_length, metL_length] <;> omega)) only [Sall,evalOp,init,binA_s,binE,binI,unE,convE,okNil,builtE,gv,TD.isAgg,resV,↓reduceIte,Nat.reduceEqDiff,reduceCtorEq,Nat.reduceAdd,Nat.reduceMul,Nat.reduceLeDiff,quietOp,blindOp,Int.reduceEq,Int.reduceLT,Int.reduceLE,Nat.reduceLT,tiA, true_and]
  refine (values_c v H hv.one).to ?_
  try simp (disch := first | omega | (simp only [ints_length, List.length_replicate, List.length_set, sortedL_length, bools_length, metL_length] <;> omega)) only [Sall,evalOp,init,binA_s,binE,binI,unE,convE,okNil,builtE,gv,TD.isAgg,resV,↓reduceIte,Nat.reduceEqDiff,reduceCtorEq,Nat.reduceAdd,Nat.reduceMul,Nat.reduceLeDiff,quietOp,blindOp,Int.reduceEq,Int.reduceLT,Int.reduceLE,Nat.reduceLT,tiA, true_and]
  have up : Up H.next H (H.push ⟨33, true, [v]⟩) := (Up.refl _ H).push (Nat.le_refl _) _
  have e1 : (H.push ⟨33, true, [v]⟩).row H.next = some ⟨33, true, [v]⟩ := by rw [AH.push_row, if_pos rfl]
  have n1 : (H.push ⟨33, true, [v]⟩).next = H.next + 1 := rfl
  revert up e1 n1
  generalize H.push ⟨33, true, [v]⟩ = H1
  intro up e1 n1
  refine (sorted_c H.next v y H1 e1 (hv.same (up.le hs).row) hy).mono ?_
  rintro u H2 ⟨up2, hf⟩
  have hl2 := sortedL_length y
  have u2 : Up H.next H H2 := up.trans up2 (by omega)
  refine Holds.mp ?_
  try simp (disch := first | omega | (simp only [ints_length, List.length_replicate, List.length_set, sortedL_length, bools_length, metL_length] <;> omega)) only [Sall,evalOp,init,binA_s,binE,binI,unE,convE,okNil,builtE,gv,TD.isAgg,resV,↓reduceIte,Nat.reduceEqDiff,reduceCtorEq,Nat.reduceAdd,Nat.reduceMul,Nat.reduceLeDiff,quietOp,blindOp,Int.reduceEq,Int.reduceLT,Int.reduceLE,Nat.reduceLT,tiA, builtE, hf.rd.len]
  refine awp_loop (fun m t H' => ∃ a : Nat, m = y.length - a ∧ a ≤ y.length ∧ t 13 = .int .i64 a ∧ t 12 = .int .i64 y.length ∧ t 11 = u ∧ t 0 = v ∧ t 1 = .int .i64 n ∧ H' = H2 ∧ (∀ i, i < a → (sortedL y).getD i 0 = (i : Int))) y.length ?_ ?_
  · refine ⟨0, by omega, by omega, ?_⟩
    try simp (disch := first | omega | (simp only [ints_length, List.length_replicate, List.length_set, sortedL_length, bools_length, metL_length] <;> omega)) only [Sall,evalOp,init,binA_s,binE,binI,unE,convE,okNil,builtE,gv,TD.isAgg,resV,↓reduceIte,Nat.reduceEqDiff,reduceCtorEq,Nat.reduceAdd,Nat.reduceMul,Nat.reduceLeDiff,quietOp,blindOp,Int.reduceEq,Int.reduceLT,Int.reduceLE,Nat.reduceLT,tiA, Int.natCast_zero, Nat.not_lt_zero, false_implies]
  · rintro m t H' ⟨a, hm, han, h13, h12, h11, h0, h1, rfl, hall⟩
    try simp (disch := first | omega | (simp only [ints_length, List.length_replicate, List.length_set, sortedL_length, bools_length, metL_length] <;> omega)) only [Sall,evalOp,init,binA_s,binE,binI,unE,convE,okNil,builtE,gv,TD.isAgg,resV,↓reduceIte,Nat.reduceEqDiff,reduceCtorEq,Nat.reduceAdd,Nat.reduceMul,Nat.reduceLeDiff,quietOp,blindOp,Int.reduceEq,Int.reduceLT,Int.reduceLE,Nat.reduceLT,tiA, h13, h12]
    refine condC_dec (fun h => ?_) (fun h => ?_)
    · obtain ⟨i, o, uu, cc, r, rfl, hr, _, hg, _⟩ := hf.rd.get (by omega)
      have g1 := hg a (by omega)
      by_cases hx : (sortedL y).getD a 0 = (a : Int)
      · have e2 : ((sortedL y).getD a 0 != (a : Int)) = false := by rw [hx]; exact bne_self_eq_false _
        try simp (disch := first | omega | (simp only [ints_length, List.length_replicate, List.length_set, sortedL_length, bools_length, metL_length] <;> omega)) only [Sall,evalOp,init,binA_s,binE,binI,unE,convE,okNil,builtE,gv,TD.isAgg,resV,↓reduceIte,Nat.reduceEqDiff,reduceCtorEq,Nat.reduceAdd,Nat.reduceMul,Nat.reduceLeDiff,quietOp,blindOp,Int.reduceEq,Int.reduceLT,Int.reduceLE,Nat.reduceLT,tiA, h13, h12, h11, h0, h1, hr, g1, e2, w64]
        (repeat refine And.intro (by omega) ?_)
        refine ⟨y.length - (a + 1), by omega, a + 1, rfl, by omega, rfl, fun i hi => ?_⟩
        by_cases e : i = a
        · rw [e]; exact hx
        · exact hall i (by omega)
      · have e2 : ((sortedL y).getD a 0 != (a : Int)) = true := bne_iff_ne.2 hx
        try simp (disch := first | omega | (simp only [ints_length, List.length_replicate, List.length_set, sortedL_length, bools_length, metL_length] <;> omega)) only [Sall,evalOp,init,binA_s,binE,binI,unE,convE,okNil,builtE,gv,TD.isAgg,resV,↓reduceIte,Nat.reduceEqDiff,reduceCtorEq,Nat.reduceAdd,Nat.reduceMul,Nat.reduceLeDiff,quietOp,blindOp,Int.reduceEq,Int.reduceLT,Int.reduceLE,Nat.reduceLT,tiA, h13, h12, h11, h0, h1, hr, g1, e2, w64]
        (repeat refine And.intro (by omega) ?_)
        rw [ordB_sorted_bad (by omega) hx]
        exact ⟨rfl, u2⟩
    · try simp (disch := first | omega | (simp only [ints_length, List.length_replicate, List.length_set, sortedL_length, bools_length, metL_length] <;> omega)) only [Sall,evalOp,init,binA_s,binE,binI,unE,convE,okNil,builtE,gv,TD.isAgg,resV,↓reduceIte,Nat.reduceEqDiff,reduceCtorEq,Nat.reduceAdd,Nat.reduceMul,Nat.reduceLeDiff,quietOp,blindOp,Int.reduceEq,Int.reduceLT,Int.reduceLE,Nat.reduceLT,tiA, h0, h1]
      have ha : a = y.length := by omega
      subst ha
      refine (size_c v y H' (hv.same (u2.le hs).row) hy).to ?_
      try simp (disch := first | omega | (simp only [ints_length, List.length_replicate, List.length_set, sortedL_length, bools_length, metL_length] <;> omega)) only [Sall,evalOp,init,binA_s,binE,binI,unE,convE,okNil,builtE,gv,TD.isAgg,resV,↓reduceIte,Nat.reduceEqDiff,reduceCtorEq,Nat.reduceAdd,Nat.reduceMul,Nat.reduceLeDiff,quietOp,blindOp,Int.reduceEq,Int.reduceLT,Int.reduceLE,Nat.reduceLT,tiA, h1]
      rw [ordB_sorted_all hall]
      refine ⟨?_, u2⟩
      by_cases e : y.length = n
      · rw [decide_eq_true e, e]; simp
      · rw [decide_eq_false e]; simp; omega
theorem l01Order_c (n : Nat) (hn : n ≤ 1024) (v : Value) (y : List Int) (H : AH) (hv : Rd 1 H v y.length y) (hy : y.length ≤ 4294967296) :
    ACalls Tryz.prog 160 [v, .int .i64 n] H (is (.bool (ordB n y)) H) := by
  refine acalls_up rfl (ACalls.wf (by kernel_rfl) fun hs => acalls_of_awp [.tmp 4] Tryz.func160 (by kernel_rfl) rfl rfl (Nat.le_of_ble_eq_true rfl) (by kernel_rfl) ?_)
  try simp (disch := first | omega | (simp only [ints_length, List.length_replicate, List.length_set, sortedL_length, bools_length, metL_length] <;> omega)) only [Sall,evalOp,init,binA_s,binE,binI,unE,convE,okNil,builtE,gv,TD.isAgg,resV,↓reduceIte,Nat.reduceEqDiff,reduceCtorEq,Nat.reduceAdd,Nat.reduceMul,Nat.reduceLeDiff,quietOp,blindOp,Int.reduceEq,Int.reduceLT,Int.reduceLE,Nat.reduceLT,tiA, zeros_bools, ← metL_nil]
  (repeat refine And.intro (by omega) ?_)
  have hml := metL_length n []
  refine awp_loop (fun m t H' => ∃ a : Nat, m = y.length - a ∧ a ≤ y.length ∧ t 6 = .int .i64 a ∧ t 5 = .slice (some ⟨H.next, 0, some 1⟩) n n ∧ t 0 = v ∧ t 1 = .int .i64 n ∧ H.next < H'.next ∧ (∀ i, i < H.next → H'.row i = H.row i) ∧ H'.row H.next = some ⟨4, true, bools (metL n (y.take a))⟩ ∧ goodTo n y a) y.length ?_ ?_
  · refine ⟨0, by omega, by omega, ?_⟩
    try simp (disch := first | omega | (simp only [ints_length, List.length_replicate, List.length_set, sortedL_length, bools_length, metL_length] <;> omega)) only [Sall,evalOp,init,binA_s,binE,binI,unE,convE,okNil,builtE,gv,TD.isAgg,resV,↓reduceIte,Nat.reduceEqDiff,reduceCtorEq,Nat.reduceAdd,Nat.reduceMul,Nat.reduceLeDiff,quietOp,blindOp,Int.reduceEq,Int.reduceLT,Int.reduceLE,Nat.reduceLT,tiA, Int.natCast_zero, List.take_zero]
    refine ⟨by omega, fun i hi => by rw [if_neg (by omega)], goodTo_zero n y⟩
  · rintro m t H' ⟨a, hm, han, h6, h5, h0, h1, hnx, hrows, hrow, hgood⟩
    have hv' : Rd 1 H' v y.length y := hv.same fun i r hr => by rw [hrows i (hs _ _ hr)]; exact hr
    have up : Up H.next H H' := ⟨by omega, hrows⟩
    try simp (disch := first | omega | (simp only [ints_length, List.length_replicate, List.length_set, sortedL_length, bools_length, metL_length] <;> omega)) only [Sall,evalOp,init,binA_s,binE,binI,unE,convE,okNil,builtE,gv,TD.isAgg,resV,↓reduceIte,Nat.reduceEqDiff,reduceCtorEq,Nat.reduceAdd,Nat.reduceMul,Nat.reduceLeDiff,quietOp,blindOp,Int.reduceEq,Int.reduceLT,Int.reduceLE,Nat.reduceLT,tiA, h6, h0, builtE, hv'.len]
    refine condC_dec (fun h => ?_) (fun h => ?_)
    · obtain ⟨i, o, uu, cc, r, rfl, hr, hc, hg, _⟩ := hv'.get (by omega)
      have g1 := hg a (by omega)
      obtain ⟨x, hx⟩ : ∃ x, x = y.getD a 0 := ⟨_, rfl⟩
      rw [← hx] at g1
      by_cases hin : 0 ≤ x ∧ x ≤ (n : Int) - 1
      · have hin' : 0 ≤ x ∧ x < (n : Int) := by omega
        have g2 := metL_get? n (y.take a) x hin'
        have g3 := metL_put n (y.take a) x hin'
        try simp (disch := first | omega | (simp only [ints_length, List.length_replicate, List.length_set, sortedL_length, bools_length, metL_length] <;> omega)) only [Sall,evalOp,init,binA_s,binE,binI,unE,convE,okNil,builtE,gv,TD.isAgg,resV,↓reduceIte,Nat.reduceEqDiff,reduceCtorEq,Nat.reduceAdd,Nat.reduceMul,Nat.reduceLeDiff,quietOp,blindOp,Int.reduceEq,Int.reduceLT,Int.reduceLE,Nat.reduceLT,tiA, h6, h0, h1, hr, g1, w64]
        (repeat refine And.intro (by omega) ?_)
        refine (l01In_c _ _ _ _).to ?_
        rw [decide_eq_true hin]
        cases hct : (y.take a).contains x with
        | true =>
          rw [hct] at g2
          try simp (disch := first | omega | (simp only [ints_length, List.length_replicate, List.length_set, sortedL_length, bools_length, metL_length] <;> omega)) only [Sall,evalOp,init,binA_s,binE,binI,unE,convE,okNil,builtE,gv,TD.isAgg,resV,↓reduceIte,Nat.reduceEqDiff,reduceCtorEq,Nat.reduceAdd,Nat.reduceMul,Nat.reduceLeDiff,quietOp,blindOp,Int.reduceEq,Int.reduceLT,Int.reduceLE,Nat.reduceLT,tiA, Bool.not_true, h6, h5, h0, h1, hr, g1, hrow, g2, w64]
          (repeat refine And.intro (by omega) ?_)
          rw [ordB_bad (i := a) (by omega) (.inr (by rw [← hx]; exact hct))]
          exact ⟨rfl, up⟩
        | false =>
          rw [hct] at g2
          have ne : ¬ i = H.next := by
            rintro rfl
            rw [hrow] at hr
            cases hr
            rcases hv.2 with ⟨h9, _⟩ | ⟨i9, o9, u9, c9, r9, e9, hr9, _⟩
            · omega
            · cases e9
              have := hs _ _ hr9
              omega
          try simp (disch := first | omega | (simp only [ints_length, List.length_replicate, List.length_set, sortedL_length, bools_length, metL_length] <;> omega)) only [Sall,evalOp,init,binA_s,binE,binI,unE,convE,okNil,builtE,gv,TD.isAgg,resV,↓reduceIte,Nat.reduceEqDiff,reduceCtorEq,Nat.reduceAdd,Nat.reduceMul,Nat.reduceLeDiff,quietOp,blindOp,Int.reduceEq,Int.reduceLT,Int.reduceLE,Nat.reduceLT,tiA, Bool.not_true, h6, h5, h0, h1, hr, g1, hrow, g2, g3, ne, w64]
          (repeat refine And.intro (by omega) ?_)
          refine ⟨by rw [bools_length, metL_length]; omega, y.length - (a + 1), by omega, a + 1, rfl, by omega, rfl, hnx, fun i hi => by rw [if_neg (by omega)]; exact hrows i hi, by rw [take_snoc y 0 a (by omega), ← hx], goodTo_succ (by omega) hgood (by rw [← hx]; exact hin') (by rw [← hx]; exact hct)⟩
      · try simp (disch := first | omega | (simp only [ints_length, List.length_replicate, List.length_set, sortedL_length, bools_length, metL_length] <;> omega)) only [Sall,evalOp,init,binA_s,binE,binI,unE,convE,okNil,builtE,gv,TD.isAgg,resV,↓reduceIte,Nat.reduceEqDiff,reduceCtorEq,Nat.reduceAdd,Nat.reduceMul,Nat.reduceLeDiff,quietOp,blindOp,Int.reduceEq,Int.reduceLT,Int.reduceLE,Nat.reduceLT,tiA, h6, h0, h1, hr, g1, w64]
        (repeat refine And.intro (by omega) ?_)
        refine (l01In_c _ _ _ _).to ?_
        rw [decide_eq_false hin]
        try simp (disch := first | omega | (simp only [ints_length, List.length_replicate, List.length_set, sortedL_length, bools_length, metL_length] <;> omega)) only [Sall,evalOp,init,binA_s,binE,binI,unE,convE,okNil,builtE,gv,TD.isAgg,resV,↓reduceIte,Nat.reduceEqDiff,reduceCtorEq,Nat.reduceAdd,Nat.reduceMul,Nat.reduceLeDiff,quietOp,blindOp,Int.reduceEq,Int.reduceLT,Int.reduceLE,Nat.reduceLT,tiA, Bool.not_false]
        rw [ordB_bad (i := a) (by omega) (.inl (by rw [← hx]; omega))]
        exact ⟨rfl, up⟩
    · have ha : a = y.length := by omega
      subst ha
      try simp (disch := first | omega | (simp only [ints_length, List.length_replicate, List.length_set, sortedL_length, bools_length, metL_length] <;> omega)) only [Sall,evalOp,init,binA_s,binE,binI,unE,convE,okNil,builtE,gv,TD.isAgg,resV,↓reduceIte,Nat.reduceEqDiff,reduceCtorEq,Nat.reduceAdd,Nat.reduceMul,Nat.reduceLeDiff,quietOp,blindOp,Int.reduceEq,Int.reduceLT,Int.reduceLE,Nat.reduceLT,tiA, h0, h1, builtE, hv'.len]
      rw [goodTo_all hgood]
      refine ⟨?_, up⟩
      by_cases e : y.length = n
      · rw [decide_eq_true e, e]; simp
      · rw [decide_eq_false e]; simp; omega
end Go.Proofs.YtpienljnoaendaaGreat.A
end

section
set_option maxRecDepth 100000
set_option maxHeartbeats 2000000
namespace Go.Proofs.YtpienljnoaendaaGreat.A
open Go Go.Abs Go.RowKit
end Go.Proofs.YtpienljnoaendaaGreat.A
end

section
set_option maxRecDepth 100000
set_option maxHeartbeats 2000000
namespace Go.Proofs.YtpienljnoaendaaGreat.A
open Go Go.Abs Go.RowKit
theorem Ow.rebase {cv : Value} {nb si : Nat} {H H1 B H' : AH} {L : List Th} (o : Ow B H' L) (up : Up H.next H H1) (k : SrcB cv nb si H1 B) (hsi : H.next ≤ si) : Ow H H' L := by
  obtain ⟨w, hw⟩ := o.own
  have h1 := up.next
  have h2 := k.next
  have h3 := o.next
  refine ⟨o.sc, by omega, fun i hi => by rw [o.low i (by omega), k.row i (by omega), up.row i hi], w, fun j q hj => q.loc H' H' _ _ (fun i hi => ⟨by omega, hi.2⟩) (fun _ _ _ h => h) (hw j q hj)⟩
theorem CodeX.of {cv : Value} {nb : Nat} {H H1 : AH} (h : CodeOk H cv nb) (hs : Sc H) (up : Up H.next H H1) : CodeX cv nb H.next H1 := fun H' hk => by
  rcases h with ⟨q1, q2⟩ | ⟨i, o, u, c, r, q1, q2, q3⟩
  · exact .inl ⟨q1, q2⟩
  · have := hs _ _ q2
    exact .inr ⟨i, o, u, c, r, q1, hk _ _ (by omega) (by rw [up.row i this]; exact q2), q3⟩
theorem CodeOk.up {cv : Value} {nb : Nat} {H H1 : AH} (h : CodeOk H cv nb) (hs : ∀ i r, H.row i = some r → H1.row i = some r) : CodeOk H1 cv nb := by
  rcases h with ⟨q1, q2⟩ | ⟨i, o, u, c, r, q1, q2, q3⟩
  · exact .inl ⟨q1, q2⟩
  · exact .inr ⟨i, o, u, c, r, q1, hs _ _ q2, q3⟩
end Go.Proofs.YtpienljnoaendaaGreat.A
end

section
set_option maxRecDepth 100000
set_option maxHeartbeats 2000000
namespace Go.Proofs.YtpienljnoaendaaGreat.A
open Go Go.Abs Go.RowKit
theorem big_c (cv : Value) (nb : Nat) (H : AH) (hc : CodeOk H cv nb) : ACalls Tryz.prog 8 [cv] H (is (.bool (decide (4096 < (nb : Int)))) H) := by
  refine acalls_of_awp [.tmp 2] Tryz.func8 (by kernel_rfl) rfl rfl (Nat.le_of_ble_eq_true rfl) (by kernel_rfl) ?_
  have hln := hc.len
  try simp (disch := first | omega | (simp only [L3] <;> omega)) only [Sall,evalOp,init,binA_s,binE,binI,unE,convE,okNil,builtE,gv,TD.isAgg,resV,↓reduceIte,Nat.reduceEqDiff,reduceCtorEq,Nat.reduceAdd,Nat.reduceMul,Nat.reduceLeDiff,quietOp,blindOp,Int.reduceEq,Int.reduceLT,Int.reduceLE,Nat.reduceLT,tiA,tiXA, hln, builtE]
  exact ⟨rfl, rfl⟩
theorem likeInts_c (a b : Value) (n : Nat) (l : List Int) (H : AH) (hn : n ≤ 4294967296) (ha : Rd 1 H a n l) (hb : Rd 1 H b n l) : ACalls Tryz.prog 27 [a, b] H (is (.bool true) H) := by
  refine acalls_of_awp [.tmp 4] Tryz.func27 (by kernel_rfl) rfl rfl (Nat.le_of_ble_eq_true rfl) (by kernel_rfl) ?_
  have la := ha.len
  have lb := hb.len
  try simp (disch := first | omega | (simp only [L3] <;> omega)) only [Sall,evalOp,init,binA_s,binE,binI,unE,convE,okNil,builtE,gv,TD.isAgg,resV,↓reduceIte,Nat.reduceEqDiff,reduceCtorEq,Nat.reduceAdd,Nat.reduceMul,Nat.reduceLeDiff,quietOp,blindOp,Int.reduceEq,Int.reduceLT,Int.reduceLE,Nat.reduceLT,tiA,tiXA, la, lb, builtE, bne_self_eq_false]
  refine awp_loop (fun z t H' => H' = H ∧ ∃ j : Nat, z = n - j ∧ j ≤ n ∧ t 5 = .int .i64 j ∧ t 0 = a ∧ t 1 = b) n ?_ ?_
  · refine ⟨rfl, 0, by omega, by omega, ?_⟩
    try simp (disch := first | omega | (simp only [L3] <;> omega)) only [Sall,evalOp,init,binA_s,binE,binI,unE,convE,okNil,builtE,gv,TD.isAgg,resV,↓reduceIte,Nat.reduceEqDiff,reduceCtorEq,Nat.reduceAdd,Nat.reduceMul,Nat.reduceLeDiff,quietOp,blindOp,Int.reduceEq,Int.reduceLT,Int.reduceLE,Nat.reduceLT,tiA,tiXA, Int.natCast_zero]
  · rintro z t H' ⟨rfl, j, hz, hj, h5, h0, h1⟩
    try simp (disch := first | omega | (simp only [L3] <;> omega)) only [Sall,evalOp,init,binA_s,binE,binI,unE,convE,okNil,builtE,gv,TD.isAgg,resV,↓reduceIte,Nat.reduceEqDiff,reduceCtorEq,Nat.reduceAdd,Nat.reduceMul,Nat.reduceLeDiff,quietOp,blindOp,Int.reduceEq,Int.reduceLT,Int.reduceLE,Nat.reduceLT,tiA,tiXA, h5, h0, la, builtE]
    refine condC_dec (fun hh => ?_) (fun hh => ?_)
    · obtain ⟨ai, ao, au, ac, ar, rfl, a1, a2, a3, a4⟩ := ha.get (by omega)
      obtain ⟨bi, bo, bu, bc, br, rfl, b1, b2, b3, b4⟩ := hb.get (by omega)
      have a5 := a3 j (by omega)
      have b5 := b3 j (by omega)
      try simp (disch := first | omega | (simp only [L3] <;> omega)) only [Sall,evalOp,init,binA_s,binE,binI,unE,convE,okNil,builtE,gv,TD.isAgg,resV,↓reduceIte,Nat.reduceEqDiff,reduceCtorEq,Nat.reduceAdd,Nat.reduceMul,Nat.reduceLeDiff,quietOp,blindOp,Int.reduceEq,Int.reduceLT,Int.reduceLE,Nat.reduceLT,tiA,tiXA, h5, h0, h1]
      refine draw_id (by kernel_rfl) (by kernel_rfl) ?_
      try simp (disch := first | omega | (simp only [L3] <;> omega)) only [Sall,evalOp,init,binA_s,binE,binI,unE,convE,okNil,builtE,gv,TD.isAgg,resV,↓reduceIte,Nat.reduceEqDiff,reduceCtorEq,Nat.reduceAdd,Nat.reduceMul,Nat.reduceLeDiff,quietOp,blindOp,Int.reduceEq,Int.reduceLT,Int.reduceLE,Nat.reduceLT,tiA,tiXA, h5, h0, h1, a1, a5, b1, b5, bne_self_eq_false, w64]
      (repeat refine And.intro (by omega) ?_)
      try simp (disch := first | omega | (simp only [L3] <;> omega)) only [Sall,evalOp,init,binA_s,binE,binI,unE,convE,okNil,builtE,gv,TD.isAgg,resV,↓reduceIte,Nat.reduceEqDiff,reduceCtorEq,Nat.reduceAdd,Nat.reduceMul,Nat.reduceLeDiff,quietOp,blindOp,Int.reduceEq,Int.reduceLT,Int.reduceLE,Nat.reduceLT,tiA,tiXA, h5, h0, h1, a1, a5, b1, b5, bne_self_eq_false, w64]
      exact ⟨n - (j + 1), by omega, j + 1, rfl, by omega, rfl⟩
    · try simp (disch := first | omega | (simp only [L3] <;> omega)) only [Sall,evalOp,init,binA_s,binE,binI,unE,convE,okNil,builtE,gv,TD.isAgg,resV,↓reduceIte,Nat.reduceEqDiff,reduceCtorEq,Nat.reduceAdd,Nat.reduceMul,Nat.reduceLeDiff,quietOp,blindOp,Int.reduceEq,Int.reduceLT,Int.reduceLE,Nat.reduceLT,tiA,tiXA, true_and]
      exact ⟨rfl, rfl⟩
structure Dr (cv : Value) (nb : Nat) (H H1 H' : AH) (L : List Th) : Prop where
  ex : ∃ B, SrcB cv nb H.next H1 B ∧ Ow B H' L
section
variable {cv : Value} {nb : Nat} {H H1 H' : AH} {L : List Th}
theorem Dr.src (h : Dr cv nb H H1 H' L) (hn : H.next < H1.next) : Src cv nb H.next H' := by
  obtain ⟨B, b, o⟩ := h.ex; exact Ow.srcAt o b hn
theorem Dr.code (h : Dr cv nb H H1 H' L) (hx : CodeX cv nb H.next H1) (sc : Sc H1) : CodeX cv nb H.next H' := by
  obtain ⟨B, b, o⟩ := h.ex; exact hx.later fun i r hi hr => Ow.oldX o b sc i r hi hr
theorem Dr.sc (h : Dr cv nb H H1 H' L) : Sc H' := by obtain ⟨B, b, o⟩ := h.ex; exact o.sc
theorem Dr.next (h : Dr cv nb H H1 H' L) (hn : H.next < H1.next) {H2 : AH} (k : SrcB cv nb H.next H' H2) : Dr cv nb H H1 H2 L := by
  obtain ⟨B, b, o⟩ := h.ex
  obtain ⟨B2, b2, o2⟩ := Ow.src o (by rw [b.next]; exact hn) k
  exact ⟨B2, b.trans b2, o2⟩
theorem Dr.call (h : Dr cv nb H H1 H' L) (hn : H.next < H1.next) {H2 H3 : AH} {M : List Th} (k : SrcB cv nb H.next H' H2) (o3 : Ow H2 H3 M) : Dr cv nb H H1 H3 (L ++ M) := by
  obtain ⟨B, b, o⟩ := h.ex
  obtain ⟨B2, b2, o2⟩ := Ow.srcCall o (by rw [b.next]; exact hn) k o3
  exact ⟨B2, b.trans b2, o2⟩
theorem Dr.calls (h : Dr cv nb H H1 H' L) {H3 : AH} {M : List Th} (o3 : Ow H' H3 M) : Dr cv nb H H1 H3 (L ++ M) := by
  obtain ⟨B, b, o⟩ := h.ex
  exact ⟨B, b, o.call o3⟩
theorem Dr.map (h : Dr cv nb H H1 H' L) {H2 : AH} {M : List Th} (f : ∀ B, Ow B H' L → Ow B H2 M) : Dr cv nb H H1 H2 M := by
  obtain ⟨B, b, o⟩ := h.ex
  exact ⟨B, b, f B o⟩
theorem Dr.fin (h : Dr cv nb H H1 H' L) (up : Up H.next H H1) : Ow H H' L := by
  obtain ⟨B, b, o⟩ := h.ex
  exact Ow.rebase o up b (Nat.le_refl _)
end
end Go.Proofs.YtpienljnoaendaaGreat.A
end

section
set_option maxRecDepth 100000
set_option maxHeartbeats 2000000
namespace Go.Proofs.YtpienljnoaendaaGreat.A
open Go Go.Abs Go.RowKit
theorem condC_cut {P : Program} {A : Code} {Q : Exit → T → AH → Prop} {N : T → AH → Prop} {t : T} {H : AH} {b : Bool} (M : T → AH → Prop) (hf : b = false → M t H) (ht : b = true → awp P A (seqQ M Q) t H) (hN : ∀ t H, M t H → N t H) :
    condC (some (.bool b)) (awp P A (seqQ N Q) t H) (N t H) := by
  cases b with
  | false => exact hN _ _ (hf rfl)
  | true => exact awp_mono A _ _ t H (seqQ_mono hN fun _ _ _ h => h) (ht rfl)
end Go.Proofs.YtpienljnoaendaaGreat.A
end

section
set_option maxRecDepth 100000
set_option maxHeartbeats 2000000
namespace Go.Proofs.YtpienljnoaendaaGreat.A
open Go Go.Abs Go.RowKit
theorem sizeR_c (v : Value) (k : Nat) (l : List Int) (H : AH) (hv : Rd 14 H v k l) (hk : k ≤ 4294967296) : ACalls Tryz.prog 192 [v] H (is (.int .i64 k) H) := by
  refine acalls_of_awp [.tmp 2] Tryz.func192 (by kernel_rfl) rfl rfl (Nat.le_of_ble_eq_true rfl) (by kernel_rfl) ?_
  try simp (disch := first | omega | (simp only [L3] <;> omega)) only [Sall,evalOp,init,binA_s,binE,binI,unE,convE,okNil,builtE,gv,TD.isAgg,resV,↓reduceIte,Nat.reduceEqDiff,reduceCtorEq,Nat.reduceAdd,Nat.reduceMul,Nat.reduceLeDiff,quietOp,blindOp,Int.reduceEq,Int.reduceLT,Int.reduceLE,Nat.reduceLT,tiA, builtE, hv.len, is]
theorem isRoundRobin_c (n : Nat) (v : Value) (k : Nat) (l : List Int) (H : AH) (hb : schedB n k l = true) (hv : Rd 14 H v k l) (hk : k ≤ 4294967296) :
    ACalls Tryz.prog 132 [.agg #[.int .i64 n, v]] H (is (.bool (robinB n k l)) H) := by
  refine ACalls.wf (by kernel_rfl) fun hs => acalls_up rfl (acalls_of_awp [.tmp 2] Tryz.func132 (by kernel_rfl) rfl rfl (Nat.le_of_ble_eq_true rfl) (by kernel_rfl) ?_)
  obtain ⟨hn, hk40, hrounds⟩ := schedB_at hb
  have hone := hv.one
  have em : Int.tmod (n : Int) 2 = ((n % 2 : Nat) : Int) := rfl
  have up : Up H.next H (H.push ⟨26, true, [.int .i64 n, v]⟩) := (Up.refl _ H).push (Nat.le_refl _) _
  have e1 : (H.push ⟨26, true, [.int .i64 n, v]⟩).row H.next = some ⟨26, true, [.int .i64 n, v]⟩ := by rw [AH.push_row, if_pos rfl]
  have n1 : (H.push ⟨26, true, [.int .i64 n, v]⟩).next = H.next + 1 := rfl
  try simp (disch := first | omega | (simp only [L3] <;> omega)) only [Sall,evalOp,init,binA_s,binE,binI,unE,convE,okNil,builtE,gv,TD.isAgg,resV,↓reduceIte,Nat.reduceEqDiff,reduceCtorEq,Nat.reduceAdd,Nat.reduceMul,Nat.reduceLeDiff,quietOp,blindOp,Int.reduceEq,Int.reduceLT,Int.reduceLE,Nat.reduceLT,tiA, hone]
  revert up e1 n1
  generalize H.push ⟨26, true, [.int .i64 n, v]⟩ = H1
  intro up e1 n1
  have hv1 := hv.same (up.le hs).row
  refine draw_in [0, 1, 3, 4, 5, 6, 7, 8, 9, 2, 10] (by kernel_rfl) (by kernel_rfl) rfl ?_
  have two : ((2 : Int) = 0) = False := by simp
  try simp (disch := first | omega | (simp only [L3] <;> omega)) only [Sall,evalOp,init,binA_s,binE,binI,unE,convE,okNil,builtE,gv,TD.isAgg,resV,↓reduceIte,Nat.reduceEqDiff,reduceCtorEq,Nat.reduceAdd,Nat.reduceMul,Nat.reduceLeDiff,quietOp,blindOp,Int.reduceEq,Int.reduceLT,Int.reduceLE,Nat.reduceLT,tiA, e1, em, w64, two]
  refine (sizeR_c v k l H1 hv1 hk).to ?_
  refine ⟨.inr (.inr (LE.refl _)), ?_⟩
  by_cases hkn : k = n - 1 + n % 2
  · have e0 : ((k : Int) != (n : Int) - 1 + ((n % 2 : Nat) : Int)) = false := by rw [show (k : Int) = (n : Int) - 1 + ((n % 2 : Nat) : Int) by omega]; exact bne_self_eq_false _
    try simp (disch := first | omega | (simp only [L3] <;> omega)) only [Sall,evalOp,init,binA_s,binE,binI,unE,convE,okNil,builtE,gv,TD.isAgg,resV,↓reduceIte,Nat.reduceEqDiff,reduceCtorEq,Nat.reduceAdd,Nat.reduceMul,Nat.reduceLeDiff,quietOp,blindOp,Int.reduceEq,Int.reduceLT,Int.reduceLE,Nat.reduceLT,tiA, e0, e1]
    refine (meetings_c n v k l H1 hb hv1 hk).mono ?_
    rintro u H2 ⟨up2, hf⟩
    have hsq := meetM_sq n l k
    have hlen := hf.rd.len
    rw [hsq.1] at hlen
    have u2 : Up H.next H H2 := up.trans up2 (by omega)
    refine Holds.mp ?_
    try simp (disch := first | omega | (simp only [L3] <;> omega)) only [Sall,evalOp,init,binA_s,binE,binI,unE,convE,okNil,builtE,gv,TD.isAgg,resV,↓reduceIte,Nat.reduceEqDiff,reduceCtorEq,Nat.reduceAdd,Nat.reduceMul,Nat.reduceLeDiff,quietOp,blindOp,Int.reduceEq,Int.reduceLT,Int.reduceLE,Nat.reduceLT,tiA, builtE, hlen]
    refine awp_loop (fun m t H' => ∃ a : Nat, m = n - a ∧ a ≤ n ∧ t 21 = .int .i64 a ∧ t 20 = .int .i64 n ∧ t 19 = u ∧ H' = H2 ∧ (∀ i, i < a → ∀ j, j < n → balAt (meetM n l k) i j = true)) n ?_ ?_
    · refine ⟨0, by omega, by omega, ?_⟩
      try simp (disch := first | omega | (simp only [L3] <;> omega)) only [Sall,evalOp,init,binA_s,binE,binI,unE,convE,okNil,builtE,gv,TD.isAgg,resV,↓reduceIte,Nat.reduceEqDiff,reduceCtorEq,Nat.reduceAdd,Nat.reduceMul,Nat.reduceLeDiff,quietOp,blindOp,Int.reduceEq,Int.reduceLT,Int.reduceLE,Nat.reduceLT,tiA, Int.natCast_zero, Nat.not_lt_zero, false_implies]
    · rintro m t H' ⟨a, hm, h14, h21, h20, h19, rfl, hall⟩
      try simp (disch := first | omega | (simp only [L3] <;> omega)) only [Sall,evalOp,init,binA_s,binE,binI,unE,convE,okNil,builtE,gv,TD.isAgg,resV,↓reduceIte,Nat.reduceEqDiff,reduceCtorEq,Nat.reduceAdd,Nat.reduceMul,Nat.reduceLeDiff,quietOp,blindOp,Int.reduceEq,Int.reduceLT,Int.reduceLE,Nat.reduceLT,tiA, h21, h20]
      refine condC_dec (fun h => ?_) (fun h => ?_)
      · obtain ⟨i, o, u', c, r, y, my, rfl, hr, hy, hsx, hok⟩ := hf.rd.get (j := a) (by rw [hsq.1]; omega)
        have hmy := hsx.lenK1
        rw [hsq.2 a (by omega)] at hmy
        subst hmy
        have hMl := hsq.1
        try simp (disch := first | omega | (simp only [L3] <;> omega)) only [Sall,evalOp,init,binA_s,binE,binI,unE,convE,okNil,builtE,gv,TD.isAgg,resV,↓reduceIte,Nat.reduceEqDiff,reduceCtorEq,Nat.reduceAdd,Nat.reduceMul,Nat.reduceLeDiff,quietOp,blindOp,Int.reduceEq,Int.reduceLT,Int.reduceLE,Nat.reduceLT,tiA, h21, h20, h19, hr, hy, hok, builtE, hsx.len]
        (repeat refine And.intro (by omega) ?_)
        refine awp_loop (fun z t H7 => ∃ b : Nat, z = my - b ∧ b ≤ my ∧ t 28 = .int .i64 b ∧ t 27 = .int .i64 my ∧ t 26 = y ∧ t 3 = .int .i64 a ∧ t 21 = .int .i64 a ∧ t 20 = .int .i64 my ∧ t 19 = .slice (some ⟨i, o, u'⟩) (meetM my l k).length c ∧ H7 = H' ∧ (∀ j, j < b → balAt (meetM my l k) a j = true)) my ?_ ?_
        · refine ⟨0, by omega, by omega, ?_⟩
          try simp (disch := first | omega | (simp only [L3] <;> omega)) only [Sall,evalOp,init,binA_s,binE,binI,unE,convE,okNil,builtE,gv,TD.isAgg,resV,↓reduceIte,Nat.reduceEqDiff,reduceCtorEq,Nat.reduceAdd,Nat.reduceMul,Nat.reduceLeDiff,quietOp,blindOp,Int.reduceEq,Int.reduceLT,Int.reduceLE,Nat.reduceLT,tiA, Int.natCast_zero, Nat.not_lt_zero, false_implies, h21, h20, h19]
        · rintro z t H7 ⟨b, hz, hbn, h28, h27, h26, h3, h21, h20, h19, rfl, hin⟩
          try simp (disch := first | omega | (simp only [L3] <;> omega)) only [Sall,evalOp,init,binA_s,binE,binI,unE,convE,okNil,builtE,gv,TD.isAgg,resV,↓reduceIte,Nat.reduceEqDiff,reduceCtorEq,Nat.reduceAdd,Nat.reduceMul,Nat.reduceLeDiff,quietOp,blindOp,Int.reduceEq,Int.reduceLT,Int.reduceLE,Nat.reduceLT,tiA, h28, h27]
          refine condC_dec (fun hh => ?_) (fun hh => ?_)
          · obtain ⟨i7, o7, u7, c7, r7, rfl, hr7, hc7, hs7, hg7⟩ := hsx.get (by omega)
            have g1 := hs7 b (by omega)
            by_cases hab : a = b
            · have e2 : ((a : Int) != (b : Int)) = false := by rw [hab]; exact bne_self_eq_false _
              have hbal : balAt (meetM my l k) a b = true := by unfold balAt; rw [decide_eq_true hab]; rfl
              try simp (disch := first | omega | (simp only [L3] <;> omega)) only [Sall,evalOp,init,binA_s,binE,binI,unE,convE,okNil,builtE,gv,TD.isAgg,resV,↓reduceIte,Nat.reduceEqDiff,reduceCtorEq,Nat.reduceAdd,Nat.reduceMul,Nat.reduceLeDiff,quietOp,blindOp,Int.reduceEq,Int.reduceLT,Int.reduceLE,Nat.reduceLT,tiA, h28, h27, h26, h3, h21, h20, h19, hr7, g1, e2, w64]
              (repeat refine And.intro (by omega) ?_)
              refine ⟨my - (b + 1), by omega, b + 1, rfl, by omega, rfl, fun j hj => ?_⟩
              by_cases e : j = b
              · rw [e]; exact hbal
              · exact hin j (by omega)
            · have e2 : ((a : Int) != (b : Int)) = true := by rw [bne_iff_ne]; omega
              by_cases hx1 : ((meetM my l k).getD a []).getD b 0 = 1
              · have e3 : (((meetM my l k).getD a []).getD b 0 != 1) = false := by rw [hx1]; rfl
                have hbal : balAt (meetM my l k) a b = true := by unfold balAt; rw [hx1]; simp
                try simp (disch := first | omega | (simp only [L3] <;> omega)) only [Sall,evalOp,init,binA_s,binE,binI,unE,convE,okNil,builtE,gv,TD.isAgg,resV,↓reduceIte,Nat.reduceEqDiff,reduceCtorEq,Nat.reduceAdd,Nat.reduceMul,Nat.reduceLeDiff,quietOp,blindOp,Int.reduceEq,Int.reduceLT,Int.reduceLE,Nat.reduceLT,tiA, h28, h27, h26, h3, h21, h20, h19, hr7, g1, e2, e3, w64]
                (repeat refine And.intro (by omega) ?_)
                refine ⟨my - (b + 1), by omega, b + 1, rfl, by omega, rfl, fun j hj => ?_⟩
                by_cases e : j = b
                · rw [e]; exact hbal
                · exact hin j (by omega)
              · have e3 : (((meetM my l k).getD a []).getD b 0 != 1) = true := by rw [bne_iff_ne]; exact hx1
                have hbal : balAt (meetM my l k) a b = false := by
                  unfold balAt
                  rw [decide_eq_false hab, Bool.false_or]
                  exact beq_eq_false_iff_ne.2 hx1
                try simp (disch := first | omega | (simp only [L3] <;> omega)) only [Sall,evalOp,init,binA_s,binE,binI,unE,convE,okNil,builtE,gv,TD.isAgg,resV,↓reduceIte,Nat.reduceEqDiff,reduceCtorEq,Nat.reduceAdd,Nat.reduceMul,Nat.reduceLeDiff,quietOp,blindOp,Int.reduceEq,Int.reduceLT,Int.reduceLE,Nat.reduceLT,tiA, h28, h27, h26, h3, h21, h20, h19, hr7, g1, e2, e3, w64]
                (repeat refine And.intro (by omega) ?_)
                unfold robinB
                rw [balB_bad (i := a) (j := b) (by rw [hMl]; omega) (by rw [hsq.2 a (by omega)]; omega) hbal, Bool.and_false]
                exact ⟨rfl, u2⟩
          · try simp (disch := first | omega | (simp only [L3] <;> omega)) only [Sall,evalOp,init,binA_s,binE,binI,unE,convE,okNil,builtE,gv,TD.isAgg,resV,↓reduceIte,Nat.reduceEqDiff,reduceCtorEq,Nat.reduceAdd,Nat.reduceMul,Nat.reduceLeDiff,quietOp,blindOp,Int.reduceEq,Int.reduceLT,Int.reduceLE,Nat.reduceLT,tiA, h21, h20, h19, w64]
            refine ⟨my - (a + 1), by omega, a + 1, rfl, by omega, rfl, fun i hi j hj => ?_⟩
            by_cases e : i = a
            · rw [e]; exact hin j (by omega)
            · exact hall i (by omega) j hj
      · try simp (disch := first | omega | (simp only [L3] <;> omega)) only [Sall,evalOp,init,binA_s,binE,binI,unE,convE,okNil,builtE,gv,TD.isAgg,resV,↓reduceIte,Nat.reduceEqDiff,reduceCtorEq,Nat.reduceAdd,Nat.reduceMul,Nat.reduceLeDiff,quietOp,blindOp,Int.reduceEq,Int.reduceLT,Int.reduceLE,Nat.reduceLT,tiA, true_and]
        unfold robinB
        rw [decide_eq_true hkn, balB_good (fun i hi j hj => hall i (by rw [hsq.1] at hi; omega) j (by rw [hsq.1] at hi; rw [hsq.2 i hi] at hj; exact hj))]
        exact ⟨rfl, u2⟩
  · have e0 : ((k : Int) != (n : Int) - 1 + ((n % 2 : Nat) : Int)) = true := by rw [bne_iff_ne]; omega
    try simp (disch := first | omega | (simp only [L3] <;> omega)) only [Sall,evalOp,init,binA_s,binE,binI,unE,convE,okNil,builtE,gv,TD.isAgg,resV,↓reduceIte,Nat.reduceEqDiff,reduceCtorEq,Nat.reduceAdd,Nat.reduceMul,Nat.reduceLeDiff,quietOp,blindOp,Int.reduceEq,Int.reduceLT,Int.reduceLE,Nat.reduceLT,tiA, e0]
    unfold robinB
    rw [decide_eq_false hkn, Bool.false_and]
    exact ⟨rfl, up⟩
end Go.Proofs.YtpienljnoaendaaGreat.A
end

section
set_option maxRecDepth 100000
set_option maxHeartbeats 2000000
namespace Go.Proofs.YtpienljnoaendaaGreat.A
open Go Go.Abs Go.RowKit
end Go.Proofs.YtpienljnoaendaaGreat.A
end

section
set_option maxRecDepth 100000
set_option maxHeartbeats 2000000
namespace Go.Proofs.YtpienljnoaendaaGreat.A
open Go Go.Abs Go.RowKit
theorem once_c (x : Int) (H : AH) : ACalls Tryz.prog 148 [.int .i64 x] H (is (.bool (x == 1)) H) := by
  refine acalls_of_awp [.tmp 2] Tryz.func148 (by kernel_rfl) rfl rfl (Nat.le_of_ble_eq_true rfl) (by kernel_rfl) ?_
  try simp (disch := first | omega | (simp only [L3] <;> omega)) only [Sall,evalOp,init,binA_s,binE,binI,unE,convE,okNil,builtE,gv,TD.isAgg,resV,↓reduceIte,Nat.reduceEqDiff,reduceCtorEq,Nat.reduceAdd,Nat.reduceMul,Nat.reduceLeDiff,quietOp,blindOp,Int.reduceEq,Int.reduceLT,Int.reduceLE,Nat.reduceLT,tiA, is]
end Go.Proofs.YtpienljnoaendaaGreat.A
end

section
namespace Go.Abs
def oddUp (n : Nat) : Nat := n - 1 + n % 2
def cb (m r x : Nat) : Int := Int.tmod (2 * (r : Int) - (x : Int) + (m : Int)) (m : Int)
def cmid (n r k : Nat) : List Int := (List.range 14).map fun x => if x < oddUp n then (if x < k ∨ cb (oddUp n) r x < k then cb (oddUp n) r x else x) else if x < n then x else 0
def cset (n r k : Nat) : List Int := (List.range 14).map fun x => if x < oddUp n then (if x < k then cb (oddUp n) r x else x) else if x < n then x else 0
def cround (n r : Nat) : List Int := if n % 2 = 0 then ((cmid n r (oddUp n)).set (n - 1) r).set r ((n : Int) - 1) else cmid n r (oddUp n)
theorem cmid_length (n r k : Nat) : (cmid n r k).length = 14 := by simp [cmid]
theorem cset_length (n r k : Nat) : (cset n r k).length = 14 := by simp [cset]
theorem cround_length (n r : Nat) : (cround n r).length = 14 := by unfold cround; split <;> simp [cmid_length]
end Go.Abs
end

section
set_option maxRecDepth 100000
namespace Go.Proofs.YtpienljnoaendaaGreat.A
open Go Go.Abs Go.RowKit
def freeL (n : Int) : List Int := (List.range 14).map fun (a : Nat) => if (a : Int) < n then (a : Int) else 0
theorem freeL_length (n : Int) : (freeL n).length = 14 := by simp [freeL]
theorem freeL_set (a : Int) (h : 0 ≤ a) (h' : a < 14) : (freeL a).set a.toNat a = freeL (a + 1) := by
  apply List.ext_getElem
  · simp [freeL]
  · intro i h1 h2
    simp only [freeL, List.getElem_set, List.getElem_map, List.getElem_range]
    split
    · rename_i e; rw [if_pos (by omega)]; omega
    · rename_i e; split <;> split <;> omega
theorem free_c (n : Int) (hn : n ≤ 14) (H : AH) : ACalls Tryz.prog 151 [.int .i64 n] H (is (.agg (ints (freeL n)).toArray) H) := by
  refine acalls_up (flat_ints _) (acalls_of_awp [.cell 2 69] Tryz.func151 (by kernel_rfl) rfl rfl (Nat.le_of_ble_eq_true rfl) (by kernel_rfl) ?_)
  try simp (disch := first | omega | (simp only [ints_length, freeL_length, List.length_replicate] <;> omega)) only [Sall,evalOp,init,binA_s,binE,binI,unE,convE,okNil,builtE,gv,TD.isAgg,resV,↓reduceIte,Nat.reduceEqDiff,reduceCtorEq,Nat.reduceAdd,Nat.reduceMul,Nat.reduceLeDiff,quietOp,blindOp,Int.reduceEq,Int.reduceLT,Int.reduceLE,Nat.reduceLT,tiA, true_and]
  refine awp_loop (fun m t H' => ∃ a : Int, m = (n - a).toNat ∧ 0 ≤ a ∧ a ≤ 14 ∧ (a ≤ n ∨ a = 0) ∧ t 7 = .int .i64 a ∧ t 6 = .int .i64 n ∧ t 3 = .pointer (some ⟨H.next + 1, 0, none⟩) ∧ t 2 = .pointer (some ⟨H.next, 0, none⟩) ∧ Up H.next H H' ∧
    H'.row H.next = some ⟨69, true, ints (List.replicate 14 0)⟩ ∧ H'.row (H.next + 1) = some ⟨69, true, ints (freeL a)⟩) n.toNat ?_ ?_
  · refine ⟨0, by omega, by omega, by omega, by omega, ?_⟩
    try simp (disch := first | omega | (simp only [ints_length, freeL_length, List.length_replicate] <;> omega)) only [Sall,evalOp,init,binA_s,binE,binI,unE,convE,okNil,builtE,gv,TD.isAgg,resV,↓reduceIte,Nat.reduceEqDiff,reduceCtorEq,Nat.reduceAdd,Nat.reduceMul,Nat.reduceLeDiff,quietOp,blindOp,Int.reduceEq,Int.reduceLT,Int.reduceLE,Nat.reduceLT,tiA, true_and]
    refine ⟨(((Up.refl _ H).push (by omega) _).push (Nat.le_succ _) _).set (by omega) _, ?_⟩
    exact congrArg (fun l => Row.mk _ true (ints l)) (by decide : List.replicate 14 0 = freeL 0)
  · rintro m t H' ⟨a, hm, h0, h14, han, h7, h6, h3, h2, hup, hr0, hr1⟩
    try simp (disch := first | omega | (simp only [ints_length, freeL_length, List.length_replicate] <;> omega)) only [Sall,evalOp,init,binA_s,binE,binI,unE,convE,okNil,builtE,gv,TD.isAgg,resV,↓reduceIte,Nat.reduceEqDiff,reduceCtorEq,Nat.reduceAdd,Nat.reduceMul,Nat.reduceLeDiff,quietOp,blindOp,Int.reduceEq,Int.reduceLT,Int.reduceLE,Nat.reduceLT,tiA, h7, h6]
    refine condC_dec (fun h => ?_) (fun h => ?_)
    · try simp (disch := first | omega | (simp only [ints_length, freeL_length, List.length_replicate] <;> omega)) only [Sall,evalOp,init,binA_s,binE,binI,unE,convE,okNil,builtE,gv,TD.isAgg,resV,↓reduceIte,Nat.reduceEqDiff,reduceCtorEq,Nat.reduceAdd,Nat.reduceMul,Nat.reduceLeDiff,quietOp,blindOp,Int.reduceEq,Int.reduceLT,Int.reduceLE,Nat.reduceLT,tiA, h7, h6, h3, h2, hr1, hr0, ints_set, w64, freeL_set]
      refine ⟨⟨h0, by omega⟩, by rw [freeL_length]; omega, (n - (a + 1)).toNat, by omega, a + 1, rfl, by omega, by omega, by omega, rfl, hup.set (by omega) _, rfl⟩
    · try simp (disch := first | omega | (simp only [ints_length, freeL_length, List.length_replicate] <;> omega)) only [Sall,evalOp,init,binA_s,binE,binI,unE,convE,okNil,builtE,gv,TD.isAgg,resV,↓reduceIte,Nat.reduceEqDiff,reduceCtorEq,Nat.reduceAdd,Nat.reduceMul,Nat.reduceLeDiff,quietOp,blindOp,Int.reduceEq,Int.reduceLT,Int.reduceLE,Nat.reduceLT,tiA, h7, h6, h3, h2, hr1, hr0, freeL_length]
      refine ⟨?_, hup.set (by omega) _⟩
      rcases han with h | h
      · rw [show a = n by omega]
      · subst h; congr 3; simp only [freeL]; apply List.map_congr_left; intro x hx; rw [if_neg (by omega), if_neg (by omega)]
theorem freeS_c (n : Int) (hn : n ≤ 14) (H : AH) : ACalls Tryz.prog 153 [.int .i64 n] H (is (.agg (ints (freeL n)).toArray) H) := by
  refine acalls_up (flat_ints _) (acalls_of_awp [.cell 2 69] Tryz.func153 (by kernel_rfl) rfl rfl (Nat.le_of_ble_eq_true rfl) (by kernel_rfl) ?_)
  try simp (disch := first | omega | (simp only [ints_length, freeL_length, List.length_replicate] <;> omega)) only [Sall,evalOp,init,binA_s,binE,binI,unE,convE,okNil,builtE,gv,TD.isAgg,resV,↓reduceIte,Nat.reduceEqDiff,reduceCtorEq,Nat.reduceAdd,Nat.reduceMul,Nat.reduceLeDiff,quietOp,blindOp,Int.reduceEq,Int.reduceLT,Int.reduceLE,Nat.reduceLT,tiA, true_and]
  refine awp_loop (fun m t H' => ∃ a : Int, m = (n - a).toNat ∧ 0 ≤ a ∧ a ≤ 14 ∧ (a ≤ n ∨ a = 0) ∧ t 4 = .int .i64 a ∧ t 0 = .int .i64 n ∧ t 3 = .pointer (some ⟨H.next + 1, 0, none⟩) ∧ t 2 = .pointer (some ⟨H.next, 0, none⟩) ∧ Up H.next H H' ∧
    H'.row H.next = some ⟨69, true, ints (List.replicate 14 0)⟩ ∧ H'.row (H.next + 1) = some ⟨69, true, ints (freeL a)⟩) n.toNat ?_ ?_
  · refine ⟨0, by omega, by omega, by omega, by omega, ?_⟩
    try simp (disch := first | omega | (simp only [ints_length, freeL_length, List.length_replicate] <;> omega)) only [Sall,evalOp,init,binA_s,binE,binI,unE,convE,okNil,builtE,gv,TD.isAgg,resV,↓reduceIte,Nat.reduceEqDiff,reduceCtorEq,Nat.reduceAdd,Nat.reduceMul,Nat.reduceLeDiff,quietOp,blindOp,Int.reduceEq,Int.reduceLT,Int.reduceLE,Nat.reduceLT,tiA, true_and]
    refine ⟨(((Up.refl _ H).push (by omega) _).push (Nat.le_succ _) _).set (by omega) _, ?_⟩
    exact congrArg (fun l => Row.mk _ true (ints l)) (by decide : List.replicate 14 0 = freeL 0)
  · rintro m t H' ⟨a, hm, h0, h14, han, h7, h6, h3, h2, hup, hr0, hr1⟩
    try simp (disch := first | omega | (simp only [ints_length, freeL_length, List.length_replicate] <;> omega)) only [Sall,evalOp,init,binA_s,binE,binI,unE,convE,okNil,builtE,gv,TD.isAgg,resV,↓reduceIte,Nat.reduceEqDiff,reduceCtorEq,Nat.reduceAdd,Nat.reduceMul,Nat.reduceLeDiff,quietOp,blindOp,Int.reduceEq,Int.reduceLT,Int.reduceLE,Nat.reduceLT,tiA, h7, h6]
    refine condC_dec (fun h => ?_) (fun h => ?_)
    · try simp (disch := first | omega | (simp only [ints_length, freeL_length, List.length_replicate] <;> omega)) only [Sall,evalOp,init,binA_s,binE,binI,unE,convE,okNil,builtE,gv,TD.isAgg,resV,↓reduceIte,Nat.reduceEqDiff,reduceCtorEq,Nat.reduceAdd,Nat.reduceMul,Nat.reduceLeDiff,quietOp,blindOp,Int.reduceEq,Int.reduceLT,Int.reduceLE,Nat.reduceLT,tiA, h7, h6, h3, h2, hr1, hr0, ints_set, w64, freeL_set, freeL_length]
      refine ⟨⟨h0, by omega⟩, by omega, (n - (a + 1)).toNat, by omega, a + 1, rfl, by omega, by omega, by omega, rfl, hup.set (by omega) _, rfl⟩
    · try simp (disch := first | omega | (simp only [ints_length, freeL_length, List.length_replicate] <;> omega)) only [Sall,evalOp,init,binA_s,binE,binI,unE,convE,okNil,builtE,gv,TD.isAgg,resV,↓reduceIte,Nat.reduceEqDiff,reduceCtorEq,Nat.reduceAdd,Nat.reduceMul,Nat.reduceLeDiff,quietOp,blindOp,Int.reduceEq,Int.reduceLT,Int.reduceLE,Nat.reduceLT,tiA, h7, h6, h3, h2, hr1, hr0, freeL_length]
      refine ⟨?_, hup.set (by omega) _⟩
      rcases han with h | h
      · rw [show a = n by omega]
      · subst h; congr 3; simp only [freeL]; apply List.map_congr_left; intro x hx; rw [if_neg (by omega), if_neg (by omega)]
theorem meet_c (i ty : Nat) (a b : Int) (l : List Int) (H : AH) (hr : H.row i = some ⟨ty, true, ints l⟩) (hl : l.length = 14) (ha : 0 ≤ a ∧ a < 14) (hb : 0 ≤ b ∧ b < 14) :
    ACalls Tryz.prog 152 [.pointer (some ⟨i, 0, none⟩), .int .i64 a, .int .i64 b] H (is (.tuple #[]) (H.setCells i (ints ((l.set a.toNat b).set b.toNat a)))) := by
  refine acalls_of_awp [] Tryz.func152 (by kernel_rfl) rfl rfl (Nat.le_of_ble_eq_true rfl) (by kernel_rfl) ?_
  try simp (disch := first | omega | (simp only [ints_length, freeL_length, List.length_replicate] <;> omega)) only [Sall,evalOp,init,binA_s,binE,binI,unE,convE,okNil,builtE,gv,TD.isAgg,resV,↓reduceIte,Nat.reduceEqDiff,reduceCtorEq,Nat.reduceAdd,Nat.reduceMul,Nat.reduceLeDiff,quietOp,blindOp,Int.reduceEq,Int.reduceLT,Int.reduceLE,Nat.reduceLT,tiA, true_and]
  refine draw_in [0, 1, 2, 3, 4, 5, 6, 9, 7, 8, 10, 11] (by kernel_rfl) (by kernel_rfl) rfl ?_
  have e1 : (l.set a.toNat b).length = 14 := by simp [hl]
  try simp (disch := first | omega | (simp only [ints_length, freeL_length, List.length_replicate] <;> omega)) only [Sall,evalOp,init,binA_s,binE,binI,unE,convE,okNil,builtE,gv,TD.isAgg,resV,↓reduceIte,Nat.reduceEqDiff,reduceCtorEq,Nat.reduceAdd,Nat.reduceMul,Nat.reduceLeDiff,quietOp,blindOp,Int.reduceEq,Int.reduceLT,Int.reduceLE,Nat.reduceLT,tiA, hr, ints_set, hl, e1, is, AH.setCells_setCells]
  refine ⟨⟨ha.1, by omega⟩, by omega, .inr (.inl (by kernel_rfl)), ⟨hb.1, by omega⟩, by omega, .inr (.inl (by kernel_rfl))⟩
end Go.Proofs.YtpienljnoaendaaGreat.A
end

section
set_option maxRecDepth 100000
namespace Go.Proofs.YtpienljnoaendaaGreat.A
open Go Go.Abs Go.RowKit
end Go.Proofs.YtpienljnoaendaaGreat.A
end

section
set_option maxRecDepth 100000
namespace Go.Proofs.YtpienljnoaendaaGreat.A
open Go Go.Abs Go.RowKit
end Go.Proofs.YtpienljnoaendaaGreat.A
end

section
set_option maxRecDepth 100000
namespace Go.Proofs.YtpienljnoaendaaGreat.A
open Go Go.Abs Go.RowKit
end Go.Proofs.YtpienljnoaendaaGreat.A
end

section
set_option maxRecDepth 100000
namespace Go.Proofs.YtpienljnoaendaaGreat.A
open Go Go.Abs Go.RowKit
end Go.Proofs.YtpienljnoaendaaGreat.A
end

section
set_option maxRecDepth 100000
namespace Go.Proofs.YtpienljnoaendaaGreat.A
open Go Go.Abs Go.RowKit
end Go.Proofs.YtpienljnoaendaaGreat.A
end

section
namespace Go.Abs
def colL (ll : List (List Int)) (i c : Nat) : List Int := (List.range c).map fun k => (ll.getD k []).getD i 0
theorem colL_length (ll : List (List Int)) (i c : Nat) : (colL ll i c).length = c := by simp [colL]
end Go.Abs
end

section
set_option maxRecDepth 100000
set_option maxHeartbeats 2000000
namespace Go.Proofs.YtpienljnoaendaaGreat.A
open Go Go.Abs Go.RowKit
theorem indexFuncLL_c (g : FuncId) (cap : List Value) (p : List Int → Bool) (x : Value) (ll : List (List Int)) (H : AH) (hx : Rd2 1 H x ll) (hl : ll.length ≤ 4294967296)
    (hp : ∀ (y : Value) (r : List Int), r ∈ ll → Rd 1 H y r.length r → ACalls Tryz.prog g (y :: cap) H (is (.bool (p r)) H)) :
    ACalls Tryz.prog 236 [x, .func (.func g) #[] cap.toArray] H (is (.int .i64 (firstI (fun i => p (ll.getD i [])) ll.length)) H) := by
  refine acalls_of_awp [.tmp 4] Tryz.func236 (by kernel_rfl) rfl rfl (Nat.le_of_ble_eq_true rfl) (by kernel_rfl) ?_
  try simp (disch := first | omega | (simp only [ints_length, List.length_replicate, List.length_set, colL_length] <;> omega)) only [Sall,evalOp,init,binA_s,binE,binI,unE,convE,okNil,builtE,gv,TD.isAgg,resV,↓reduceIte,Nat.reduceEqDiff,reduceCtorEq,Nat.reduceAdd,Nat.reduceMul,Nat.reduceLeDiff,quietOp,blindOp,Int.reduceEq,Int.reduceLT,Int.reduceLE,Nat.reduceLT,tiA, builtE, hx.len]
  refine awp_loop (fun m t H' => ∃ a : Nat, m = ll.length - a ∧ a ≤ ll.length ∧ t 8 = .int .i64 a ∧ t 7 = .int .i64 ll.length ∧ t 0 = x ∧ t 1 = .func (.func g) #[] cap.toArray ∧ H' = H ∧ (∀ i, i < a → p (ll.getD i []) = false)) ll.length ?_ ?_
  · refine ⟨0, by omega, by omega, ?_⟩
    try simp (disch := first | omega | (simp only [ints_length, List.length_replicate, List.length_set, colL_length] <;> omega)) only [Sall,evalOp,init,binA_s,binE,binI,unE,convE,okNil,builtE,gv,TD.isAgg,resV,↓reduceIte,Nat.reduceEqDiff,reduceCtorEq,Nat.reduceAdd,Nat.reduceMul,Nat.reduceLeDiff,quietOp,blindOp,Int.reduceEq,Int.reduceLT,Int.reduceLE,Nat.reduceLT,tiA, Int.natCast_zero, Nat.not_lt_zero, false_implies]
  · rintro m t H' ⟨a, hm, h14, h8, h7, h0, h1, rfl, hall⟩
    try simp (disch := first | omega | (simp only [ints_length, List.length_replicate, List.length_set, colL_length] <;> omega)) only [Sall,evalOp,init,binA_s,binE,binI,unE,convE,okNil,builtE,gv,TD.isAgg,resV,↓reduceIte,Nat.reduceEqDiff,reduceCtorEq,Nat.reduceAdd,Nat.reduceMul,Nat.reduceLeDiff,quietOp,blindOp,Int.reduceEq,Int.reduceLT,Int.reduceLE,Nat.reduceLT,tiA, h8, h7]
    refine condC_dec (fun h => ?_) (fun h => ?_)
    · obtain ⟨i, o, u, c, r, y, my, rfl, hr, hy, hsx, hok⟩ := hx.get (j := a) (by omega)
      have hmm := hsx.lenK1
      rw [hmm] at hsx
      try simp (disch := first | omega | (simp only [ints_length, List.length_replicate, List.length_set, colL_length] <;> omega)) only [Sall,evalOp,init,binA_s,binE,binI,unE,convE,okNil,builtE,gv,TD.isAgg,resV,↓reduceIte,Nat.reduceEqDiff,reduceCtorEq,Nat.reduceAdd,Nat.reduceMul,Nat.reduceLeDiff,quietOp,blindOp,Int.reduceEq,Int.reduceLT,Int.reduceLE,Nat.reduceLT,tiA, h8, h7, h0, h1, hr, hy, hok]
      (repeat refine And.intro (by omega) ?_)
      refine (hp y _ (getD_mem (ll := ll) (a := a) (by omega)) hsx).to ?_
      cases hb : p (ll.getD a []) with
      | true =>
        try simp (disch := first | omega | (simp only [ints_length, List.length_replicate, List.length_set, colL_length] <;> omega)) only [Sall,evalOp,init,binA_s,binE,binI,unE,convE,okNil,builtE,gv,TD.isAgg,resV,↓reduceIte,Nat.reduceEqDiff,reduceCtorEq,Nat.reduceAdd,Nat.reduceMul,Nat.reduceLeDiff,quietOp,blindOp,Int.reduceEq,Int.reduceLT,Int.reduceLE,Nat.reduceLT,tiA, h8, h7, h0, h1, is]
        rw [firstI_at (p := fun i => p (ll.getD i [])) (by omega) hb hall]
      | false =>
        try simp (disch := first | omega | (simp only [ints_length, List.length_replicate, List.length_set, colL_length] <;> omega)) only [Sall,evalOp,init,binA_s,binE,binI,unE,convE,okNil,builtE,gv,TD.isAgg,resV,↓reduceIte,Nat.reduceEqDiff,reduceCtorEq,Nat.reduceAdd,Nat.reduceMul,Nat.reduceLeDiff,quietOp,blindOp,Int.reduceEq,Int.reduceLT,Int.reduceLE,Nat.reduceLT,tiA, h8, h7, h0, h1, w64]
        refine ⟨ll.length - (a + 1), by omega, a + 1, rfl, by omega, by omega, fun x hx => ?_⟩
        by_cases e : x = a
        · rw [e]; exact hb
        · exact hall x (by omega)
    · try simp (disch := first | omega | (simp only [ints_length, List.length_replicate, List.length_set, colL_length] <;> omega)) only [Sall,evalOp,init,binA_s,binE,binI,unE,convE,okNil,builtE,gv,TD.isAgg,resV,↓reduceIte,Nat.reduceEqDiff,reduceCtorEq,Nat.reduceAdd,Nat.reduceMul,Nat.reduceLeDiff,quietOp,blindOp,Int.reduceEq,Int.reduceLT,Int.reduceLE,Nat.reduceLT,tiA, is]
      rw [firstI_none (p := fun i => p (ll.getD i [])) fun x hx => hall x (by omega)]
theorem containsFuncLL_c (g : FuncId) (cap : List Value) (p : List Int → Bool) (x : Value) (ll : List (List Int)) (H : AH) (hx : Rd2 1 H x ll) (hl : ll.length ≤ 4294967296)
    (hp : ∀ (y : Value) (r : List Int), r ∈ ll → Rd 1 H y r.length r → ACalls Tryz.prog g (y :: cap) H (is (.bool (p r)) H)) :
    ACalls Tryz.prog 124 [x, .func (.func g) #[] cap.toArray] H (is (.bool ((List.range ll.length).any fun i => p (ll.getD i []))) H) := by
  refine acalls_of_awp [.tmp 4] Tryz.func124 (by kernel_rfl) rfl rfl (Nat.le_of_ble_eq_true rfl) (by kernel_rfl) ?_
  try simp (disch := first | omega | (simp only [ints_length, List.length_replicate, List.length_set, colL_length] <;> omega)) only [Sall,evalOp,init,binA_s,binE,binI,unE,convE,okNil,builtE,gv,TD.isAgg,resV,↓reduceIte,Nat.reduceEqDiff,reduceCtorEq,Nat.reduceAdd,Nat.reduceMul,Nat.reduceLeDiff,quietOp,blindOp,Int.reduceEq,Int.reduceLT,Int.reduceLE,Nat.reduceLT,tiA, true_and]
  refine (indexFuncLL_c g cap p x ll H hx hl hp).to ?_
  try simp (disch := first | omega | (simp only [ints_length, List.length_replicate, List.length_set, colL_length] <;> omega)) only [Sall,evalOp,init,binA_s,binE,binI,unE,convE,okNil,builtE,gv,TD.isAgg,resV,↓reduceIte,Nat.reduceEqDiff,reduceCtorEq,Nat.reduceAdd,Nat.reduceMul,Nat.reduceLeDiff,quietOp,blindOp,Int.reduceEq,Int.reduceLT,Int.reduceLE,Nat.reduceLT,tiA, is, firstI_any]
theorem sizeLL_c (x : Value) (ll : List (List Int)) (H : AH) (hx : Rd2 1 H x ll) (hl : ll.length ≤ 4294967296) : ACalls Tryz.prog 123 [x] H (is (.int .i64 ll.length) H) := by
  refine acalls_of_awp [.tmp 2] Tryz.func123 (by kernel_rfl) rfl rfl (Nat.le_of_ble_eq_true rfl) (by kernel_rfl) ?_
  try simp (disch := first | omega | (simp only [ints_length, List.length_replicate, List.length_set, colL_length] <;> omega)) only [Sall,evalOp,init,binA_s,binE,binI,unE,convE,okNil,builtE,gv,TD.isAgg,resV,↓reduceIte,Nat.reduceEqDiff,reduceCtorEq,Nat.reduceAdd,Nat.reduceMul,Nat.reduceLeDiff,quietOp,blindOp,Int.reduceEq,Int.reduceLT,Int.reduceLE,Nat.reduceLT,tiA, builtE, hx.len, is]
end Go.Proofs.YtpienljnoaendaaGreat.A
end

section
namespace Go.Abs
theorem compact_len (z : List Int) (hz : z.Pairwise (fun x y => x ≤ y)) : (Go.Lib.compact z).length = z.length ↔ z.Nodup := by
  have e : (Go.Lib.compact z).length = ((List.range z.length).filter (Go.Lib.keeps z.toArray)).length := by
    unfold Go.Lib.compact Go.Lib.compactUpTo
    rw [List.length_map]
  have e2 : (Go.Lib.compact z).length = z.length ↔ ∀ j ∈ List.range z.length, Go.Lib.keeps z.toArray j = true := by
    rw [e]
    have := List.length_filter_eq_length_iff (p := Go.Lib.keeps z.toArray) (l := List.range z.length)
    rw [List.length_range] at this
    exact this
  rw [e2]
  have kp : ∀ j (h : j + 1 < z.length), Go.Lib.keeps z.toArray (j + 1) = true ↔ z[j + 1] ≠ z[j] := by
    intro j h
    unfold Go.Lib.keeps
    have h1 : z.toArray[j + 1]! = z[j + 1] := by rw [getElem!_pos _ _ (by simpa using h)]; simp
    have h2 : z.toArray[j]! = z[j] := by rw [getElem!_pos _ _ (by simp; omega)]; simp
    simp only [Nat.add_sub_cancel, h1, h2]
    simp
  constructor
  · intro h
    have hlt : z.Pairwise (fun x y => x < y) := by
      rw [List.pairwise_iff_getElem] at hz ⊢
      intro i j hi hj hij
      have h1 := (kp i (by omega)).1 (h (i + 1) (by simp; omega))
      have h2 := hz i (i + 1) hi (by omega) (by omega)
      by_cases e : i + 1 = j
      · subst e; omega
      · have h3 := hz (i + 1) j (by omega) hj (by omega)
        omega
    exact hlt.imp (by intro x y h; omega)
  · intro h j hj
    have hj' : j < z.length := by simpa using hj
    cases j with
    | zero => simp [Go.Lib.keeps]
    | succ j =>
      rw [kp j hj']
      intro e
      have := (List.getElem_inj h).1 e
      omega
theorem compact_sorted (y : List Int) : (((Go.Lib.compact (sortedL y)).length : Int) == (y.length : Int)) = decide y.Nodup := by
  rw [Bool.eq_iff_iff, beq_iff_eq, decide_eq_true_iff]
  have h := compact_len (sortedL y) (sortedL_sorted y)
  rw [sortedL_length, (sortedL_perm y).nodup_iff] at h
  rw [← h]
  omega
end Go.Abs
end

section
namespace Go.Abs
def ixN (m a b : Nat) : Int := ((a * m + b : Nat) : Int)
theorem ix_inj {m a b c d : Nat} (hb : b < m) (hd : d < m) (h : ixN m a b = ixN m c d) : a = c ∧ b = d := by
  have h0 : a * m + b = c * m + d := by unfold ixN at h; omega
  have h1 : (a * m + b) / m = (c * m + d) / m := by rw [h0]
  rw [Nat.mul_comm a, Nat.mul_comm c, Nat.mul_add_div (by omega), Nat.mul_add_div (by omega), Nat.div_eq_of_lt hb, Nat.div_eq_of_lt hd] at h1
  have e : a = c := by omega
  subst e
  exact ⟨rfl, by omega⟩
def cntMx (m : Nat) (I : List Int) : List (List Int) := (List.range m).map fun a => (List.range m).map fun b => ((I.count (ixN m a b) : Nat) : Int)
theorem cntMx_sq (m : Nat) (I : List Int) : SqM m (cntMx m I) := by
  refine ⟨by simp [cntMx], fun j hj => ?_⟩
  unfold cntMx
  rw [List.getD_eq_getElem?_getD, List.getElem?_map, List.getElem?_range hj]
  simp
theorem cntMx_nil (m : Nat) : cntMx m [] = zeroM m := by
  unfold cntMx zeroM
  refine List.eq_replicate_iff.2 ⟨by simp, fun r hr => ?_⟩
  obtain ⟨a, _, rfl⟩ := List.mem_map.1 hr
  exact List.eq_replicate_iff.2 ⟨by simp, by intro b hb; obtain ⟨c, _, rfl⟩ := List.mem_map.1 hb; rfl⟩
theorem cntMx_row (m : Nat) (I : List Int) (a : Nat) (ha : a < m) : (cntMx m I).getD a [] = (List.range m).map fun b => ((I.count (ixN m a b) : Nat) : Int) := by
  unfold cntMx
  rw [List.getD_eq_getElem?_getD, List.getElem?_map, List.getElem?_range ha]
  rfl
theorem cntMx_at (m : Nat) (I : List Int) (a b : Nat) (ha : a < m) (hb : b < m) : ((cntMx m I).getD a []).getD b 0 = ((I.count (ixN m a b) : Nat) : Int) := by
  rw [cntMx_row m I a ha, List.getD_eq_getElem?_getD, List.getElem?_map, List.getElem?_range hb]
  rfl
theorem cntMx_inc (m : Nat) (I : List Int) (x y : Nat) (hx : x < m) (hy : y < m) (hI : I.length ≤ 1000000) : incM (cntMx m I) x y = cntMx m (I ++ [ixN m x y]) := by
  have hsq := cntMx_sq m I
  unfold incM
  rw [Int.toNat_natCast]
  apply List.ext_getElem?
  intro a
  rw [List.getElem?_set, hsq.1]
  by_cases ha : a < m
  · have e1 : (cntMx m (I ++ [ixN m x y]))[a]? = some ((List.range m).map fun b => (((I ++ [ixN m x y]).count (ixN m a b) : Nat) : Int)) := by
      unfold cntMx; rw [List.getElem?_map, List.getElem?_range ha]; rfl
    have e2 : (cntMx m I)[a]? = some ((List.range m).map fun b => ((I.count (ixN m a b) : Nat) : Int)) := by
      unfold cntMx; rw [List.getElem?_map, List.getElem?_range ha]; rfl
    rw [e1]
    by_cases e : x = a
    · subst e
      rw [if_pos rfl, if_pos hx, cntMx_row m I x hx]
      congr 1
      unfold incR
      rw [Int.toNat_natCast]
      apply List.ext_getElem?
      intro b
      rw [List.getElem?_set, List.length_map, List.length_range, List.getElem?_map, List.getElem?_map]
      by_cases hb : b < m
      · rw [List.getElem?_range hb]
        simp only [Option.map_some]
        rw [List.count_append, List.count_singleton]
        by_cases e3 : y = b
        · subst e3
          rw [if_pos rfl, if_pos hy, List.getD_eq_getElem?_getD, List.getElem?_map, List.getElem?_range hy]
          simp only [Option.map_some, Option.getD_some, beq_self_eq_true, if_true]
          have hc := List.count_le_length (a := ixN m x y) (l := I)
          have w : IntKind.i64.wrap (((I.count (ixN m x y) : Nat) : Int) + 1) = ((I.count (ixN m x y) : Nat) : Int) + 1 := w64 (by omega)
          rw [w]; congr 1
        · rw [if_neg e3]
          have : (ixN m x y == ixN m x b) = false := by
            rw [beq_eq_false_iff_ne]; intro h; exact e3 (ix_inj hy hb h).2
          rw [this]; simp
      · rw [if_neg (by omega), List.getElem?_eq_none (by simpa using hb)]; rfl
    · rw [if_neg e, e2]
      congr 1
      apply List.map_congr_left
      intro b hb
      have hb' : b < m := by simpa using hb
      rw [List.count_append, List.count_singleton]
      have : (ixN m x y == ixN m a b) = false := by
        rw [beq_eq_false_iff_ne]; intro h; exact e (ix_inj hy hb' h).1
      rw [this]; simp
  · rw [if_neg (by omega), List.getElem?_eq_none (by rw [hsq.1]; omega), List.getElem?_eq_none (by rw [(cntMx_sq m _).1]; omega)]
/-! ### Neighbours -/
end Go.Abs
end

section
namespace Go.Abs
def eachAt (p : Int → Bool) (M : List (List Int)) (i j : Nat) : Bool := decide (i = j) || p ((M.getD i []).getD j 0)
def eachB (p : Int → Bool) (M : List (List Int)) : Bool := (List.range M.length).all fun i => (List.range (M.getD i []).length).all fun j => eachAt p M i j
theorem eachB_bad {p : Int → Bool} {M : List (List Int)} {i j : Nat} (hi : i < M.length) (hj : j < (M.getD i []).length) (h : eachAt p M i j = false) : eachB p M = false := by
  unfold eachB
  exact all_false_of hi (all_false_of hj h)
theorem eachB_good {p : Int → Bool} {M : List (List Int)} (h : ∀ i, i < M.length → ∀ j, j < (M.getD i []).length → eachAt p M i j = true) : eachB p M = true := by
  unfold eachB
  exact all_true_of fun i hi => all_true_of fun j hj => h i hi j hj
theorem eachB_at {p : Int → Bool} {M : List (List Int)} (h : eachB p M = true) {i j : Nat} (hi : i < M.length) (hj : j < (M.getD i []).length) : eachAt p M i j = true := by
  unfold eachB at h
  rw [List.all_eq_true] at h
  have h2 := h i (by simpa using hi)
  rw [List.all_eq_true] at h2
  exact h2 j (by simpa using hj)
theorem eachB_imp {p q : Int → Bool} (h : ∀ x, p x = true → q x = true) {M : List (List Int)} (hM : eachB p M = true) : eachB q M = true :=
  eachB_good fun i hi j hj => by
    have h1 := eachB_at hM hi hj
    unfold eachAt at h1 ⊢
    rw [Bool.or_eq_true] at h1 ⊢
    exact h1.imp id (h _)
theorem getD_mem2 {α : Type} (y : List (α × α)) (i : Nat) (hi : i < y.length) {d : α × α} : y.getD i d ∈ y := by
  rw [List.getD_eq_getElem?_getD, List.getElem?_eq_getElem hi]; exact List.getElem_mem _
/-! ### Tables -/
def qd (l : List Int) (t j : Nat) : Nat := (l.getD (4 * t + j) 0).toNat
def evW (n : Nat) (q : Nat → Nat) (ws : List (Nat × Nat)) : List Int := ws.flatMap fun w => [ixN n (q w.1) (q w.2), ixN n (q w.2) (q w.1)]
def evR (n : Nat) (ws : List (Nat × Nat)) (l : List Int) (c : Nat) : List Int := (List.range c).flatMap fun t => evW n (qd l t) ws
def evA (n : Nat) (ws : List (Nat × Nat)) (R : List (List Int)) (k : Nat) : List Int := (List.range k).flatMap fun i => evR n ws (R.getD i []) ((R.getD i []).length / 4)
def tabM (n : Nat) (ws : List (Nat × Nat)) (R : List (List Int)) : List (List Int) := cntMx n (evA n ws R R.length)
theorem evW_snoc (n : Nat) (q : Nat → Nat) (ws : List (Nat × Nat)) (w : Nat × Nat) : evW n q (ws ++ [w]) = evW n q ws ++ [ixN n (q w.1) (q w.2)] ++ [ixN n (q w.2) (q w.1)] := by simp [evW]
theorem evR_succ (n : Nat) (ws : List (Nat × Nat)) (l : List Int) (c : Nat) : evR n ws l (c + 1) = evR n ws l c ++ evW n (qd l c) ws := by simp [evR, List.range_succ]
theorem evA_succ (n : Nat) (ws : List (Nat × Nat)) (R : List (List Int)) (k : Nat) : evA n ws R (k + 1) = evA n ws R k ++ evR n ws (R.getD k []) ((R.getD k []).length / 4) := by simp [evA, List.range_succ]
theorem evW_length (n : Nat) (q : Nat → Nat) : ∀ (ws : List (Nat × Nat)), (evW n q ws).length = 2 * ws.length
  | [] => rfl
  | w :: ws => by
    have e : evW n q (w :: ws) = [ixN n (q w.1) (q w.2), ixN n (q w.2) (q w.1)] ++ evW n q ws := by simp [evW]
    rw [e, List.length_append, evW_length n q ws, List.length_cons, List.length_cons]
    simp
    omega
theorem evR_length (n : Nat) (ws : List (Nat × Nat)) (l : List Int) : ∀ c, (evR n ws l c).length = c * (2 * ws.length)
  | 0 => by simp [evR]
  | c + 1 => by rw [evR_succ, List.length_append, evR_length n ws l c, evW_length, Nat.add_mul c 1, Nat.one_mul]
theorem evA_length {n : Nat} {ws : List (Nat × Nat)} {R : List (List Int)} (hR : ∀ i, i < R.length → (R.getD i []).length ≤ 16) : ∀ k, k ≤ R.length → (evA n ws R k).length ≤ k * (4 * (2 * ws.length))
  | 0, _ => by simp [evA]
  | k + 1, h => by
    rw [evA_succ, List.length_append, evR_length]
    have h1 := evA_length (n := n) (ws := ws) hR k (by omega)
    have h2 := hR k (by omega)
    have h3 : (R.getD k []).length / 4 * (2 * ws.length) ≤ 4 * (2 * ws.length) := Nat.mul_le_mul_right _ (by omega)
    rw [Nat.add_mul k 1, Nat.one_mul]
    omega
def svW (n : Nat) (l : List Int) (k : Nat) (ws : List Nat) : List Int := ws.map fun w => ixN n (l.getD k 0).toNat (l.getD (k / 4 * 4 + (k % 4 ^^^ w)) 0).toNat
def svR (n : Nat) (ws : List Nat) (l : List Int) (c : Nat) : List Int := (List.range c).flatMap fun k => svW n l k ws
def svA (n : Nat) (ws : List Nat) (R : List (List Int)) (k : Nat) : List Int := (List.range k).flatMap fun i => svR n ws (R.getD i []) (R.getD i []).length
theorem svW_snoc (n : Nat) (l : List Int) (k : Nat) (ws : List Nat) (w : Nat) : svW n l k (ws ++ [w]) = svW n l k ws ++ [ixN n (l.getD k 0).toNat (l.getD (k / 4 * 4 + (k % 4 ^^^ w)) 0).toNat] := by simp [svW]
theorem svR_succ (n : Nat) (ws : List Nat) (l : List Int) (c : Nat) : svR n ws l (c + 1) = svR n ws l c ++ svW n l c ws := by simp [svR, List.range_succ]
theorem svA_succ (n : Nat) (ws : List Nat) (R : List (List Int)) (k : Nat) : svA n ws R (k + 1) = svA n ws R k ++ svR n ws (R.getD k []) (R.getD k []).length := by simp [svA, List.range_succ]
theorem svW_length (n : Nat) (l : List Int) (k : Nat) (ws : List Nat) : (svW n l k ws).length = ws.length := by simp [svW]
theorem svR_length (n : Nat) (ws : List Nat) (l : List Int) : ∀ c, (svR n ws l c).length = c * ws.length
  | 0 => by simp [svR]
  | c + 1 => by rw [svR_succ, List.length_append, svR_length n ws l c, svW_length, Nat.add_mul c 1, Nat.one_mul]
theorem svA_length {n : Nat} {ws : List Nat} {R : List (List Int)} (hR : ∀ i, i < R.length → (R.getD i []).length ≤ 16) : ∀ k, k ≤ R.length → (svA n ws R k).length ≤ k * (16 * ws.length)
  | 0, _ => by simp [svA]
  | k + 1, h => by
    rw [svA_succ, List.length_append, svR_length]
    have h1 := svA_length (n := n) (ws := ws) hR k (by omega)
    have h2 := hR k (by omega)
    have h3 : (R.getD k []).length * ws.length ≤ 16 * ws.length := Nat.mul_le_mul_right _ (by omega)
    rw [Nat.add_mul k 1, Nat.one_mul]
    omega
def wayOk (us : List Nat) (ws : List (Nat × Nat)) : Prop := ([0, 1, 2, 3].flatMap fun j => us.map fun w => (j, j ^^^ w)).Perm (ws.flatMap fun w => [(w.1, w.2), (w.2, w.1)])
theorem way1 : wayOk [1] [(0, 1), (2, 3)] := by unfold wayOk; decide
theorem way23 : wayOk [2, 3] [(0, 2), (1, 3), (0, 3), (1, 2)] := by unfold wayOk; decide
theorem way2 : wayOk [2] [(0, 2), (1, 3)] := by unfold wayOk; decide
theorem evW_pairs (n : Nat) (q : Nat → Nat) (ws : List (Nat × Nat)) : evW n q ws = (ws.flatMap fun w => [(w.1, w.2), (w.2, w.1)]).map fun p => ixN n (q p.1) (q p.2) := by
  unfold evW
  rw [List.map_flatMap]
  rfl
theorem svW_block (n : Nat) (l : List Int) (t : Nat) (us : List Nat) : svW n l (4 * t) us ++ svW n l (4 * t + 1) us ++ svW n l (4 * t + 2) us ++ svW n l (4 * t + 3) us = ([0, 1, 2, 3].flatMap fun j => us.map fun w => (j, j ^^^ w)).map fun p => ixN n (qd l t p.1) (qd l t p.2) := by
  have h : ∀ j, j < 4 → svW n l (4 * t + j) us = (us.map fun w => (j, j ^^^ w)).map fun p => ixN n (qd l t p.1) (qd l t p.2) := by
    intro j hj
    unfold svW
    rw [List.map_map]
    apply List.map_congr_left
    intro w _
    show ixN n (l.getD (4 * t + j) 0).toNat (l.getD ((4 * t + j) / 4 * 4 + ((4 * t + j) % 4 ^^^ w)) 0).toNat = ixN n (l.getD (4 * t + j) 0).toNat (l.getD (4 * t + (j ^^^ w)) 0).toNat
    rw [show (4 * t + j) / 4 * 4 = 4 * t by omega, show (4 * t + j) % 4 = j by omega]
  have h0 := h 0 (by omega)
  rw [Nat.add_zero] at h0
  rw [h0, h 1 (by omega), h 2 (by omega), h 3 (by omega)]
  simp
theorem svR_perm {n : Nat} {us : List Nat} {ws : List (Nat × Nat)} (hw : wayOk us ws) (l : List Int) : ∀ c, (svR n us l (4 * c)).Perm (evR n ws l c)
  | 0 => by simp [svR, evR]
  | c + 1 => by
    rw [show 4 * (c + 1) = 4 * c + 1 + 1 + 1 + 1 by omega, svR_succ, svR_succ, svR_succ, svR_succ, evR_succ, evW_pairs]
    have e := svW_block n l c us
    rw [show svR n us l (4 * c) ++ svW n l (4 * c) us ++ svW n l (4 * c + 1) us ++ svW n l (4 * c + 1 + 1) us ++ svW n l (4 * c + 1 + 1 + 1) us = svR n us l (4 * c) ++ (svW n l (4 * c) us ++ svW n l (4 * c + 1) us ++ svW n l (4 * c + 2) us ++ svW n l (4 * c + 3) us) by simp, e]
    exact (svR_perm hw l c).append (hw.map _)
theorem svA_perm {n : Nat} {us : List Nat} {ws : List (Nat × Nat)} (hw : wayOk us ws) {R : List (List Int)} (hR : ∀ i, i < R.length → (R.getD i []).length % 4 = 0) : ∀ k, k ≤ R.length → (svA n us R k).Perm (evA n ws R k)
  | 0, _ => by simp [svA, evA]
  | k + 1, h => by
    rw [svA_succ, evA_succ]
    have h1 := hR k (by omega)
    have h2 := svR_perm (n := n) hw (R.getD k []) ((R.getD k []).length / 4)
    rw [show 4 * ((R.getD k []).length / 4) = (R.getD k []).length by omega] at h2
    exact (svA_perm hw hR k (by omega)).append h2
theorem cntMx_perm {m : Nat} {I J : List Int} (h : I.Perm J) : cntMx m I = cntMx m J := by
  unfold cntMx
  congr 1; funext a; congr 1; funext b
  rw [h.count_eq]
theorem svA_tab {n : Nat} {us : List Nat} {ws : List (Nat × Nat)} (hw : wayOk us ws) {R : List (List Int)} (hR : ∀ i, i < R.length → (R.getD i []).length % 4 = 0) : cntMx n (svA n us R R.length) = tabM n ws R :=
  cntMx_perm (svA_perm hw hR _ (Nat.le_refl _))
theorem tabM_sq (n : Nat) (ws : List (Nat × Nat)) (R : List (List Int)) : SqM n (tabM n ws R) := cntMx_sq _ _
/-! ### Evenings made from a base round -/
def mdX (m i : Nat) (x : Int) : Int := if x < m then (x + i) % m else x
def mdL (m i : Nat) (y : List Int) : List Int := y.map (mdX m i)
def madeL (m : Nat) (y : List Int) (k : Nat) : List (List Int) := (List.range k).map fun i => mdL m i y
theorem mdL_length (m i : Nat) (y : List Int) : (mdL m i y).length = y.length := by simp [mdL]
theorem mdL_snoc (m i : Nat) (y : List Int) (k : Nat) (hk : k < y.length) : mdL m i (y.take (k + 1)) = mdL m i (y.take k) ++ [mdX m i (y.getD k 0)] := by
  rw [take_snoc y 0 k hk]; simp [mdL]
theorem madeL_length (m : Nat) (y : List Int) (k : Nat) : (madeL m y k).length = k := by simp [madeL]
theorem madeL_getD (m : Nat) (y : List Int) (k i : Nat) (h : i < k) : (madeL m y k).getD i [] = mdL m i y := by
  unfold madeL
  rw [List.getD_eq_getElem?_getD, List.getElem?_map, List.getElem?_range h]; rfl
theorem madeL_succ (m : Nat) (y : List Int) (k : Nat) : madeL m y (k + 1) = madeL m y k ++ [mdL m k y] := by simp [madeL, List.range_succ]
theorem mdX_range {n m i : Nat} (hm : 1 ≤ m ∧ m ≤ n) {x : Int} (hx : 0 ≤ x ∧ x < n) : 0 ≤ mdX m i x ∧ mdX m i x < n := by
  unfold mdX
  split
  · have h1 := Int.emod_nonneg (x + i) (show (m : Int) ≠ 0 by omega)
    have h2 := Int.emod_lt_of_pos (x + i) (show (0 : Int) < m by omega)
    omega
  · omega
theorem mdX_inj {m i : Nat} (hm : 1 ≤ m) {x z : Int} (hx : 0 ≤ x) (hz : 0 ≤ z) (h : mdX m i x = mdX m i z) : x = z := by
  have r : ∀ w : Int, 0 ≤ (w + i) % (m : Int) ∧ (w + i) % (m : Int) < m := fun w => ⟨Int.emod_nonneg _ (by omega), Int.emod_lt_of_pos _ (by omega)⟩
  unfold mdX at h
  by_cases hxm : x < m
  · by_cases hzm : z < m
    · rw [if_pos hxm, if_pos hzm] at h
      have d : ((m : Int)) ∣ (x + i) - (z + i) := Int.dvd_of_emod_eq_zero (by rw [Int.sub_emod, h, Int.sub_self]; simp)
      obtain ⟨c, hc⟩ := d
      have h1 : x - z = m * c := by omega
      have hc1 : c < 1 := by
        by_cases hh : 1 ≤ c
        · have := Int.mul_le_mul_of_nonneg_left hh (show (0 : Int) ≤ m by omega); omega
        · omega
      have hc2 : -1 < c := by
        by_cases hh : c ≤ -1
        · have := Int.mul_le_mul_of_nonneg_left hh (show (0 : Int) ≤ m by omega); omega
        · omega
      have hc0 : c = 0 := by omega
      rw [hc0] at h1
      omega
    · rw [if_pos hxm, if_neg hzm] at h
      have := r x; omega
  · by_cases hzm : z < m
    · rw [if_neg hxm, if_pos hzm] at h
      have := r z; omega
    · rw [if_neg hxm, if_neg hzm] at h; exact h
theorem mdL_mem {n m i : Nat} (hm : 1 ≤ m ∧ m ≤ n) {y : List Int} (hy : ∀ x ∈ y, 0 ≤ x ∧ x < (n : Int)) : ∀ x ∈ mdL m i y, 0 ≤ x ∧ x < (n : Int) := by
  intro x hx
  obtain ⟨z, hz, rfl⟩ := List.mem_map.1 hx
  exact mdX_range hm (hy z hz)
theorem getD_ne {l : List Int} (h : l.Nodup) {i j : Nat} (hi : i < l.length) (hj : j < l.length) (hij : i ≠ j) : l.getD i 0 ≠ l.getD j 0 := by
  rw [List.getD_eq_getElem?_getD, List.getD_eq_getElem?_getD, List.getElem?_eq_getElem hi, List.getElem?_eq_getElem hj]
  intro e
  exact hij ((List.getElem_inj h).1 e)
theorem mdL_nodup {n m i : Nat} (hm : 1 ≤ m) {y : List Int} (hy : ∀ x ∈ y, 0 ≤ x ∧ x < (n : Int)) (hn : y.Nodup) : (mdL m i y).Nodup := by
  unfold mdL
  unfold List.Nodup
  rw [List.pairwise_map]
  refine List.Pairwise.imp_of_mem ?_ hn
  intro a b ha hb hab e
  exact hab (mdX_inj hm (hy a ha).1 (hy b hb).1 e)
theorem tabM_diag {n m : Nat} {ws : List (Nat × Nat)} (hws : ∀ w ∈ ws, w.1 < 4 ∧ w.2 < 4 ∧ w.1 ≠ w.2) (hm : 1 ≤ m ∧ m ≤ n) {y : List Int} (hy : ∀ x ∈ y, 0 ≤ x ∧ x < (n : Int)) (hnd : y.Nodup) {k x : Nat} (hx : x < n) :
    ((tabM n ws (madeL m y k)).getD x []).getD x 0 = 0 := by
  unfold tabM
  rw [cntMx_at _ _ _ _ hx hx]
  have h0 : ixN n x x ∉ evA n ws (madeL m y k) (madeL m y k).length := by
    intro h
    unfold evA at h
    obtain ⟨i, hi, h⟩ := List.mem_flatMap.1 h
    have hik : i < k := by have := List.mem_range.1 hi; rw [madeL_length] at this; exact this
    rw [madeL_getD m y k i hik, mdL_length] at h
    unfold evR at h
    obtain ⟨t, ht, h⟩ := List.mem_flatMap.1 h
    have ht2 := List.mem_range.1 ht
    unfold evW at h
    obtain ⟨w, hw, h⟩ := List.mem_flatMap.1 h
    obtain ⟨w1, w2, w3⟩ := hws w hw
    have hl := mdL_length m i y
    have hmem : ∀ j, j < 4 → 0 ≤ (mdL m i y).getD (4 * t + j) 0 ∧ (mdL m i y).getD (4 * t + j) 0 < (n : Int) := fun j hj => by
      refine mdL_mem (i := i) hm hy _ ?_
      rw [List.getD_eq_getElem?_getD, List.getElem?_eq_getElem (by omega)]; exact List.getElem_mem _
    have hlt : ∀ j, j < 4 → qd (mdL m i y) t j < n := fun j hj => by have := hmem j hj; unfold qd; omega
    have hne : qd (mdL m i y) t w.1 ≠ qd (mdL m i y) t w.2 := by
      intro e
      have h1 := getD_ne (mdL_nodup (i := i) hm.1 hy hnd) (i := 4 * t + w.1) (j := 4 * t + w.2) (by omega) (by omega) (by omega)
      have h2 := hmem w.1 w1
      have h3 := hmem w.2 w2
      unfold qd at e
      omega
    simp only [List.mem_cons, List.not_mem_nil, or_false] at h
    rcases h with h | h
    · obtain ⟨e1, e2⟩ := ix_inj hx (hlt _ w2) h
      exact hne (by omega)
    · obtain ⟨e1, e2⟩ := ix_inj hx (hlt _ w1) h
      exact hne (by omega)
  rw [List.count_eq_zero.2 h0]
  rfl
def wP : List (Nat × Nat) := [(0, 1), (2, 3)]
def wO : List (Nat × Nat) := [(0, 2), (1, 3), (0, 3), (1, 2)]
def w1L : List (Nat × Nat) := [(0, 2), (1, 3)]
def formB (n : Nat) (R : List (List Int)) : Bool := decide (n % 4 ≤ 1) && decide (R.length = n - 1 + n % 4) && (List.range R.length).all fun i => decide ((R.getD i []).length = n - n % 4)
def whistB (n : Nat) (R : List (List Int)) : Bool := formB n R && (eachB (fun x => x == 1) (tabM n wP R) && eachB (fun x => x == 2) (tabM n wO R))
def mOf (n : Nat) : Nat := n - 1 + n % 4
def fitsB (n : Nat) (y : List Int) : Bool := eachB (fun x => decide (x ≤ 1)) (tabM n wP (madeL (mOf n) y (mOf n))) && eachB (fun x => decide (x ≤ 2)) (tabM n wO (madeL (mOf n) y (mOf n)))
theorem whist_fits {n : Nat} {y : List Int} (h : whistB n (madeL (mOf n) y (mOf n)) = true) : fitsB n y = true := by
  unfold whistB at h
  rw [Bool.and_eq_true, Bool.and_eq_true] at h
  unfold fitsB
  rw [eachB_imp (fun x hx => by have : x = 1 := by simpa using hx
                                simp [this]) h.2.1, eachB_imp (fun x hx => by have : x = 2 := by simpa using hx
                                                                              simp [this]) h.2.2]
  rfl
theorem fits_nil (n : Nat) : fitsB n [] = true := by
  have h : ∀ ws, tabM n ws (madeL (mOf n) [] (mOf n)) = zeroM n := by
    intro ws
    unfold tabM
    have e : evA n ws (madeL (mOf n) [] (mOf n)) (madeL (mOf n) [] (mOf n)).length = [] := by
      unfold evA
      rw [List.flatMap_eq_nil_iff]
      intro i hi
      have hik : i < mOf n := by have := List.mem_range.1 hi; rw [madeL_length] at this; exact this
      rw [madeL_getD _ _ _ i hik]
      simp [mdL, evR]
    rw [e, cntMx_nil]
  have z : ∀ p : Int → Bool, p 0 = true → eachB p (zeroM n) = true := fun p hp => eachB_good fun i hi j hj => by
    have hs := zeroM_sq n
    have hi2 : i < n := by rw [hs.1] at hi; exact hi
    have hj2 : j < n := by rw [hs.2 i hi2] at hj; exact hj
    unfold eachAt
    have e : ((zeroM n).getD i []).getD j 0 = 0 := by simp [zeroM, List.getD_eq_getElem?_getD, List.getElem?_replicate, hi2, hj2]
    rw [e, hp, Bool.or_true]
  unfold fitsB
  rw [h, h, z _ (by decide), z _ (by decide)]
  rfl
def fbN (n : Nat) : Nat → List Int → Option (List Int)
  | 0, y => if whistB n (madeL (mOf n) y (mOf n)) = true then some y else none
  | f + 1, y => if y.length % 4 = 0 ∧ 0 < y.length ∧ fitsB n y = false then none else (seqL 0 n).findSome? fun x => if y.contains x = true then none else fbN n f (y ++ [x])
theorem fbN_mem {n : Nat} : ∀ (f : Nat) (y z : List Int), fbN n f y = some z → z.length = y.length + f
  | 0, y, z, h => by
    unfold fbN at h
    split at h
    · injection h with h; subst h; rfl
    · cases h
  | f + 1, y, z, h => by
    unfold fbN at h
    split at h
    · cases h
    · obtain ⟨x, _, hx⟩ := List.exists_of_findSome?_eq_some h
      split at hx
      · cases hx
      · have := fbN_mem f _ _ hx
        rw [List.length_append, List.length_singleton] at this
        omega
theorem findSome_take {α : Type} (g : Int → Option α) (n a : Nat) (ha : a < n) (hp : ∀ j, j < a → g (j : Int) = none) {z : α} (hz : g (a : Int) = some z) : (seqL 0 n).findSome? g = some z := by
  have e : seqL 0 n = seqL 0 a ++ seqL a (n - a) := by
    unfold seqL
    rw [show n = a + (n - a) by omega, List.range_add, List.map_append, List.map_map, show a + (n - a) - a = n - a by omega]
    congr 1
    apply List.map_congr_left
    intro i _
    show (0 : Int) + ((a + i : Nat) : Int) = (a : Int) + i
    omega
  rw [e, List.findSome?_append]
  have h1 : (seqL 0 a).findSome? g = none := by
    rw [List.findSome?_eq_none_iff]
    intro x hx
    obtain ⟨j, hj, rfl⟩ := List.mem_map.1 hx
    have := hp j (List.mem_range.1 hj)
    show g (0 + (j : Int)) = none
    rw [show (0 : Int) + j = j by omega]
    exact this
  rw [h1]
  obtain ⟨c, hc⟩ : ∃ c, n - a = c + 1 := ⟨n - a - 1, by omega⟩
  rw [hc]
  have e2 : seqL (a : Int) (c + 1) = (a : Int) :: seqL ((a : Int) + 1) c := by
    unfold seqL
    rw [List.range_succ_eq_map, List.map_cons, List.map_map]
    congr 1
    apply List.map_congr_left
    intro i _
    show (a : Int) + ((i + 1 : Nat) : Int) = a + 1 + (i : Int)
    omega
  rw [e2, List.findSome?_cons, hz]
  rfl
theorem findSome_none {α : Type} (g : Int → Option α) (n : Nat) (hp : ∀ j, j < n → g (j : Int) = none) : (seqL 0 n).findSome? g = none := by
  rw [List.findSome?_eq_none_iff]
  intro x hx
  obtain ⟨j, hj, rfl⟩ := List.mem_map.1 hx
  show g (0 + (j : Int)) = none
  rw [show (0 : Int) + j = j by omega]
  exact hp j (List.mem_range.1 hj)
def fbOk (n : Int) : Bool := decide (n = 4 ∨ n = 5 ∨ n = 8 ∨ n = 9)
def fbO (n : Int) : Option (List Int) := if fbOk n = true then fbN n.toNat (n.toNat - n.toNat % 4) [] else none
def fbR (n : Int) : List Int := (fbO n).getD []
def fbC (n : Int) : Int := if fbOk n = true then (if (fbO n).isSome = true then 0 else 4) else 2
theorem fbR_length (n : Int) : (fbR n).length ≤ 16 := by
  unfold fbR fbO
  split
  · rename_i h
    cases e : fbN n.toNat (n.toNat - n.toNat % 4) [] with
    | none => simp
    | some z =>
      have h1 := fbN_mem _ _ _ e
      have h2 : n = 4 ∨ n = 5 ∨ n = 8 ∨ n = 9 := of_decide_eq_true h
      simp at h1 ⊢
      omega
  · simp
end Go.Abs
end

section
set_option maxRecDepth 100000
set_option maxHeartbeats 2000000
namespace Go.Proofs.YtpienljnoaendaaGreat.A
open Go Go.Abs Go.RowKit
theorem areAll_c (g : FuncId) (p : Int → Bool) (hp : ∀ (x : Int) (H : AH), ACalls Tryz.prog g [.int .i64 x] H (is (.bool (p x)) H)) (v : Value) (n : Nat) (M : List (List Int)) (H : AH) (hv : Rd2 1 H v M) (hM : SqM n M) (hn : n ≤ 1024) : ACalls Tryz.prog 146 [v, .func (.func g) #[] #[]] H (is (.bool (eachB p M)) H) := by
  refine acalls_up rfl (acalls_of_awp [.tmp 4] Tryz.func146 (by kernel_rfl) rfl rfl (Nat.le_of_ble_eq_true rfl) (by kernel_rfl) ?_)
  have hlen := hv.len
  rw [hM.1] at hlen
  try simp (disch := first | omega | (simp only [L3] <;> omega)) only [Sall,evalOp,init,binA_s,binE,binI,unE,convE,okNil,builtE,gv,TD.isAgg,resV,↓reduceIte,Nat.reduceEqDiff,reduceCtorEq,Nat.reduceAdd,Nat.reduceMul,Nat.reduceLeDiff,quietOp,blindOp,Int.reduceEq,Int.reduceLT,Int.reduceLE,Nat.reduceLT,tiA, builtE, hlen]
  refine awp_loop (fun m t H' => ∃ a : Nat, m = n - a ∧ a ≤ n ∧ t 11 = .int .i64 a ∧ t 10 = .int .i64 n ∧ t 9 = v ∧ t 1 = .func (.func g) #[] #[] ∧ H' = H ∧ (∀ i, i < a → ∀ j, j < n → eachAt p M i j = true)) n ?_ ?_
  · refine ⟨0, by omega, by omega, ?_⟩
    try simp (disch := first | omega | (simp only [L3] <;> omega)) only [Sall,evalOp,init,binA_s,binE,binI,unE,convE,okNil,builtE,gv,TD.isAgg,resV,↓reduceIte,Nat.reduceEqDiff,reduceCtorEq,Nat.reduceAdd,Nat.reduceMul,Nat.reduceLeDiff,quietOp,blindOp,Int.reduceEq,Int.reduceLT,Int.reduceLE,Nat.reduceLT,tiA, Int.natCast_zero, Nat.not_lt_zero, false_implies]
  · rintro m t H' ⟨a, hm, han, h11, h10, h9, h1, rfl, hall⟩
    try simp (disch := first | omega | (simp only [L3] <;> omega)) only [Sall,evalOp,init,binA_s,binE,binI,unE,convE,okNil,builtE,gv,TD.isAgg,resV,↓reduceIte,Nat.reduceEqDiff,reduceCtorEq,Nat.reduceAdd,Nat.reduceMul,Nat.reduceLeDiff,quietOp,blindOp,Int.reduceEq,Int.reduceLT,Int.reduceLE,Nat.reduceLT,tiA, h11, h10]
    refine condC_dec (fun h => ?_) (fun h => ?_)
    · obtain ⟨i, o, u, c, r, y, my, rfl, hr, hy, hsx, hok⟩ := hv.get (j := a) (by rw [hM.1]; omega)
      have hmy := hsx.lenK1
      have hrow := hM.2 a (by omega)
      have hMl := hM.1
      rw [hrow] at hmy
      subst hmy
      try simp (disch := first | omega | (simp only [L3] <;> omega)) only [Sall,evalOp,init,binA_s,binE,binI,unE,convE,okNil,builtE,gv,TD.isAgg,resV,↓reduceIte,Nat.reduceEqDiff,reduceCtorEq,Nat.reduceAdd,Nat.reduceMul,Nat.reduceLeDiff,quietOp,blindOp,Int.reduceEq,Int.reduceLT,Int.reduceLE,Nat.reduceLT,tiA, h11, h10, h9, h1, hr, hy, hok, builtE, hsx.len]
      rw [hMl]
      (repeat refine And.intro (by omega) ?_)
      refine awp_loop (fun z t H7 => ∃ b : Nat, z = my - b ∧ b ≤ my ∧ t 18 = .int .i64 b ∧ t 17 = .int .i64 my ∧ t 16 = y ∧ t 5 = .int .i64 a ∧ t 11 = .int .i64 a ∧ t 10 = .int .i64 my ∧ t 9 = .slice (some ⟨i, o, u⟩) M.length c ∧ t 1 = .func (.func g) #[] #[] ∧ H7 = H' ∧ (∀ j, j < b → eachAt p M a j = true)) my ?_ ?_
      · refine ⟨0, by omega, by omega, ?_⟩
        try simp (disch := first | omega | (simp only [L3] <;> omega)) only [Sall,evalOp,init,binA_s,binE,binI,unE,convE,okNil,builtE,gv,TD.isAgg,resV,↓reduceIte,Nat.reduceEqDiff,reduceCtorEq,Nat.reduceAdd,Nat.reduceMul,Nat.reduceLeDiff,quietOp,blindOp,Int.reduceEq,Int.reduceLT,Int.reduceLE,Nat.reduceLT,tiA, Int.natCast_zero, Nat.not_lt_zero, false_implies, h11, h10, h9, h1]
        try rw [hMl]
      · rintro z t H7 ⟨b, hz, hbn, h18, h17, h16, h5, h11, h10, h9, h1, rfl, hin⟩
        try simp (disch := first | omega | (simp only [L3] <;> omega)) only [Sall,evalOp,init,binA_s,binE,binI,unE,convE,okNil,builtE,gv,TD.isAgg,resV,↓reduceIte,Nat.reduceEqDiff,reduceCtorEq,Nat.reduceAdd,Nat.reduceMul,Nat.reduceLeDiff,quietOp,blindOp,Int.reduceEq,Int.reduceLT,Int.reduceLE,Nat.reduceLT,tiA, h18, h17]
        refine condC_dec (fun hh => ?_) (fun hh => ?_)
        · obtain ⟨i7, o7, u7, c7, r7, rfl, hr7, hc7, hs7, hg7⟩ := hsx.get (by omega)
          have g1 := hs7 b (by omega)
          by_cases hab : a = b
          · have e2 : ((a : Int) != (b : Int)) = false := by rw [hab]; exact bne_self_eq_false _
            have hbal : eachAt p M a b = true := by unfold eachAt; rw [decide_eq_true hab]; rfl
            try simp (disch := first | omega | (simp only [L3] <;> omega)) only [Sall,evalOp,init,binA_s,binE,binI,unE,convE,okNil,builtE,gv,TD.isAgg,resV,↓reduceIte,Nat.reduceEqDiff,reduceCtorEq,Nat.reduceAdd,Nat.reduceMul,Nat.reduceLeDiff,quietOp,blindOp,Int.reduceEq,Int.reduceLT,Int.reduceLE,Nat.reduceLT,tiA, h18, h17, h16, h5, h11, h10, h9, h1, hr7, g1, e2, w64]
            (repeat refine And.intro (by omega) ?_)
            refine ⟨my - (b + 1), by omega, b + 1, rfl, by omega, rfl, fun j hj => ?_⟩
            by_cases e : j = b
            · rw [e]; exact hbal
            · exact hin j (by omega)
          · have e2 : ((a : Int) != (b : Int)) = true := by rw [bne_iff_ne]; omega
            try simp (disch := first | omega | (simp only [L3] <;> omega)) only [Sall,evalOp,init,binA_s,binE,binI,unE,convE,okNil,builtE,gv,TD.isAgg,resV,↓reduceIte,Nat.reduceEqDiff,reduceCtorEq,Nat.reduceAdd,Nat.reduceMul,Nat.reduceLeDiff,quietOp,blindOp,Int.reduceEq,Int.reduceLT,Int.reduceLE,Nat.reduceLT,tiA, h18, h17, h16, h5, h11, h10, h9, h1, hr7, g1, e2]
            (repeat refine And.intro (by omega) ?_)
            refine (hp _ _).to ?_
            cases hx1 : p ((M.getD a []).getD b 0) with
            | true =>
              have hbal : eachAt p M a b = true := by unfold eachAt; rw [hx1]; simp
              try simp (disch := first | omega | (simp only [L3] <;> omega)) only [Sall,evalOp,init,binA_s,binE,binI,unE,convE,okNil,builtE,gv,TD.isAgg,resV,↓reduceIte,Nat.reduceEqDiff,reduceCtorEq,Nat.reduceAdd,Nat.reduceMul,Nat.reduceLeDiff,quietOp,blindOp,Int.reduceEq,Int.reduceLT,Int.reduceLE,Nat.reduceLT,tiA, Bool.not_true, h18, h17, h16, h5, h11, h10, h9, h1, w64]
              refine ⟨my - (b + 1), by omega, b + 1, rfl, by omega, rfl, fun j hj => ?_⟩
              by_cases e : j = b
              · rw [e]; exact hbal
              · exact hin j (by omega)
            | false =>
              have hbal : eachAt p M a b = false := by
                unfold eachAt
                rw [decide_eq_false hab, hx1]; rfl
              try simp (disch := first | omega | (simp only [L3] <;> omega)) only [Sall,evalOp,init,binA_s,binE,binI,unE,convE,okNil,builtE,gv,TD.isAgg,resV,↓reduceIte,Nat.reduceEqDiff,reduceCtorEq,Nat.reduceAdd,Nat.reduceMul,Nat.reduceLeDiff,quietOp,blindOp,Int.reduceEq,Int.reduceLT,Int.reduceLE,Nat.reduceLT,tiA, Bool.not_false]
              rw [eachB_bad (i := a) (j := b) (by rw [hMl]; omega) (by omega) hbal]
              exact ⟨rfl, Up.refl _ _⟩
        · try simp (disch := first | omega | (simp only [L3] <;> omega)) only [Sall,evalOp,init,binA_s,binE,binI,unE,convE,okNil,builtE,gv,TD.isAgg,resV,↓reduceIte,Nat.reduceEqDiff,reduceCtorEq,Nat.reduceAdd,Nat.reduceMul,Nat.reduceLeDiff,quietOp,blindOp,Int.reduceEq,Int.reduceLT,Int.reduceLE,Nat.reduceLT,tiA, h11, h10, h9, h1, w64]
          refine ⟨my - (a + 1), by omega, a + 1, rfl, by omega, rfl, by first | rfl | rw [hMl], fun i hi j hj => ?_⟩
          by_cases e : i = a
          · rw [e]; exact hin j (by omega)
          · exact hall i (by omega) j hj
    · try simp (disch := first | omega | (simp only [L3] <;> omega)) only [Sall,evalOp,init,binA_s,binE,binI,unE,convE,okNil,builtE,gv,TD.isAgg,resV,↓reduceIte,Nat.reduceEqDiff,reduceCtorEq,Nat.reduceAdd,Nat.reduceMul,Nat.reduceLeDiff,quietOp,blindOp,Int.reduceEq,Int.reduceLT,Int.reduceLE,Nat.reduceLT,tiA, true_and]
      rw [eachB_good (fun i hi j hj => hall i (by rw [hM.1] at hi; omega) j (by rw [hM.1] at hi; rw [hM.2 i hi] at hj; exact hj))]
      exact ⟨rfl, Up.refl _ _⟩
def FrE (q : Int) (R : List (List Int)) (H : AH) (v : Value) (H' : AH) : Prop := ∃ u, v = .agg #[.int .i64 q, u] ∧ Up H.next H H' ∧ Fr2 1 33 2 H.next H'.next H' u R
theorem mdX_tmod {m i : Nat} {x : Int} (hx : 0 ≤ x) (h : x < m) : Int.tmod (x + i) m = mdX m i x := by
  unfold mdX
  rw [if_pos h, Int.tmod_eq_emod_of_nonneg (by omega)]
theorem mdX_out {m i : Nat} {x : Int} (h : ¬ x < m) : mdX m i x = x := by unfold mdX; rw [if_neg h]
theorem madeFrom_c (n : Nat) (hn : 1 ≤ n ∧ n ≤ 16) (v : Value) (y : List Int) (H : AH) (hv : Rd 1 H v y.length y) (hy : y.length ≤ 64) (hin : ∀ x ∈ y, 0 ≤ x ∧ x < (n : Int)) :
    ACalls Tryz.prog 155 [.int .i64 n, v] H (FrE n (madeL (mOf n) y (mOf n)) H) := by
  refine ACalls.wf (by kernel_rfl) fun hs => acalls_of_awp [.cell 4 55] Tryz.func155 (by kernel_rfl) rfl rfl (Nat.le_of_ble_eq_true rfl) (by kernel_rfl) ?_
  have em : Int.tmod (n : Int) 4 = ((n % 4 : Nat) : Int) := rfl
  obtain ⟨m, hm⟩ : ∃ m, m = mOf n := ⟨_, rfl⟩
  have em2 : (n : Int) - 1 + ((n % 4 : Nat) : Int) = (m : Int) := by rw [hm]; unfold mOf; omega
  have hm1 : 1 ≤ m ∨ m = 0 := by omega
  have hm2 : m ≤ 19 := by rw [hm]; unfold mOf; omega
  rw [← hm]
  try simp (disch := first | omega | (simp only [L3] <;> omega)) only [Sall,evalOp,init,binA_s,binE,binI,unE,convE,okNil,builtE,gv,TD.isAgg,resV,↓reduceIte,Nat.reduceEqDiff,reduceCtorEq,Nat.reduceAdd,Nat.reduceMul,Nat.reduceLeDiff,quietOp,blindOp,Int.reduceEq,Int.reduceLT,Int.reduceLE,Nat.reduceLT,tiA, w64, em, em2]
  refine awp_loop (fun z t H' => ∃ (a : Nat) (u : Value) (lo hi : Nat), z = m - a ∧ a ≤ m ∧ t 19 = .int .i64 a ∧ t 18 = .int .i64 m ∧ t 5 = .int .i64 m ∧ t 1 = v ∧ t 4 = .pointer (some ⟨H.next, 0, none⟩) ∧ t 6 = .pointer (some ⟨H.next + 1, 0, none⟩) ∧ Up H.next H H' ∧ H.next + 2 ≤ H'.next ∧
    H'.row H.next = some ⟨55, true, [.int .i64 0, .slice none 0 0]⟩ ∧ H'.row (H.next + 1) = some ⟨55, true, [.int .i64 n, u]⟩ ∧ H.next + 2 ≤ lo ∧ lo ≤ hi ∧ hi ≤ H'.next ∧ Fr2 1 33 2 lo hi H' u (madeL m y a)) m ?_ ?_
  · refine ⟨0, .slice none 0 0, H.next + 2, H.next + 2, by omega, by omega, ?_⟩
    try simp (disch := first | omega | (simp only [L3] <;> omega)) only [Sall,evalOp,init,binA_s,binE,binI,unE,convE,okNil,builtE,gv,TD.isAgg,resV,↓reduceIte,Nat.reduceEqDiff,reduceCtorEq,Nat.reduceAdd,Nat.reduceMul,Nat.reduceLeDiff,quietOp,blindOp,Int.reduceEq,Int.reduceLT,Int.reduceLE,Nat.reduceLT,tiA, Int.natCast_zero]
    exact ⟨((((Up.refl _ H).push (by omega) _).push (by simp only [AH.push_next]; omega) _).set (by omega) _), .inl ⟨by simp [madeL], rfl⟩⟩
  · rintro z t H' ⟨a, u, lo, hi, hz, ham, h19, h18, h5, h1, h4, h6, hup, hnx, r0, r1, hlo, hlh, hhi, hf⟩
    have hup1 := hup.next
    try simp (disch := first | omega | (simp only [L3] <;> omega)) only [Sall,evalOp,init,binA_s,binE,binI,unE,convE,okNil,builtE,gv,TD.isAgg,resV,↓reduceIte,Nat.reduceEqDiff,reduceCtorEq,Nat.reduceAdd,Nat.reduceMul,Nat.reduceLeDiff,quietOp,blindOp,Int.reduceEq,Int.reduceLT,Int.reduceLE,Nat.reduceLT,tiA, h19, h18]
    refine condC_dec (fun h => ?_) (fun h => ?_)
    · have hv1 : Rd 1 H' v y.length y := hv.same (hup.le hs).row
      have hln := hv1.len
      have hln2 : ∀ H2 : AH, (asSl v (Out.val (Value.int IntKind.i64 0) H2) fun _ _ _ n _ => Out.val (Value.int IntKind.i64 (n : Int)) H2) = Out.val (Value.int IntKind.i64 y.length) H2 := fun H2 => hln H2
      try simp (disch := first | omega | (simp only [L3] <;> omega)) only [Sall,evalOp,init,binA_s,binE,binI,unE,convE,okNil,builtE,gv,TD.isAgg,resV,↓reduceIte,Nat.reduceEqDiff,reduceCtorEq,Nat.reduceAdd,Nat.reduceMul,Nat.reduceLeDiff,quietOp,blindOp,Int.reduceEq,Int.reduceLT,Int.reduceLE,Nat.reduceLT,tiA, h19, h18, h5, h1, h4, h6, builtE, hln2, zeros_zero]
      refine awp_loop (fun z t H3 => ∃ (c : Nat) (w : Value) (lo2 hi2 : Nat), z = y.length - c ∧ c ≤ y.length ∧ t 25 = .int .i64 c ∧ t 24 = .int .i64 y.length ∧ t 23 = v ∧ t 8 = w ∧ t 7 = .int .i64 a ∧ t 19 = .int .i64 a ∧ t 18 = .int .i64 m ∧ t 5 = .int .i64 m ∧ t 1 = v ∧ t 4 = .pointer (some ⟨H.next, 0, none⟩) ∧ t 6 = .pointer (some ⟨H.next + 1, 0, none⟩) ∧ Up H'.next H' H3 ∧ H'.next ≤ lo2 ∧ lo2 ≤ hi2 ∧ hi2 ≤ H3.next ∧ Fr 1 2 lo2 hi2 H3 w c (mdL m a (y.take c))) y.length ?_ ?_
      · refine ⟨0, .slice (some ⟨H'.next, 0, some 1⟩) 0 0, H'.next, H'.next + 1, by omega, by omega, ?_⟩
        try simp (disch := first | omega | (simp only [L3] <;> omega)) only [Sall,evalOp,init,binA_s,binE,binI,unE,convE,okNil,builtE,gv,TD.isAgg,resV,↓reduceIte,Nat.reduceEqDiff,reduceCtorEq,Nat.reduceAdd,Nat.reduceMul,Nat.reduceLeDiff,quietOp,blindOp,Int.reduceEq,Int.reduceLT,Int.reduceLE,Nat.reduceLT,tiA, Int.natCast_zero, h19, h18, h5, h1, h4, h6]
        refine ⟨(Up.refl _ H').push (by omega) _, ?_⟩
        (repeat refine And.intro (by omega) ?_)
        exact ⟨by simp [mdL], .inr ⟨H'.next, Nat.le_refl _, Nat.lt_succ_self _, rfl, by rw [AH.push_row, if_pos rfl]; rfl⟩⟩
      · rintro z t H3 ⟨c, w, lo2, hi2, hz, hcn, h25, h24, h23, h8, h7, h19, h18, h5, h1, h4, h6, hup3, hlo2, hlh2, hhi2, hw⟩
        have hup31 := hup3.next
        try simp (disch := first | omega | (simp only [L3] <;> omega)) only [Sall,evalOp,init,binA_s,binE,binI,unE,convE,okNil,builtE,gv,TD.isAgg,resV,↓reduceIte,Nat.reduceEqDiff,reduceCtorEq,Nat.reduceAdd,Nat.reduceMul,Nat.reduceLeDiff,quietOp,blindOp,Int.reduceEq,Int.reduceLT,Int.reduceLE,Nat.reduceLT,tiA, h25, h24]
        refine condC_dec (fun hh => ?_) (fun hh => ?_)
        · have hv3 : Rd 1 H3 v y.length y := hv.same fun i r hr => by rw [hup3.row i (by have := hs _ _ hr; omega), hup.row i (hs _ _ hr)]; exact hr
          obtain ⟨i, o, uu, cc, r, rfl, hr, hc, hg, _⟩ := hv3.get (by omega)
          have g1 := hg c (by omega)
          have hx := hin (y.getD c 0) (by rw [List.getD_eq_getElem?_getD, List.getElem?_eq_getElem (by omega)]; exact List.getElem_mem _)
          have hsn := mdL_snoc m a y c (by omega)
          revert g1 hx hsn
          generalize y.getD c 0 = x
          intro g1 hx hsn
          have zz : zeros 1 [.int .i64 0] = [.int .i64 0] := rfl
          by_cases hxm : x < (m : Int)
          · have hE := mdX_tmod (m := m) (i := a) hx.1 hxm
            try simp (disch := first | omega | (simp only [L3] <;> omega)) only [Sall,evalOp,init,binA_s,binE,binI,unE,convE,okNil,builtE,gv,TD.isAgg,resV,↓reduceIte,Nat.reduceEqDiff,reduceCtorEq,Nat.reduceAdd,Nat.reduceMul,Nat.reduceLeDiff,quietOp,blindOp,Int.reduceEq,Int.reduceLT,Int.reduceLE,Nat.reduceLT,tiA, h25, h24, h23, h8, h7, h19, h18, h5, h1, h4, h6, hr, g1, hxm, decide_true, zz, slCells, w64, hE]
            (repeat refine And.intro (by omega) ?_)
            obtain ⟨H4, e4⟩ : ∃ H4, H4 = H3.push ⟨2, true, [.int .i64 (mdX m a x)]⟩ := ⟨_, rfl⟩
            have n4 : H4.next = H3.next + 1 := by rw [e4]; rfl
            have s4 : ∀ i, i < H3.next → H4.row i = H3.row i := fun i hi => by rw [e4, AH.push_row, if_neg (by omega)]
            rw [← e4]
            clear e4
            refine appE_fr (k := 1) (lo := lo2) (hi := hi2) (l := mdL m a (y.take c)) (m := [mdX m a x]) (hw.same fun i _ hi => s4 i (by omega)) rfl (by omega) rfl (by omega) (by decide) (by omega) (by omega) ?_
            intro v' H5 n5 s5 f5
            try simp (disch := first | omega | (simp only [L3] <;> omega)) only [Sall,evalOp,init,binA_s,binE,binI,unE,convE,okNil,builtE,gv,TD.isAgg,resV,↓reduceIte,Nat.reduceEqDiff,reduceCtorEq,Nat.reduceAdd,Nat.reduceMul,Nat.reduceLeDiff,quietOp,blindOp,Int.reduceEq,Int.reduceLT,Int.reduceLE,Nat.reduceLT,tiA, h25, h24, h23, h7, h19, h18, h5, h1, h4, h6, w64]
            refine ⟨y.length - (c + 1), by omega, c + 1, v', H4.next, H4.next + 1, rfl, by omega, rfl, rfl, ⟨by omega, fun i hi => by rw [s5 i (by omega) (by omega), s4 i (by omega), hup3.row i hi]⟩, by omega, by omega, by omega, ?_⟩
            rw [hsn]; exact f5
          · have hE := mdX_out (m := m) (i := a) hxm
            try simp (disch := first | omega | (simp only [L3] <;> omega)) only [Sall,evalOp,init,binA_s,binE,binI,unE,convE,okNil,builtE,gv,TD.isAgg,resV,↓reduceIte,Nat.reduceEqDiff,reduceCtorEq,Nat.reduceAdd,Nat.reduceMul,Nat.reduceLeDiff,quietOp,blindOp,Int.reduceEq,Int.reduceLT,Int.reduceLE,Nat.reduceLT,tiA, h25, h24, h23, h8, h7, h19, h18, h5, h1, h4, h6, hr, g1, hxm, decide_false, zz, slCells, w64]
            (repeat refine And.intro (by omega) ?_)
            obtain ⟨H4, e4⟩ : ∃ H4, H4 = H3.push ⟨2, true, [.int .i64 (x)]⟩ := ⟨_, rfl⟩
            have n4 : H4.next = H3.next + 1 := by rw [e4]; rfl
            have s4 : ∀ i, i < H3.next → H4.row i = H3.row i := fun i hi => by rw [e4, AH.push_row, if_neg (by omega)]
            rw [← e4]
            clear e4
            refine appE_fr (k := 1) (lo := lo2) (hi := hi2) (l := mdL m a (y.take c)) (m := [x]) (hw.same fun i _ hi => s4 i (by omega)) rfl (by omega) rfl (by omega) (by decide) (by omega) (by omega) ?_
            intro v' H5 n5 s5 f5
            try simp (disch := first | omega | (simp only [L3] <;> omega)) only [Sall,evalOp,init,binA_s,binE,binI,unE,convE,okNil,builtE,gv,TD.isAgg,resV,↓reduceIte,Nat.reduceEqDiff,reduceCtorEq,Nat.reduceAdd,Nat.reduceMul,Nat.reduceLeDiff,quietOp,blindOp,Int.reduceEq,Int.reduceLT,Int.reduceLE,Nat.reduceLT,tiA, h25, h24, h23, h7, h19, h18, h5, h1, h4, h6, w64]
            refine ⟨y.length - (c + 1), by omega, c + 1, v', H4.next, H4.next + 1, rfl, by omega, rfl, rfl, ⟨by omega, fun i hi => by rw [s5 i (by omega) (by omega), s4 i (by omega), hup3.row i hi]⟩, by omega, by omega, by omega, ?_⟩
            rw [hsn, hE]; exact f5
        · have hc : c = y.length := by omega
          subst hc
          rw [List.take_length] at hw
          have zz : zeros 1 [.slice none 0 0] = [.slice none 0 0] := rfl
          have ho := hw.rd.one
          have hc1 := cells_of_one ho
          have hc2 := noTuple_of_one ho
          have r3 : H3.row (H.next + 1) = some ⟨55, true, [.int .i64 n, u]⟩ := by rw [hup3.row _ (by omega), r1]
          have r30 : H3.row H.next = some ⟨55, true, [.int .i64 0, .slice none 0 0]⟩ := by rw [hup3.row _ (by omega), r0]
          have hne : ¬ H.next + 1 = H3.next := by omega
          try simp (disch := first | omega | (simp only [L3] <;> omega)) only [Sall,evalOp,init,binA_s,binE,binI,unE,convE,okNil,builtE,gv,TD.isAgg,resV,↓reduceIte,Nat.reduceEqDiff,reduceCtorEq,Nat.reduceAdd,Nat.reduceMul,Nat.reduceLeDiff,quietOp,blindOp,Int.reduceEq,Int.reduceLT,Int.reduceLE,Nat.reduceLT,tiA, h8, h7, h19, h18, h5, h1, h4, h6, r3, zz, slCells, ho, hc1, hc2, hne]
          obtain ⟨H4, e4⟩ : ∃ H4, H4 = H3.push ⟨33, true, [w]⟩ := ⟨_, rfl⟩
          have n4 : H4.next = H3.next + 1 := by rw [e4]; rfl
          have s4 : ∀ i, i < H3.next → H4.row i = H3.row i := fun i hi => by rw [e4, AH.push_row, if_neg (by omega)]
          rw [← e4]
          clear e4
          refine appE_fr2 (lo := lo) (hi := hi) (hf.same fun i _ hi => by rw [s4 i (by omega), hup3.row i (by omega)]) ((hw.same fun i _ hi => s4 i (by omega)).wide (by omega) (by omega)) rfl (by decide) (by rw [madeL_length]; omega) hlh (by omega) ?_
          intro v' H5 n5 s5 f5
          have r5 : H5.row (H.next + 1) = some ⟨55, true, [.int .i64 n, u]⟩ := by rw [s5 _ (by omega) (by omega), s4 _ (by omega), r3]
          have r50 : H5.row H.next = some ⟨55, true, [.int .i64 0, .slice none 0 0]⟩ := by rw [s5 _ (by omega) (by omega), s4 _ (by omega), r30]
          have o5 := f5.rd.one
          try simp (disch := first | omega | (simp only [L3] <;> omega)) only [Sall,evalOp,init,binA_s,binE,binI,unE,convE,okNil,builtE,gv,TD.isAgg,resV,↓reduceIte,Nat.reduceEqDiff,reduceCtorEq,Nat.reduceAdd,Nat.reduceMul,Nat.reduceLeDiff,quietOp,blindOp,Int.reduceEq,Int.reduceLT,Int.reduceLE,Nat.reduceLT,tiA, h19, h18, h5, h1, h4, h6, r5, o5, w64]
          refine ⟨m - (a + 1), by omega, a + 1, v', lo, H4.next + 1, rfl, by omega, rfl, Up.set ⟨by omega, fun i hi => by rw [s5 i (by omega) (by omega), s4 i (by omega), hup3.row i (by omega), hup.row i hi]⟩ (by omega) _, by omega, ?_, ?_, by omega, by omega, by omega, ?_⟩
          · exact r50
          · rfl
          · rw [madeL_succ]
            exact f5.same fun i hi _ => by rw [AH.setCells_row, if_neg (by omega)]
    · have ha : a = m := by omega
      subst ha
      have ho := hf.rd.one
      try simp (disch := first | omega | (simp only [L3] <;> omega)) only [Sall,evalOp,init,binA_s,binE,binI,unE,convE,okNil,builtE,gv,TD.isAgg,resV,↓reduceIte,Nat.reduceEqDiff,reduceCtorEq,Nat.reduceAdd,Nat.reduceMul,Nat.reduceLeDiff,quietOp,blindOp,Int.reduceEq,Int.reduceLT,Int.reduceLE,Nat.reduceLT,tiA, h6, h4, r0, r1, ho]
      refine ⟨u, rfl, hup.set (Nat.le_refl _) _, ?_⟩
      exact (hf.same (H' := H'.setCells H.next [.int .i64 n, u]) fun i hi _ => by rw [AH.setCells_row, if_neg (by omega)]).wide (by omega) (by simp only [AH.setCells_next]; omega)
theorem l06Made_c (n : Nat) (hn : 1 ≤ n ∧ n ≤ 16) (v : Value) (y : List Int) (H : AH) (hv : Rd 1 H v y.length y) (hy : y.length ≤ 64) (hin : ∀ x ∈ y, 0 ≤ x ∧ x < (n : Int)) :
    ACalls Tryz.prog 157 [.int .i64 n, v] H (FrE n (madeL (mOf n) y (mOf n)) H) := by
  refine ACalls.wf (by kernel_rfl) fun hs => acalls_of_awp [.cell 4 55] Tryz.func157 (by kernel_rfl) rfl rfl (Nat.le_of_ble_eq_true rfl) (by kernel_rfl) ?_
  have em : Int.tmod (n : Int) 4 = ((n % 4 : Nat) : Int) := rfl
  obtain ⟨m, hm⟩ : ∃ m, m = mOf n := ⟨_, rfl⟩
  have em2 : (n : Int) - 1 + ((n % 4 : Nat) : Int) = (m : Int) := by rw [hm]; unfold mOf; omega
  have hm1 : 1 ≤ m ∨ m = 0 := by omega
  have hm2 : m ≤ 19 := by rw [hm]; unfold mOf; omega
  rw [← hm]
  try simp (disch := first | omega | (simp only [L3] <;> omega)) only [Sall,evalOp,init,binA_s,binE,binI,unE,convE,okNil,builtE,gv,TD.isAgg,resV,↓reduceIte,Nat.reduceEqDiff,reduceCtorEq,Nat.reduceAdd,Nat.reduceMul,Nat.reduceLeDiff,quietOp,blindOp,Int.reduceEq,Int.reduceLT,Int.reduceLE,Nat.reduceLT,tiA, w64, em, em2]
  refine awp_loop (fun z t H' => ∃ (a : Nat) (u : Value) (lo hi : Nat), z = m - a ∧ a ≤ m ∧ t 7 = .int .i64 a ∧ t 6 = .int .i64 m ∧ t 1 = v ∧ t 4 = .pointer (some ⟨H.next, 0, none⟩) ∧ t 5 = .pointer (some ⟨H.next + 2, 0, none⟩) ∧ Up H.next H H' ∧ H.next + 3 ≤ H'.next ∧
    H'.row H.next = some ⟨55, true, [.int .i64 0, .slice none 0 0]⟩ ∧ H'.row (H.next + 2) = some ⟨55, true, [.int .i64 n, u]⟩ ∧ H.next + 1 ≤ lo ∧ lo ≤ hi ∧ hi ≤ H'.next ∧ Fr2 1 33 2 lo hi H' u (madeL m y a)) m ?_ ?_
  · refine ⟨0, .slice (some ⟨H.next + 1, 0, some 1⟩) 0 0, H.next + 1, H.next + 2, by omega, by omega, ?_⟩
    try simp (disch := first | omega | (simp only [L3] <;> omega)) only [Sall,evalOp,init,binA_s,binE,binI,unE,convE,okNil,builtE,gv,TD.isAgg,resV,↓reduceIte,Nat.reduceEqDiff,reduceCtorEq,Nat.reduceAdd,Nat.reduceMul,Nat.reduceLeDiff,quietOp,blindOp,Int.reduceEq,Int.reduceLT,Int.reduceLE,Nat.reduceLT,tiA, Int.natCast_zero, zeros_zero]
    refine ⟨(((((Up.refl _ H).push (by omega) _).push (by simp only [AH.push_next]; omega) _).push (by simp only [AH.push_next]; omega) _).set (by omega) _), ?_⟩
    (repeat refine And.intro (by omega) ?_)
    exact .inr ⟨H.next + 1, [], fun _ => H.next + 2, by omega, by omega, rfl, by simp [AH.setCells_row, AH.push_row, AH.push_next], rfl, by dsimp only; omega, by dsimp only; omega, .inl (by dsimp only; omega), fun _ => Nat.le_refl _, fun j hj => by simp [madeL] at hj⟩
  · rintro z t H' ⟨a, u, lo, hi, hz, ham, h7, h6, h1, h4, h5, hup, hnx, r0, r1, hlo, hlh, hhi, hf⟩
    have hup1 := hup.next
    try simp (disch := first | omega | (simp only [L3] <;> omega)) only [Sall,evalOp,init,binA_s,binE,binI,unE,convE,okNil,builtE,gv,TD.isAgg,resV,↓reduceIte,Nat.reduceEqDiff,reduceCtorEq,Nat.reduceAdd,Nat.reduceMul,Nat.reduceLeDiff,quietOp,blindOp,Int.reduceEq,Int.reduceLT,Int.reduceLE,Nat.reduceLT,tiA, h7, h6]
    refine condC_dec (fun h => ?_) (fun h => ?_)
    · have hv1 : Rd 1 H' v y.length y := hv.same (hup.le hs).row
      have hln := hv1.len
      have hln2 : ∀ H2 : AH, (asSl v (Out.val (Value.int IntKind.i64 0) H2) fun _ _ _ n _ => Out.val (Value.int IntKind.i64 (n : Int)) H2) = Out.val (Value.int IntKind.i64 y.length) H2 := fun H2 => hln H2
      try simp (disch := first | omega | (simp only [L3] <;> omega)) only [Sall,evalOp,init,binA_s,binE,binI,unE,convE,okNil,builtE,gv,TD.isAgg,resV,↓reduceIte,Nat.reduceEqDiff,reduceCtorEq,Nat.reduceAdd,Nat.reduceMul,Nat.reduceLeDiff,quietOp,blindOp,Int.reduceEq,Int.reduceLT,Int.reduceLE,Nat.reduceLT,tiA, h7, h6, h1, h4, h5, zeros_zero]
      refine awp_loop (fun z t H3 => ∃ (c : Nat) (w : Value) (lo2 hi2 : Nat), z = y.length - c ∧ c ≤ y.length ∧ t 9 = .int .i64 c ∧ t 8 = w ∧ t 7 = .int .i64 a ∧ t 6 = .int .i64 m ∧ t 1 = v ∧ t 4 = .pointer (some ⟨H.next, 0, none⟩) ∧ t 5 = .pointer (some ⟨H.next + 2, 0, none⟩) ∧ Up H'.next H' H3 ∧ H'.next ≤ lo2 ∧ lo2 ≤ hi2 ∧ hi2 ≤ H3.next ∧ Fr 1 2 lo2 hi2 H3 w c (mdL m a (y.take c))) y.length ?_ ?_
      · refine ⟨0, .slice (some ⟨H'.next, 0, some 1⟩) 0 0, H'.next, H'.next + 1, by omega, by omega, ?_⟩
        try simp (disch := first | omega | (simp only [L3] <;> omega)) only [Sall,evalOp,init,binA_s,binE,binI,unE,convE,okNil,builtE,gv,TD.isAgg,resV,↓reduceIte,Nat.reduceEqDiff,reduceCtorEq,Nat.reduceAdd,Nat.reduceMul,Nat.reduceLeDiff,quietOp,blindOp,Int.reduceEq,Int.reduceLT,Int.reduceLE,Nat.reduceLT,tiA, Int.natCast_zero, h7, h6, h1, h4, h5]
        refine ⟨(Up.refl _ H').push (by omega) _, ?_⟩
        (repeat refine And.intro (by omega) ?_)
        exact ⟨by simp [mdL], .inr ⟨H'.next, Nat.le_refl _, Nat.lt_succ_self _, rfl, by rw [AH.push_row, if_pos rfl]; rfl⟩⟩
      · rintro z t H3 ⟨c, w, lo2, hi2, hz, hcn, h9, h8, h7, h6, h1, h4, h5, hup3, hlo2, hlh2, hhi2, hw⟩
        have hup31 := hup3.next
        have hv30 : Rd 1 H3 v y.length y := hv.same fun i r hr => by rw [hup3.row i (by have := hs _ _ hr; omega), hup.row i (hs _ _ hr)]; exact hr
        try simp (disch := first | omega | (simp only [L3] <;> omega)) only [Sall,evalOp,init,binA_s,binE,binI,unE,convE,okNil,builtE,gv,TD.isAgg,resV,↓reduceIte,Nat.reduceEqDiff,reduceCtorEq,Nat.reduceAdd,Nat.reduceMul,Nat.reduceLeDiff,quietOp,blindOp,Int.reduceEq,Int.reduceLT,Int.reduceLE,Nat.reduceLT,tiA, h9, h1, builtE, hv30.len]
        refine condC_dec (fun hh => ?_) (fun hh => ?_)
        · have hv3 : Rd 1 H3 v y.length y := hv.same fun i r hr => by rw [hup3.row i (by have := hs _ _ hr; omega), hup.row i (hs _ _ hr)]; exact hr
          obtain ⟨i, o, uu, cc, r, rfl, hr, hc, hg, _⟩ := hv3.get (by omega)
          have g1 := hg c (by omega)
          have hx := hin (y.getD c 0) (by rw [List.getD_eq_getElem?_getD, List.getElem?_eq_getElem (by omega)]; exact List.getElem_mem _)
          have hsn := mdL_snoc m a y c (by omega)
          revert g1 hx hsn
          generalize y.getD c 0 = x
          intro g1 hx hsn
          have zz : zeros 1 [.int .i64 0] = [.int .i64 0] := rfl
          by_cases hxm : x < (m : Int)
          · have hE := mdX_tmod (m := m) (i := a) hx.1 hxm
            try simp (disch := first | omega | (simp only [L3] <;> omega)) only [Sall,evalOp,init,binA_s,binE,binI,unE,convE,okNil,builtE,gv,TD.isAgg,resV,↓reduceIte,Nat.reduceEqDiff,reduceCtorEq,Nat.reduceAdd,Nat.reduceMul,Nat.reduceLeDiff,quietOp,blindOp,Int.reduceEq,Int.reduceLT,Int.reduceLE,Nat.reduceLT,tiA, h9, h8, h7, h6, h1, h4, h5, hr, g1, hxm, decide_true, zz, slCells, w64, hE]
            (repeat refine And.intro (by omega) ?_)
            obtain ⟨H4, e4⟩ : ∃ H4, H4 = H3.push ⟨2, true, [.int .i64 (mdX m a x)]⟩ := ⟨_, rfl⟩
            have n4 : H4.next = H3.next + 1 := by rw [e4]; rfl
            have s4 : ∀ i, i < H3.next → H4.row i = H3.row i := fun i hi => by rw [e4, AH.push_row, if_neg (by omega)]
            rw [← e4]
            clear e4
            refine appE_fr (k := 1) (lo := lo2) (hi := hi2) (l := mdL m a (y.take c)) (m := [mdX m a x]) (hw.same fun i _ hi => s4 i (by omega)) rfl (by omega) rfl (by omega) (by decide) (by omega) (by omega) ?_
            intro v' H5 n5 s5 f5
            try simp (disch := first | omega | (simp only [L3] <;> omega)) only [Sall,evalOp,init,binA_s,binE,binI,unE,convE,okNil,builtE,gv,TD.isAgg,resV,↓reduceIte,Nat.reduceEqDiff,reduceCtorEq,Nat.reduceAdd,Nat.reduceMul,Nat.reduceLeDiff,quietOp,blindOp,Int.reduceEq,Int.reduceLT,Int.reduceLE,Nat.reduceLT,tiA, h9, h7, h6, h1, h4, h5, w64]
            refine ⟨y.length - (c + 1), by omega, c + 1, v', H4.next, H4.next + 1, rfl, by omega, rfl, rfl, ⟨by omega, fun i hi => by rw [s5 i (by omega) (by omega), s4 i (by omega), hup3.row i hi]⟩, by omega, by omega, by omega, ?_⟩
            rw [hsn]; exact f5
          · have hE := mdX_out (m := m) (i := a) hxm
            try simp (disch := first | omega | (simp only [L3] <;> omega)) only [Sall,evalOp,init,binA_s,binE,binI,unE,convE,okNil,builtE,gv,TD.isAgg,resV,↓reduceIte,Nat.reduceEqDiff,reduceCtorEq,Nat.reduceAdd,Nat.reduceMul,Nat.reduceLeDiff,quietOp,blindOp,Int.reduceEq,Int.reduceLT,Int.reduceLE,Nat.reduceLT,tiA, h9, h8, h7, h6, h1, h4, h5, hr, g1, hxm, decide_false, zz, slCells, w64]
            (repeat refine And.intro (by omega) ?_)
            obtain ⟨H4, e4⟩ : ∃ H4, H4 = H3.push ⟨2, true, [.int .i64 (x)]⟩ := ⟨_, rfl⟩
            have n4 : H4.next = H3.next + 1 := by rw [e4]; rfl
            have s4 : ∀ i, i < H3.next → H4.row i = H3.row i := fun i hi => by rw [e4, AH.push_row, if_neg (by omega)]
            rw [← e4]
            clear e4
            refine appE_fr (k := 1) (lo := lo2) (hi := hi2) (l := mdL m a (y.take c)) (m := [x]) (hw.same fun i _ hi => s4 i (by omega)) rfl (by omega) rfl (by omega) (by decide) (by omega) (by omega) ?_
            intro v' H5 n5 s5 f5
            try simp (disch := first | omega | (simp only [L3] <;> omega)) only [Sall,evalOp,init,binA_s,binE,binI,unE,convE,okNil,builtE,gv,TD.isAgg,resV,↓reduceIte,Nat.reduceEqDiff,reduceCtorEq,Nat.reduceAdd,Nat.reduceMul,Nat.reduceLeDiff,quietOp,blindOp,Int.reduceEq,Int.reduceLT,Int.reduceLE,Nat.reduceLT,tiA, h9, h7, h6, h1, h4, h5, w64]
            refine ⟨y.length - (c + 1), by omega, c + 1, v', H4.next, H4.next + 1, rfl, by omega, rfl, rfl, ⟨by omega, fun i hi => by rw [s5 i (by omega) (by omega), s4 i (by omega), hup3.row i hi]⟩, by omega, by omega, by omega, ?_⟩
            rw [hsn, hE]; exact f5
        · have hc : c = y.length := by omega
          subst hc
          rw [List.take_length] at hw
          have zz : zeros 1 [.slice none 0 0] = [.slice none 0 0] := rfl
          have ho := hw.rd.one
          have hc1 := cells_of_one ho
          have hc2 := noTuple_of_one ho
          have r3 : H3.row (H.next + 2) = some ⟨55, true, [.int .i64 n, u]⟩ := by rw [hup3.row _ (by omega), r1]
          have r30 : H3.row H.next = some ⟨55, true, [.int .i64 0, .slice none 0 0]⟩ := by rw [hup3.row _ (by omega), r0]
          have hne : ¬ H.next + 2 = H3.next := by omega
          try simp (disch := first | omega | (simp only [L3] <;> omega)) only [Sall,evalOp,init,binA_s,binE,binI,unE,convE,okNil,builtE,gv,TD.isAgg,resV,↓reduceIte,Nat.reduceEqDiff,reduceCtorEq,Nat.reduceAdd,Nat.reduceMul,Nat.reduceLeDiff,quietOp,blindOp,Int.reduceEq,Int.reduceLT,Int.reduceLE,Nat.reduceLT,tiA, h8, h7, h6, h1, h4, h5, r3, zz, slCells, ho, hc1, hc2, hne]
          obtain ⟨H4, e4⟩ : ∃ H4, H4 = H3.push ⟨33, true, [w]⟩ := ⟨_, rfl⟩
          have n4 : H4.next = H3.next + 1 := by rw [e4]; rfl
          have s4 : ∀ i, i < H3.next → H4.row i = H3.row i := fun i hi => by rw [e4, AH.push_row, if_neg (by omega)]
          rw [← e4]
          clear e4
          refine appE_fr2K (lo := lo) (hi := hi) (hf.same fun i _ hi => by rw [s4 i (by omega), hup3.row i (by omega)]) ((hw.same fun i _ hi => s4 i (by omega)).wide (by omega) (by omega)) rfl (by decide) (by rw [madeL_length]; omega) hlh (by omega) ?_
          intro v' H5 n5 s5 k5 f5
          have r5 : H5.row (H.next + 2) = some ⟨55, true, [.int .i64 n, u]⟩ := k5 _ _ (by omega) (by rw [s4 _ (by omega), r3]) (show ¬ (55 : Nat) = 33 by decide)
          have r50 : H5.row H.next = some ⟨55, true, [.int .i64 0, .slice none 0 0]⟩ := by rw [s5 _ (by omega) (by omega), s4 _ (by omega), r30]
          have o5 := f5.rd.one
          try simp (disch := first | omega | (simp only [L3] <;> omega)) only [Sall,evalOp,init,binA_s,binE,binI,unE,convE,okNil,builtE,gv,TD.isAgg,resV,↓reduceIte,Nat.reduceEqDiff,reduceCtorEq,Nat.reduceAdd,Nat.reduceMul,Nat.reduceLeDiff,quietOp,blindOp,Int.reduceEq,Int.reduceLT,Int.reduceLE,Nat.reduceLT,tiA, h7, h6, h1, h4, h5, r5, o5, w64]
          refine ⟨m - (a + 1), by omega, a + 1, v', lo, H4.next + 1, rfl, by omega, rfl, Up.set ⟨by omega, fun i hi => by rw [s5 i (by omega) (by omega), s4 i (by omega), hup3.row i (by omega), hup.row i hi]⟩ (by omega) _, by omega, ?_, ?_, by omega, by omega, by omega, ?_⟩
          · exact r50
          · rfl
          · rw [madeL_succ]
            refine f5.sameR fun i r hi1 hi2 hir hty => ?_
            rw [AH.setCells_row, if_neg]
            · exact hir
            · rintro rfl
              rw [r5] at hir
              injection hir with hir
              rw [← hir] at hty
              rcases hty with e | e
              · exact absurd (show (55 : Nat) = 33 from e) (by decide)
              · exact absurd (show (55 : Nat) = 2 from e) (by decide)
    · have ha : a = m := by omega
      subst ha
      have ho := hf.rd.one
      try simp (disch := first | omega | (simp only [L3] <;> omega)) only [Sall,evalOp,init,binA_s,binE,binI,unE,convE,okNil,builtE,gv,TD.isAgg,resV,↓reduceIte,Nat.reduceEqDiff,reduceCtorEq,Nat.reduceAdd,Nat.reduceMul,Nat.reduceLeDiff,quietOp,blindOp,Int.reduceEq,Int.reduceLT,Int.reduceLE,Nat.reduceLT,tiA, h5, h4, r0, r1, ho]
      refine ⟨u, rfl, hup.set (Nat.le_refl _) _, ?_⟩
      exact (hf.same (H' := H'.setCells H.next [.int .i64 n, u]) fun i hi _ => by rw [AH.setCells_row, if_neg (by omega)]).wide (by omega) (by simp only [AH.setCells_next]; omega)
end Go.Proofs.YtpienljnoaendaaGreat.A
end

section
set_option maxRecDepth 100000
set_option maxHeartbeats 2000000
namespace Go.Proofs.YtpienljnoaendaaGreat.A
open Go Go.Abs Go.RowKit
def wayL (ws : List (Nat × Nat)) : List Int := ws.flatMap fun w => [(w.1 : Int), (w.2 : Int)]
theorem wayL_at : ∀ (ws : List (Nat × Nat)) (d : Nat), d < ws.length → ((wayL ws).drop (d * 2)).take 2 = [((ws.getD d (0, 0)).1 : Int), ((ws.getD d (0, 0)).2 : Int)]
  | [], d, h => by simp at h
  | w :: ws, 0, h => by simp [wayL]
  | w :: ws, d + 1, h => by
    have e : wayL (w :: ws) = [(w.1 : Int), (w.2 : Int)] ++ wayL ws := by simp [wayL]
    rw [e, show (d + 1) * 2 = 2 + d * 2 by omega, ← List.drop_drop]
    have := wayL_at ws d (by simpa using h)
    simpa using this
theorem ways_snoc (ws : List (Nat × Nat)) (d : Nat) (hd : d < ws.length) : ws.take (d + 1) = ws.take d ++ [ws.getD d (0, 0)] := take_snoc ws (0, 0) d hd
theorem together_c (n : Nat) (hn : 1 ≤ n ∧ n ≤ 16) (u : Value) (R : List (List Int)) (wv : Value) (ws : List (Nat × Nat)) (H : AH) (hu : Rd2 1 H u R) (hw : Rd 2 H wv ws.length (wayL ws)) (hws : ∀ w ∈ ws, w.1 < 4 ∧ w.2 < 4) (hwl : ws.length ≤ 4)
    (hRl : R.length ≤ 20) (hR : ∀ i, i < R.length → (R.getD i []).length ≤ 16 ∧ ∀ x ∈ R.getD i [], 0 ≤ x ∧ x < (n : Int)) :
    ACalls Tryz.prog 253 [.agg #[.int .i64 n, u], wv] H (fun r H' => Up H.next H H' ∧ Fr2 1 33 2 H.next H'.next H' r (tabM n ws R)) := by
  refine ACalls.wf (by kernel_rfl) fun hs => acalls_of_awp [.tmp 4] Tryz.func253 (by kernel_rfl) rfl rfl (Nat.le_of_ble_eq_true rfl) (by kernel_rfl) ?_
  have hone := hu.one
  have hwone := hw.one
  have up : Up H.next H (H.push ⟨55, true, [.int .i64 n, u]⟩) := (Up.refl _ H).push (Nat.le_refl _) _
  have e1 : (H.push ⟨55, true, [.int .i64 n, u]⟩).row H.next = some ⟨55, true, [.int .i64 n, u]⟩ := by rw [AH.push_row, if_pos rfl]
  have n1 : (H.push ⟨55, true, [.int .i64 n, u]⟩).next = H.next + 1 := rfl
  have sc1 : Sc (H.push ⟨55, true, [.int .i64 n, u]⟩) := Sc.push hs _
  try simp (disch := first | omega | (simp only [L3] <;> omega)) only [Sall,evalOp,init,binA_s,binE,binI,unE,convE,okNil,builtE,gv,TD.isAgg,resV,↓reduceIte,Nat.reduceEqDiff,reduceCtorEq,Nat.reduceAdd,Nat.reduceMul,Nat.reduceLeDiff,quietOp,blindOp,Int.reduceEq,Int.reduceLT,Int.reduceLE,Nat.reduceLT,tiA, hone]
  revert up e1 n1 sc1
  generalize H.push ⟨55, true, [.int .i64 n, u]⟩ = H1
  intro up e1 n1 sc1
  try simp (disch := first | omega | (simp only [L3] <;> omega)) only [Sall,evalOp,init,binA_s,binE,binI,unE,convE,okNil,builtE,gv,TD.isAgg,resV,↓reduceIte,Nat.reduceEqDiff,reduceCtorEq,Nat.reduceAdd,Nat.reduceMul,Nat.reduceLeDiff,quietOp,blindOp,Int.reduceEq,Int.reduceLT,Int.reduceLE,Nat.reduceLT,tiA, e1]
  refine (square_c n (by omega) H1).mono ?_
  rintro o H2 ⟨up2, hf2⟩
  have n2 := up2.next
  have e2 : H2.row H.next = some ⟨55, true, [.int .i64 n, u]⟩ := by rw [up2.row _ (by omega), e1]
  have u2 : Up H.next H H2 := up.trans up2 (by omega)
  refine Holds.mp ?_
  try simp (disch := first | omega | (simp only [L3] <;> omega)) only [Sall,evalOp,init,binA_s,binE,binI,unE,convE,okNil,builtE,gv,TD.isAgg,resV,↓reduceIte,Nat.reduceEqDiff,reduceCtorEq,Nat.reduceAdd,Nat.reduceMul,Nat.reduceLeDiff,quietOp,blindOp,Int.reduceEq,Int.reduceLT,Int.reduceLE,Nat.reduceLT,tiA, e2, builtE, hu.len]
  refine awp_loop (fun z t H' => ∃ a : Nat, z = R.length - a ∧ a ≤ R.length ∧ t 19 = .int .i64 a ∧ t 18 = .int .i64 R.length ∧ t 17 = u ∧ t 5 = o ∧ t 1 = wv ∧ Up H.next H H' ∧ H2.next ≤ H'.next ∧ Fr2 1 33 2 H1.next H2.next H' o (cntMx n (evA n ws R a))) R.length ?_ ?_
  · refine ⟨0, by omega, by omega, ?_⟩
    try simp (disch := first | omega | (simp only [L3] <;> omega)) only [Sall,evalOp,init,binA_s,binE,binI,unE,convE,okNil,builtE,gv,TD.isAgg,resV,↓reduceIte,Nat.reduceEqDiff,reduceCtorEq,Nat.reduceAdd,Nat.reduceMul,Nat.reduceLeDiff,quietOp,blindOp,Int.reduceEq,Int.reduceLT,Int.reduceLE,Nat.reduceLT,tiA, Int.natCast_zero]
    exact ⟨u2, by rw [show evA n ws R 0 = [] from rfl, cntMx_nil]; exact hf2⟩
  · rintro z t H' ⟨a, hz, ha, h19, h18, h17, h5, h1, hup, hnx, hf⟩
    try simp (disch := first | omega | (simp only [L3] <;> omega)) only [Sall,evalOp,init,binA_s,binE,binI,unE,convE,okNil,builtE,gv,TD.isAgg,resV,↓reduceIte,Nat.reduceEqDiff,reduceCtorEq,Nat.reduceAdd,Nat.reduceMul,Nat.reduceLeDiff,quietOp,blindOp,Int.reduceEq,Int.reduceLT,Int.reduceLE,Nat.reduceLT,tiA, h19, h18]
    refine condC_dec (fun h => ?_) (fun h => ?_)
    · obtain ⟨xi, xo, xuu, xc, xr, y, my, ex, hxr, hy, hsx, hok⟩ := hu.get (j := a) (by omega)
      have hxr' : H'.row xi = some xr := (hup.le hs).row _ _ hxr
      obtain ⟨hl16, hin⟩ := hR a (by omega)
      have hmm := hsx.lenK1
      have hevS := evA_succ n ws R a
      have hI0 : (evA n ws R a).length ≤ 1000 := by
        have := evA_length (n := n) (ws := ws) (fun i hi => (hR i hi).1) a (by omega)
        have h2 : a * (4 * (2 * ws.length)) ≤ 20 * 32 := Nat.mul_le_mul (by omega) (by omega)
        omega
      revert hsx hl16 hin hmm hevS
      generalize R.getD a [] = l
      intro hsx hl16 hin hmm hevS
      subst hmm
      have hold : ∀ {H3 : AH}, Up H.next H H3 → Rd 1 H3 y l.length l := fun hup3 => hsx.same (hup3.le hs).row
      try simp (disch := first | omega | (simp only [L3] <;> omega)) only [Sall,evalOp,init,binA_s,binE,binI,unE,convE,okNil,builtE,gv,TD.isAgg,resV,↓reduceIte,Nat.reduceEqDiff,reduceCtorEq,Nat.reduceAdd,Nat.reduceMul,Nat.reduceLeDiff,quietOp,blindOp,Int.reduceEq,Int.reduceLT,Int.reduceLE,Nat.reduceLT,tiA, h19, h18, h17, h5, h1, ex, hxr', hy, hok]
      (repeat refine And.intro (by omega) ?_)
      refine awp_loop (fun z t H3 => ∃ c : Nat, z = l.length / 4 - c ∧ c ≤ l.length / 4 ∧ t 8 = .int .i64 ((4 * c : Nat) : Int) ∧ t 7 = y ∧ t 19 = .int .i64 a ∧ t 18 = .int .i64 R.length ∧ t 17 = u ∧ t 5 = o ∧ t 1 = wv ∧ Up H.next H H3 ∧ H2.next ≤ H3.next ∧ Fr2 1 33 2 H1.next H2.next H3 o (cntMx n (evA n ws R a ++ evR n ws l c))) (l.length / 4) ?_ ?_
      · refine ⟨0, by omega, by omega, ?_⟩
        try simp (disch := first | omega | (simp only [L3] <;> omega)) only [Sall,evalOp,init,binA_s,binE,binI,unE,convE,okNil,builtE,gv,TD.isAgg,resV,↓reduceIte,Nat.reduceEqDiff,reduceCtorEq,Nat.reduceAdd,Nat.reduceMul,Nat.reduceLeDiff,quietOp,blindOp,Int.reduceEq,Int.reduceLT,Int.reduceLE,Nat.reduceLT,tiA, Int.natCast_zero, h19, h18, h17, h5, h1, Nat.mul_zero]
        refine ⟨hup, hnx, ?_⟩
        rw [show evR n ws l 0 = [] from rfl, List.append_nil]; exact hf
      · rintro z t H3 ⟨c, hz, hc, h8, h7, h19, h18, h17, h5, h1, hup3, hnx3, hf3⟩
        have hl3 := (hold hup3).len
        try simp (disch := first | omega | (simp only [L3] <;> omega)) only [Sall,evalOp,init,binA_s,binE,binI,unE,convE,okNil,builtE,gv,TD.isAgg,resV,↓reduceIte,Nat.reduceEqDiff,reduceCtorEq,Nat.reduceAdd,Nat.reduceMul,Nat.reduceLeDiff,quietOp,blindOp,Int.reduceEq,Int.reduceLT,Int.reduceLE,Nat.reduceLT,tiA, h8, h7, builtE, hl3, w64]
        refine condC_dec (fun hh => ?_) (fun hh => ?_)
        · have hw3 := hw.same (hup3.le hs).row
          try simp (disch := first | omega | (simp only [L3] <;> omega)) only [Sall,evalOp,init,binA_s,binE,binI,unE,convE,okNil,builtE,gv,TD.isAgg,resV,↓reduceIte,Nat.reduceEqDiff,reduceCtorEq,Nat.reduceAdd,Nat.reduceMul,Nat.reduceLeDiff,quietOp,blindOp,Int.reduceEq,Int.reduceLT,Int.reduceLE,Nat.reduceLT,tiA, h8, h7, h19, h18, h17, h5, h1, builtE, hw3.len]
          refine awp_loop (fun z t H4 => ∃ d : Nat, z = ws.length - d ∧ d ≤ ws.length ∧ t 32 = .int .i64 d ∧ t 31 = .int .i64 ws.length ∧ t 30 = wv ∧ t 8 = .int .i64 ((4 * c : Nat) : Int) ∧ t 7 = y ∧ t 19 = .int .i64 a ∧ t 18 = .int .i64 R.length ∧ t 17 = u ∧ t 5 = o ∧ t 1 = wv ∧ Up H.next H H4 ∧ H2.next ≤ H4.next ∧ Fr2 1 33 2 H1.next H2.next H4 o (cntMx n (evA n ws R a ++ evR n ws l c ++ evW n (qd l c) (ws.take d)))) ws.length ?_ ?_
          · refine ⟨0, by omega, by omega, ?_⟩
            try simp (disch := first | omega | (simp only [L3] <;> omega)) only [Sall,evalOp,init,binA_s,binE,binI,unE,convE,okNil,builtE,gv,TD.isAgg,resV,↓reduceIte,Nat.reduceEqDiff,reduceCtorEq,Nat.reduceAdd,Nat.reduceMul,Nat.reduceLeDiff,quietOp,blindOp,Int.reduceEq,Int.reduceLT,Int.reduceLE,Nat.reduceLT,tiA, Int.natCast_zero, h8, h7, h19, h18, h17, h5, h1]
            refine ⟨hup3, hnx3, ?_⟩
            rw [List.take_zero, show evW n (qd l c) [] = [] from rfl, List.append_nil]; exact hf3
          · rintro z t H4 ⟨d, hz, hd, h32, h31, h30, h8, h7, h19, h18, h17, h5, h1, hup4, hnx4, hf4⟩
            try simp (disch := first | omega | (simp only [L3] <;> omega)) only [Sall,evalOp,init,binA_s,binE,binI,unE,convE,okNil,builtE,gv,TD.isAgg,resV,↓reduceIte,Nat.reduceEqDiff,reduceCtorEq,Nat.reduceAdd,Nat.reduceMul,Nat.reduceLeDiff,quietOp,blindOp,Int.reduceEq,Int.reduceLT,Int.reduceLE,Nat.reduceLT,tiA, h32, h31]
            refine condC_dec (fun hhh => ?_) (fun hhh => ?_)
            · have hw4 := hw.same (hup4.le hs).row
              obtain ⟨wi, wo, wu, wc, wr, ew, hwr, _, _, hwg⟩ := hw4.get (by omega)
              have hwa := hwg (d * 2) 2 (by omega)
              rw [wayL_at ws d (by omega)] at hwa
              obtain ⟨w1, w2⟩ := hws (ws.getD d (0, 0)) (getD_mem2 ws d (by omega))
              have hsn := ways_snoc ws d (by omega)
              revert hwa w1 w2 hsn
              generalize ws.getD d (0, 0) = w
              intro hwa w1 w2 hsn
              obtain ⟨yi, yo, yu, yc, yr, ey, hyr, _, hyg, _⟩ := (hold (Up.refl H.next H)).get (by omega)
              have hyi := hs _ _ hyr
              have hyr4 : H4.row yi = some yr := by rw [hup4.row _ hyi]; exact hyr
              have hup41 := hup4.next
              have hyne : ¬ yi = H4.next := by omega
              have mem : ∀ j, j < l.length → 0 ≤ l.getD j 0 ∧ l.getD j 0 < (n : Int) := fun j hj => hin _ (by rw [List.getD_eq_getElem?_getD, List.getElem?_eq_getElem hj]; exact List.getElem_mem _)
              have m1 := mem (4 * c + w.1) (by omega)
              have m2 := mem (4 * c + w.2) (by omega)
              have g1 := hyg (4 * c + w.1) (by omega)
              have g2 := hyg (4 * c + w.2) (by omega)
              have ep : l.getD (4 * c + w.1) 0 = ((qd l c w.1 : Nat) : Int) := by unfold qd; omega
              have eq : l.getD (4 * c + w.2) 0 = ((qd l c w.2 : Nat) : Int) := by unfold qd; omega
              rw [ep] at g1 m1
              rw [eq] at g2 m2
              have hA1 : (((4 * c : Nat) : Int) + (w.1 : Int)).toNat = 4 * c + w.1 := by omega
              have hA2 : (((4 * c : Nat) : Int) + (w.2 : Int)).toNat = 4 * c + w.2 := by omega
              have hev := evW_snoc n (qd l c) (ws.take d) w
              rw [← hsn] at hev
              revert g1 g2 m1 m2 hev
              generalize qd l c w.1 = p
              generalize qd l c w.2 = q
              intro m1 m2 g1 g2 hev
              have hlenI : (evA n ws R a ++ evR n ws l c ++ evW n (qd l c) (ws.take d)).length ≤ 10000 := by
                rw [List.length_append, List.length_append, evR_length, evW_length, List.length_take]
                have h1 : c * (2 * ws.length) ≤ 4 * 8 := Nat.mul_le_mul (by omega) (by omega)
                omega
              have hevX : evA n ws R a ++ evR n ws l c ++ evW n (qd l c) (ws.take (d + 1)) = (evA n ws R a ++ evR n ws l c ++ evW n (qd l c) (ws.take d)) ++ [ixN n p q] ++ [ixN n q p] := by rw [hev]; simp
              obtain ⟨I, eI⟩ : ∃ I, I = evA n ws R a ++ evR n ws l c ++ evW n (qd l c) (ws.take d) := ⟨_, rfl⟩
              rw [← eI] at hevX hlenI hf4
              try simp (disch := first | omega | (simp only [L3] <;> omega)) only [Sall,evalOp,init,binA_s,binE,binI,unE,convE,okNil,builtE,gv,TD.isAgg,resV,↓reduceIte,Nat.reduceEqDiff,reduceCtorEq,Nat.reduceAdd,Nat.reduceMul,Nat.reduceLeDiff,quietOp,blindOp,Int.reduceEq,Int.reduceLT,Int.reduceLE,Nat.reduceLT,tiA, h32, h31, h30, h8, h7, h19, h18, h17, h5, h1, ew, hwr, hwa]
              (repeat refine And.intro (by omega) ?_)
              refine awp_cutQ (fun t H5 => t 11 = .int .i64 p ∧ t 12 = .int .i64 q ∧ t 32 = .int .i64 d ∧ t 31 = .int .i64 ws.length ∧ t 30 = wv ∧ t 8 = .int .i64 ((4 * c : Nat) : Int) ∧ t 7 = y ∧ t 19 = .int .i64 a ∧ t 18 = .int .i64 R.length ∧ t 17 = u ∧ t 5 = o ∧ t 1 = wv ∧ Up H4.next H4 H5) ?_ ?_
              · refine draw_id (by kernel_rfl) (by kernel_rfl) ?_
                have sp0 : (splice [Value.int IntKind.i64 0, Value.int IntKind.i64 0] 0 (ints [(w.1 : Int), (w.2 : Int)]))[Int.toNat 0]? = some (.int .i64 w.1) := rfl
                have sp1 : (splice [Value.int IntKind.i64 0, Value.int IntKind.i64 0] 0 (ints [(w.1 : Int), (w.2 : Int)]))[Int.toNat 1]? = some (.int .i64 w.2) := rfl
                try simp (disch := first | omega | (simp only [L3] <;> omega)) only [Sall,evalOp,init,binA_s,binE,binI,unE,convE,okNil,builtE,gv,TD.isAgg,resV,↓reduceIte,Nat.reduceEqDiff,reduceCtorEq,Nat.reduceAdd,Nat.reduceMul,Nat.reduceLeDiff,quietOp,blindOp,Int.reduceEq,Int.reduceLT,Int.reduceLE,Nat.reduceLT,tiA, h32, h31, h30, h8, h7, h19, h18, h17, h5, h1, ey, hyr4, hyne, hA1, hA2, g1, g2, sp0, sp1, w64]
                (repeat refine And.intro (by omega) ?_)
                exact ((Up.refl _ H4).push (Nat.le_refl _) _).set (Nat.le_refl _) _
              · rintro t H5 ⟨h11, h12, h32, h31, h30, h8, h7, h19, h18, h17, h5, h1, up5⟩
                have hf5 : Fr2 1 33 2 H1.next H2.next H5 o (cntMx n I) := hf4.same fun i _ hi => up5.row i (by omega)
                have up51 := up5.next
                have hup5 : Up H.next H H5 := hup4.trans up5 hup41
                rw [awp_seq]
                refine awp_cutQ (fun t H6 => t 11 = .int .i64 p ∧ t 12 = .int .i64 q ∧ t 32 = .int .i64 d ∧ t 31 = .int .i64 ws.length ∧ t 30 = wv ∧ t 8 = .int .i64 ((4 * c : Nat) : Int) ∧ t 7 = y ∧ t 19 = .int .i64 a ∧ t 18 = .int .i64 R.length ∧ t 17 = u ∧ t 5 = o ∧ t 1 = wv ∧ Up H.next H H6 ∧ H2.next ≤ H6.next ∧ Fr2 1 33 2 H1.next H2.next H6 o (cntMx n (I ++ [ixN n p q]))) ?_ ?_
                · have hsq1 := cntMx_sq n (I)
                  have hinc1 := cntMx_inc n (I) p q (by omega) (by omega) (by omega)
                  have hrow1 := hsq1.2 p (by omega)
                  obtain ⟨mi, mvs, i6, eo, q1, q2, q3, q4, q5, q6, q7, q8, q9⟩ := hf5.setF (j := p) (by rw [hsq1.1]; omega) (by omega)
                  have hMl1 := hsq1.1
                  have q10 := q9 (incR ((cntMx n (I)).getD p []) (q : Int)) (incR_length _ _)
                  rw [hrow1] at q4
                  try simp (disch := first | omega | (simp only [L3] <;> omega)) only [Sall,evalOp,init,binA_s,binE,binI,unE,convE,okNil,builtE,gv,TD.isAgg,resV,↓reduceIte,Nat.reduceEqDiff,reduceCtorEq,Nat.reduceAdd,Nat.reduceMul,Nat.reduceLeDiff,quietOp,blindOp,Int.reduceEq,Int.reduceLT,Int.reduceLE,Nat.reduceLT,tiA, h11, h12, h32, h31, h30, h8, h7, h19, h18, h17, h5, h1, eo, q3, q4, q8, hMl1, Int.toNat_natCast, ints_get?, ints_set, w64]
                  (repeat refine And.intro (by omega) ?_)
                  refine ⟨hup5.set (by omega) _, by omega, ?_⟩
                  rw [← hinc1]
                  rw [eo, hMl1] at q10
                  exact q10
                · rintro t H6 ⟨h11, h12, h32, h31, h30, h8, h7, h19, h18, h17, h5, h1, up6, hn6, hf6⟩
                  have hsq2 := cntMx_sq n (I ++ [ixN n p q])
                  have hinc2 := cntMx_inc n (I ++ [ixN n p q]) q p (by omega) (by omega) (by rw [List.length_append, List.length_singleton]; omega)
                  have hrow2 := hsq2.2 q (by omega)
                  obtain ⟨mi, mvs, i6, eo, q1, q2, q3, q4, q5, q6, q7, q8, q9⟩ := hf6.setF (j := q) (by rw [hsq2.1]; omega) (by omega)
                  have hMl2 := hsq2.1
                  have q10 := q9 (incR ((cntMx n (I ++ [ixN n p q])).getD q []) (p : Int)) (incR_length _ _)
                  rw [hrow2] at q4
                  try simp (disch := first | omega | (simp only [L3] <;> omega)) only [Sall,evalOp,init,binA_s,binE,binI,unE,convE,okNil,builtE,gv,TD.isAgg,resV,↓reduceIte,Nat.reduceEqDiff,reduceCtorEq,Nat.reduceAdd,Nat.reduceMul,Nat.reduceLeDiff,quietOp,blindOp,Int.reduceEq,Int.reduceLT,Int.reduceLE,Nat.reduceLT,tiA, h11, h12, h32, h31, h30, h8, h7, h19, h18, h17, h5, h1, eo, q3, q4, q8, hMl2, Int.toNat_natCast, ints_get?, ints_set, w64]
                  (repeat refine And.intro (by omega) ?_)
                  refine ⟨ws.length - (d + 1), by omega, d + 1, rfl, by omega, by omega, up6.set (by omega) _, hn6, ?_⟩
                  rw [hevX, ← hinc2]
                  rw [eo, hMl2] at q10
                  exact q10
            · have hd2 : d = ws.length := by omega
              subst hd2
              rw [List.take_length] at hf4
              try simp (disch := first | omega | (simp only [L3] <;> omega)) only [Sall,evalOp,init,binA_s,binE,binI,unE,convE,okNil,builtE,gv,TD.isAgg,resV,↓reduceIte,Nat.reduceEqDiff,reduceCtorEq,Nat.reduceAdd,Nat.reduceMul,Nat.reduceLeDiff,quietOp,blindOp,Int.reduceEq,Int.reduceLT,Int.reduceLE,Nat.reduceLT,tiA, h8, h7, h19, h18, h17, h5, h1, w64]
              refine ⟨l.length / 4 - (c + 1), by omega, c + 1, rfl, by omega, by omega, hup4, hnx4, ?_⟩
              rw [evR_succ, ← List.append_assoc]; exact hf4
        · have hc2 : c = l.length / 4 := by omega
          subst hc2
          try simp (disch := first | omega | (simp only [L3] <;> omega)) only [Sall,evalOp,init,binA_s,binE,binI,unE,convE,okNil,builtE,gv,TD.isAgg,resV,↓reduceIte,Nat.reduceEqDiff,reduceCtorEq,Nat.reduceAdd,Nat.reduceMul,Nat.reduceLeDiff,quietOp,blindOp,Int.reduceEq,Int.reduceLT,Int.reduceLE,Nat.reduceLT,tiA, h19, h18, h17, h5, h1, w64]
          refine ⟨R.length - (a + 1), by omega, a + 1, rfl, by omega, by omega, hup3, hnx3, ?_⟩
          rw [hevS]; exact hf3
    · have ha2 : a = R.length := by omega
      subst ha2
      try simp (disch := first | omega | (simp only [L3] <;> omega)) only [Sall,evalOp,init,binA_s,binE,binI,unE,convE,okNil,builtE,gv,TD.isAgg,resV,↓reduceIte,Nat.reduceEqDiff,reduceCtorEq,Nat.reduceAdd,Nat.reduceMul,Nat.reduceLeDiff,quietOp,blindOp,Int.reduceEq,Int.reduceLT,Int.reduceLE,Nat.reduceLT,tiA, h5]
      exact ⟨hup, hf.wide (by omega) hnx⟩
end Go.Proofs.YtpienljnoaendaaGreat.A
end

section
set_option maxRecDepth 100000
set_option maxHeartbeats 2000000
namespace Go.Proofs.YtpienljnoaendaaGreat.A
open Go Go.Abs Go.RowKit
def EvOk (n : Nat) (R : List (List Int)) : Prop := R.length ≤ 20 ∧ ∀ i, i < R.length → (R.getD i []).length ≤ 16 ∧ ∀ x ∈ R.getD i [], 0 ≤ x ∧ x < (n : Int)
theorem partners_c (n : Nat) (hn : 1 ≤ n ∧ n ≤ 16) (u : Value) (R : List (List Int)) (H : AH) (hu : Rd2 1 H u R) (hR : EvOk n R) :
    ACalls Tryz.prog 251 [.agg #[.int .i64 n, u]] H (fun r H' => Up H.next H H' ∧ Fr2 1 33 2 H.next H'.next H' r (tabM n wP R)) := by
  refine ACalls.wf (by kernel_rfl) fun hs => acalls_of_awp [.tmp 2] Tryz.func251 (by kernel_rfl) rfl rfl (Nat.le_of_ble_eq_true rfl) (by kernel_rfl) ?_
  have hone := hu.one
  have zz : zeros 2 [.int .i64 0, .int .i64 0] = [.int .i64 0, .int .i64 0, .int .i64 0, .int .i64 0] := rfl
  have sp0 : splice ([.int .i64 0, .int .i64 0, .int .i64 0, .int .i64 0] : List Value) 0 [.int .i64 0, .int .i64 1] = [.int .i64 0, .int .i64 1, .int .i64 0, .int .i64 0] := rfl
  have sp1 : splice ([.int .i64 0, .int .i64 1, .int .i64 0, .int .i64 0] : List Value) 2 [.int .i64 2, .int .i64 3] = [.int .i64 0, .int .i64 1, .int .i64 2, .int .i64 3] := rfl
  try simp (disch := first | omega | (simp only [L3] <;> omega)) only [Sall,evalOp,init,binA_s,binE,binI,unE,convE,okNil,builtE,gv,TD.isAgg,resV,↓reduceIte,Nat.reduceEqDiff,reduceCtorEq,Nat.reduceAdd,Nat.reduceMul,Nat.reduceLeDiff,quietOp,blindOp,Int.reduceEq,Int.reduceLT,Int.reduceLE,Nat.reduceLT,tiA, hone, slCells, zz, sp0, sp1]
  obtain ⟨H2, e2⟩ : ∃ H2, H2 = (H.push ⟨55, true, [.int .i64 n, u]⟩).push ⟨188, true, [.int .i64 0, .int .i64 1, .int .i64 2, .int .i64 3]⟩ := ⟨_, rfl⟩
  have up2 : Up H.next H H2 := by rw [e2]; exact ((Up.refl _ H).push (Nat.le_refl _) _).push (by simp only [AH.push_next]; omega) _
  have r2 : H2.row (H.next + 1) = some ⟨188, true, [.int .i64 0, .int .i64 1, .int .i64 2, .int .i64 3]⟩ := by rw [e2, AH.push_row, AH.push_next, if_pos rfl]
  have n2 : H2.next = H.next + 2 := by rw [e2]; rfl
  rw [← e2]
  clear e2
  refine (together_c n hn u R (.slice (some ⟨H.next + 1, 0, some 2⟩) 2 2) wP H2 (hu.same (up2.le hs).row) ⟨rfl, .inr ⟨H.next + 1, 0, _, _, _, rfl, r2, Nat.le_refl _, rfl⟩⟩ (by decide) (by decide) hR.1 hR.2).mono ?_
  rintro r H3 ⟨up3, f3⟩
  have n3 := up3.next
  have ho := f3.rd.one
  refine Holds.mp ?_
  try simp (disch := first | omega | (simp only [L3] <;> omega)) only [Sall,evalOp,init,binA_s,binE,binI,unE,convE,okNil,builtE,gv,TD.isAgg,resV,↓reduceIte,Nat.reduceEqDiff,reduceCtorEq,Nat.reduceAdd,Nat.reduceMul,Nat.reduceLeDiff,quietOp,blindOp,Int.reduceEq,Int.reduceLT,Int.reduceLE,Nat.reduceLT,tiA, ho]
  exact ⟨up2.trans up3 (by omega), f3.wide (by omega) (Nat.le_refl _)⟩
theorem opponents0_c (n : Nat) (hn : 1 ≤ n ∧ n ≤ 16) (u : Value) (R : List (List Int)) (H : AH) (hu : Rd2 1 H u R) (hR : EvOk n R) :
    ACalls Tryz.prog 147 [.agg #[.int .i64 n, u], .int .i64 0] H (fun r H' => Up H.next H H' ∧ Fr2 1 33 2 H.next H'.next H' r (tabM n wO R)) := by
  have hone := hu.one
  have zz : zeros 4 [.int .i64 0, .int .i64 0] = [.int .i64 0, .int .i64 0, .int .i64 0, .int .i64 0, .int .i64 0, .int .i64 0, .int .i64 0, .int .i64 0] := rfl
  have sp0 : splice ([.int .i64 0, .int .i64 0, .int .i64 0, .int .i64 0, .int .i64 0, .int .i64 0, .int .i64 0, .int .i64 0] : List Value) 0 [.int .i64 0, .int .i64 2] = [.int .i64 0, .int .i64 2, .int .i64 0, .int .i64 0, .int .i64 0, .int .i64 0, .int .i64 0, .int .i64 0] := rfl
  have sp1 : splice ([.int .i64 0, .int .i64 2, .int .i64 0, .int .i64 0, .int .i64 0, .int .i64 0, .int .i64 0, .int .i64 0] : List Value) 2 [.int .i64 1, .int .i64 3] = [.int .i64 0, .int .i64 2, .int .i64 1, .int .i64 3, .int .i64 0, .int .i64 0, .int .i64 0, .int .i64 0] := rfl
  have sp2 : splice ([.int .i64 0, .int .i64 2, .int .i64 1, .int .i64 3, .int .i64 0, .int .i64 0, .int .i64 0, .int .i64 0] : List Value) 4 [.int .i64 0, .int .i64 3] = [.int .i64 0, .int .i64 2, .int .i64 1, .int .i64 3, .int .i64 0, .int .i64 3, .int .i64 0, .int .i64 0] := rfl
  have sp3 : splice ([.int .i64 0, .int .i64 2, .int .i64 1, .int .i64 3, .int .i64 0, .int .i64 3, .int .i64 0, .int .i64 0] : List Value) 6 [.int .i64 1, .int .i64 2] = [.int .i64 0, .int .i64 2, .int .i64 1, .int .i64 3, .int .i64 0, .int .i64 3, .int .i64 1, .int .i64 2] := rfl
  refine ACalls.wf (by kernel_rfl) fun hs => acalls_of_awp [.tmp 4] Tryz.func147 (by kernel_rfl) rfl rfl (Nat.le_of_ble_eq_true rfl) (by kernel_rfl) ?_
  have e1 : ((0 : Int) == 1) = false := rfl
  have e2' : ((0 : Int) == 2) = false := rfl
  try simp (disch := first | omega | (simp only [L3] <;> omega)) only [Sall,evalOp,init,binA_s,binE,binI,unE,convE,okNil,builtE,gv,TD.isAgg,resV,↓reduceIte,Nat.reduceEqDiff,reduceCtorEq,Nat.reduceAdd,Nat.reduceMul,Nat.reduceLeDiff,quietOp,blindOp,Int.reduceEq,Int.reduceLT,Int.reduceLE,Nat.reduceLT,tiA, hone, slCells, zz, sp0, sp1, sp2, sp3, e1, e2']
  obtain ⟨H2, e2⟩ : ∃ H2, H2 = (H.push ⟨55, true, [.int .i64 n, u]⟩).push ⟨188, true, [.int .i64 0, .int .i64 2, .int .i64 1, .int .i64 3, .int .i64 0, .int .i64 3, .int .i64 1, .int .i64 2]⟩ := ⟨_, rfl⟩
  have up2 : Up H.next H H2 := by rw [e2]; exact ((Up.refl _ H).push (Nat.le_refl _) _).push (by simp only [AH.push_next]; omega) _
  have r2 : H2.row (H.next + 1) = some ⟨188, true, [.int .i64 0, .int .i64 2, .int .i64 1, .int .i64 3, .int .i64 0, .int .i64 3, .int .i64 1, .int .i64 2]⟩ := by rw [e2, AH.push_row, AH.push_next, if_pos rfl]
  have n2 : H2.next = H.next + 2 := by rw [e2]; rfl
  rw [← e2]
  clear e2
  refine (together_c n hn u R (.slice (some ⟨H.next + 1, 0, some 2⟩) 4 4) wO H2 (hu.same (up2.le hs).row) ⟨rfl, .inr ⟨H.next + 1, 0, _, _, _, rfl, r2, by decide, rfl⟩⟩ (by decide) (by decide) hR.1 hR.2).mono ?_
  rintro r H3 ⟨up3, f3⟩
  have n3 := up3.next
  have ho := f3.rd.one
  refine Holds.mp ?_
  try simp (disch := first | omega | (simp only [L3] <;> omega)) only [Sall,evalOp,init,binA_s,binE,binI,unE,convE,okNil,builtE,gv,TD.isAgg,resV,↓reduceIte,Nat.reduceEqDiff,reduceCtorEq,Nat.reduceAdd,Nat.reduceMul,Nat.reduceLeDiff,quietOp,blindOp,Int.reduceEq,Int.reduceLT,Int.reduceLE,Nat.reduceLT,tiA, ho]
  exact ⟨up2.trans up3 (by omega), f3.wide (by omega) (Nat.le_refl _)⟩
theorem twice_c (x : Int) (H : AH) : ACalls Tryz.prog 252 [.int .i64 x] H (is (.bool (x == 2)) H) := by
  refine acalls_of_awp [.tmp 2] Tryz.func252 (by kernel_rfl) rfl rfl (Nat.le_of_ble_eq_true rfl) (by kernel_rfl) ?_
  try simp (disch := first | omega | (simp only [L3] <;> omega)) only [Sall,evalOp,init,binA_s,binE,binI,unE,convE,okNil,builtE,gv,TD.isAgg,resV,↓reduceIte,Nat.reduceEqDiff,reduceCtorEq,Nat.reduceAdd,Nat.reduceMul,Nat.reduceLeDiff,quietOp,blindOp,Int.reduceEq,Int.reduceLT,Int.reduceLE,Nat.reduceLT,tiA, is]
theorem fb1_c (x : Int) (H : AH) : ACalls Tryz.prog 256 [.int .i64 x] H (is (.bool (decide (x ≤ 1))) H) := by
  refine acalls_of_awp [.tmp 2] Tryz.func256 (by kernel_rfl) rfl rfl (Nat.le_of_ble_eq_true rfl) (by kernel_rfl) ?_
  try simp (disch := first | omega | (simp only [L3] <;> omega)) only [Sall,evalOp,init,binA_s,binE,binI,unE,convE,okNil,builtE,gv,TD.isAgg,resV,↓reduceIte,Nat.reduceEqDiff,reduceCtorEq,Nat.reduceAdd,Nat.reduceMul,Nat.reduceLeDiff,quietOp,blindOp,Int.reduceEq,Int.reduceLT,Int.reduceLE,Nat.reduceLT,tiA, is]
theorem fb2_c (x : Int) (H : AH) : ACalls Tryz.prog 257 [.int .i64 x] H (is (.bool (decide (x ≤ 2))) H) := by
  refine acalls_of_awp [.tmp 2] Tryz.func257 (by kernel_rfl) rfl rfl (Nat.le_of_ble_eq_true rfl) (by kernel_rfl) ?_
  try simp (disch := first | omega | (simp only [L3] <;> omega)) only [Sall,evalOp,init,binA_s,binE,binI,unE,convE,okNil,builtE,gv,TD.isAgg,resV,↓reduceIte,Nat.reduceEqDiff,reduceCtorEq,Nat.reduceAdd,Nat.reduceMul,Nat.reduceLeDiff,quietOp,blindOp,Int.reduceEq,Int.reduceLT,Int.reduceLE,Nat.reduceLT,tiA, is]
theorem isWhistC_c (n : Nat) (hn : 1 ≤ n ∧ n ≤ 16) (y : Value) (l : List Int) (c0 : Nat) (H : AH) (h0 : H.row c0 = some ⟨2, true, [.int .i64 n]⟩) (hy : Rd 1 H y l.length l) (hl : l.length ≤ 4294967296) :
    ACalls Tryz.prog 250 [y, .pointer (some ⟨c0, 0, none⟩)] H (is (.bool (!decide (l.length = n - n % 4))) H) := by
  refine acalls_of_awp [.tmp 3] Tryz.func250 (by kernel_rfl) rfl rfl (Nat.le_of_ble_eq_true rfl) (by kernel_rfl) ?_
  have em : Int.tmod (n : Int) 4 = ((n % 4 : Nat) : Int) := rfl
  try simp (disch := first | omega | (simp only [L3] <;> omega)) only [Sall,evalOp,init,binA_s,binE,binI,unE,convE,okNil,builtE,gv,TD.isAgg,resV,↓reduceIte,Nat.reduceEqDiff,reduceCtorEq,Nat.reduceAdd,Nat.reduceMul,Nat.reduceLeDiff,quietOp,blindOp,Int.reduceEq,Int.reduceLT,Int.reduceLE,Nat.reduceLT,tiA, true_and]
  refine draw_in [0, 2, 3, 4, 5, 1, 6, 7] (by kernel_rfl) (by kernel_rfl) (by kernel_rfl) ?_
  try simp (disch := first | omega | (simp only [L3] <;> omega)) only [Sall,evalOp,init,binA_s,binE,binI,unE,convE,okNil,builtE,gv,TD.isAgg,resV,↓reduceIte,Nat.reduceEqDiff,reduceCtorEq,Nat.reduceAdd,Nat.reduceMul,Nat.reduceLeDiff,quietOp,blindOp,Int.reduceEq,Int.reduceLT,Int.reduceLE,Nat.reduceLT,tiA, h0, em, w64]
  refine (size_c y l H hy hl).to ?_
  refine ⟨.inr (.inr (LE.refl _)), ?_⟩
  by_cases h : l.length = n - n % 4
  · have e : ((l.length : Int) != (n : Int) - ((n % 4 : Nat) : Int)) = false := by rw [h, show (((n - n % 4 : Nat)) : Int) = (n : Int) - ((n % 4 : Nat) : Int) by omega]; exact bne_self_eq_false _
    rw [decide_eq_true h]
    try simp (disch := first | omega | (simp only [L3] <;> omega)) only [Sall,evalOp,init,binA_s,binE,binI,unE,convE,okNil,builtE,gv,TD.isAgg,resV,↓reduceIte,Nat.reduceEqDiff,reduceCtorEq,Nat.reduceAdd,Nat.reduceMul,Nat.reduceLeDiff,quietOp,blindOp,Int.reduceEq,Int.reduceLT,Int.reduceLE,Nat.reduceLT,tiA, e, is]
  · have e : ((l.length : Int) != (n : Int) - ((n % 4 : Nat) : Int)) = true := by rw [bne_iff_ne]; omega
    rw [decide_eq_false h]
    try simp (disch := first | omega | (simp only [L3] <;> omega)) only [Sall,evalOp,init,binA_s,binE,binI,unE,convE,okNil,builtE,gv,TD.isAgg,resV,↓reduceIte,Nat.reduceEqDiff,reduceCtorEq,Nat.reduceAdd,Nat.reduceMul,Nat.reduceLeDiff,quietOp,blindOp,Int.reduceEq,Int.reduceLT,Int.reduceLE,Nat.reduceLT,tiA, e, is]
theorem isWhist_c (n : Nat) (hn : 1 ≤ n ∧ n ≤ 16) (u : Value) (R : List (List Int)) (H : AH) (hu : Rd2 1 H u R) (hR : EvOk n R) :
    ACalls Tryz.prog 143 [.agg #[.int .i64 n, u]] H (is (.bool (whistB n R)) H) := by
  refine acalls_up (by simp [flat, Abs.scal]) (ACalls.wf (by kernel_rfl) fun hs => acalls_of_awp [.tmp 2] Tryz.func143 (by kernel_rfl) rfl rfl (Nat.le_of_ble_eq_true rfl) (by kernel_rfl) ?_)
  have hone := hu.one
  have em : Int.tmod (n : Int) 4 = ((n % 4 : Nat) : Int) := rfl
  obtain ⟨H2, e2⟩ : ∃ H2, H2 = ((H.push ⟨55, true, [.int .i64 n, u]⟩).push ⟨2, true, [.int .i64 0]⟩).setCells (H.next + 1) [.int .i64 n] := ⟨_, rfl⟩
  have up2 : Up H.next H H2 := by rw [e2]; exact (((Up.refl _ H).push (Nat.le_refl _) _).push (by simp only [AH.push_next]; omega) _).set (by omega) _
  have r0 : H2.row H.next = some ⟨55, true, [.int .i64 n, u]⟩ := by rw [e2]; simp [AH.setCells_row, AH.push_row, AH.push_next]
  have r1 : H2.row (H.next + 1) = some ⟨2, true, [.int .i64 n]⟩ := by rw [e2]; simp [AH.setCells_row, AH.push_row, AH.push_next]
  have n2 : H2.next = H.next + 2 := by rw [e2]; rfl
  have sc2 : Sc H2 := by rw [e2]; exact ((Sc.push hs _).push _).set _ _
  have zz : zeros 1 [.int .i64 0] = [.int .i64 0] := rfl
  try simp (disch := first | omega | (simp only [L3] <;> omega)) only [Sall,evalOp,init,binA_s,binE,binI,unE,convE,okNil,builtE,gv,TD.isAgg,resV,↓reduceIte,Nat.reduceEqDiff,reduceCtorEq,Nat.reduceAdd,Nat.reduceMul,Nat.reduceLeDiff,quietOp,blindOp,Int.reduceEq,Int.reduceLT,Int.reduceLE,Nat.reduceLT,tiA, hone, zz]
  rw [← e2]
  clear e2
  have hu2 := hu.same (up2.le hs).row
  unfold whistB formB
  refine draw_in [0, 1, 2, 3, 4, 5, 7, 8, 9, 10, 11, 6, 12, 13, 14, 15, 16, 17, 18, 19] (by kernel_rfl) (by kernel_rfl) (by kernel_rfl) ?_
  by_cases h4 : n % 4 ≤ 1
  · have d1 : ¬ (1 : Int) < ((n % 4 : Nat) : Int) := by omega
    rw [decide_eq_true h4]
    try simp (disch := first | omega | (simp only [L3] <;> omega)) only [Sall,evalOp,init,binA_s,binE,binI,unE,convE,okNil,builtE,gv,TD.isAgg,resV,↓reduceIte,Nat.reduceEqDiff,reduceCtorEq,Nat.reduceAdd,Nat.reduceMul,Nat.reduceLeDiff,quietOp,blindOp,Int.reduceEq,Int.reduceLT,Int.reduceLE,Nat.reduceLT,tiA, r0, r1, em, d1, decide_false, w64]
    refine (sizeLL_c u R H2 hu2 (by have := hR.1; omega)).to ?_
    refine ⟨.inr (.inr (LE.refl _)), ?_⟩
    by_cases hm : R.length = n - 1 + n % 4
    · have d2 : ((R.length : Int) != (n : Int) - 1 + ((n % 4 : Nat) : Int)) = false := by rw [hm, show (((n - 1 + n % 4 : Nat)) : Int) = (n : Int) - 1 + ((n % 4 : Nat) : Int) by omega]; exact bne_self_eq_false _
      rw [decide_eq_true hm]
      try simp (disch := first | omega | (simp only [L3] <;> omega)) only [Sall,evalOp,init,binA_s,binE,binI,unE,convE,okNil,builtE,gv,TD.isAgg,resV,↓reduceIte,Nat.reduceEqDiff,reduceCtorEq,Nat.reduceAdd,Nat.reduceMul,Nat.reduceLeDiff,quietOp,blindOp,Int.reduceEq,Int.reduceLT,Int.reduceLE,Nat.reduceLT,tiA, r0, r1, em, d2, w64, List.mem_cons, List.not_mem_nil, or_false, forall_eq_or_imp, forall_eq, Array.size_empty]
      refine (containsFuncLL_c 250 [.pointer (some ⟨H.next + 1, 0, none⟩)] (fun l => !decide (l.length = n - n % 4)) u R H2 hu2 (by have := hR.1; omega) ?_).to ?_
      · intro y l hl hy
        obtain ⟨i, hi, rfl⟩ := List.getElem_of_mem hl
        have := (hR.2 i hi).1
        rw [List.getD_eq_getElem?_getD, List.getElem?_eq_getElem hi] at this
        exact isWhistC_c n hn y _ (H.next + 1) H2 r1 hy (by simp only [Option.getD_some] at this; omega)
      · refine ⟨.inr (.inr (LE.refl _)), ?_⟩
        have hany : ((List.range R.length).any fun i => !decide ((R.getD i []).length = n - n % 4)) = !((List.range R.length).all fun i => decide ((R.getD i []).length = n - n % 4)) := by
          rw [List.not_all_eq_any_not]
        rw [hany]
        cases hall : (List.range R.length).all fun i => decide ((R.getD i []).length = n - n % 4) with
        | false =>
          try simp (disch := first | omega | (simp only [L3] <;> omega)) only [Sall,evalOp,init,binA_s,binE,binI,unE,convE,okNil,builtE,gv,TD.isAgg,resV,↓reduceIte,Nat.reduceEqDiff,reduceCtorEq,Nat.reduceAdd,Nat.reduceMul,Nat.reduceLeDiff,quietOp,blindOp,Int.reduceEq,Int.reduceLT,Int.reduceLE,Nat.reduceLT,tiA, Bool.not_false, Bool.and_false, Bool.false_and]
          exact up2
        | true =>
          try simp (disch := first | omega | (simp only [L3] <;> omega)) only [Sall,evalOp,init,binA_s,binE,binI,unE,convE,okNil,builtE,gv,TD.isAgg,resV,↓reduceIte,Nat.reduceEqDiff,reduceCtorEq,Nat.reduceAdd,Nat.reduceMul,Nat.reduceLeDiff,quietOp,blindOp,Int.reduceEq,Int.reduceLT,Int.reduceLE,Nat.reduceLT,tiA, Bool.not_true, Bool.true_and, r0]
          refine (partners_c n hn u R H2 hu2 hR).sc.mono ?_
          rintro v3 H3 ⟨⟨up3, f3⟩, sc3⟩
          have n3 := up3.next
          have r03 : H3.row H.next = some ⟨55, true, [.int .i64 n, u]⟩ := by rw [up3.row _ (by omega), r0]
          have U3 : Up H.next H H3 := up2.trans up3 (by omega)
          refine Holds.mp ?_
          try simp (disch := first | omega | (simp only [L3] <;> omega)) only [Sall,evalOp,init,binA_s,binE,binI,unE,convE,okNil,builtE,gv,TD.isAgg,resV,↓reduceIte,Nat.reduceEqDiff,reduceCtorEq,Nat.reduceAdd,Nat.reduceMul,Nat.reduceLeDiff,quietOp,blindOp,Int.reduceEq,Int.reduceLT,Int.reduceLE,Nat.reduceLT,tiA, true_and]
          refine (areAll_c 148 (fun x => x == 1) once_c v3 n _ H3 f3.rd (tabM_sq _ _ _) (by omega)).to ?_
          cases h1 : eachB (fun x => x == 1) (tabM n wP R) with
          | false =>
            try simp (disch := first | omega | (simp only [L3] <;> omega)) only [Sall,evalOp,init,binA_s,binE,binI,unE,convE,okNil,builtE,gv,TD.isAgg,resV,↓reduceIte,Nat.reduceEqDiff,reduceCtorEq,Nat.reduceAdd,Nat.reduceMul,Nat.reduceLeDiff,quietOp,blindOp,Int.reduceEq,Int.reduceLT,Int.reduceLE,Nat.reduceLT,tiA, Bool.false_and]
            exact ⟨rfl, U3⟩
          | true =>
            try simp (disch := first | omega | (simp only [L3] <;> omega)) only [Sall,evalOp,init,binA_s,binE,binI,unE,convE,okNil,builtE,gv,TD.isAgg,resV,↓reduceIte,Nat.reduceEqDiff,reduceCtorEq,Nat.reduceAdd,Nat.reduceMul,Nat.reduceLeDiff,quietOp,blindOp,Int.reduceEq,Int.reduceLT,Int.reduceLE,Nat.reduceLT,tiA, Bool.true_and, r03]
            refine (opponents0_c n hn u R H3 (hu.same (U3.le hs).row) hR).mono ?_
            rintro v4 H4 ⟨up4, f4⟩
            have n4 := up4.next
            refine Holds.mp ?_
            try simp (disch := first | omega | (simp only [L3] <;> omega)) only [Sall,evalOp,init,binA_s,binE,binI,unE,convE,okNil,builtE,gv,TD.isAgg,resV,↓reduceIte,Nat.reduceEqDiff,reduceCtorEq,Nat.reduceAdd,Nat.reduceMul,Nat.reduceLeDiff,quietOp,blindOp,Int.reduceEq,Int.reduceLT,Int.reduceLE,Nat.reduceLT,tiA, true_and]
            refine (areAll_c 252 (fun x => x == 2) twice_c v4 n _ H4 f4.rd (tabM_sq _ _ _) (by omega)).to ?_
            try simp (disch := first | omega | (simp only [L3] <;> omega)) only [Sall,evalOp,init,binA_s,binE,binI,unE,convE,okNil,builtE,gv,TD.isAgg,resV,↓reduceIte,Nat.reduceEqDiff,reduceCtorEq,Nat.reduceAdd,Nat.reduceMul,Nat.reduceLeDiff,quietOp,blindOp,Int.reduceEq,Int.reduceLT,Int.reduceLE,Nat.reduceLT,tiA, true_and]
            exact ⟨rfl, U3.trans up4 (by omega)⟩
    · have d2 : ((R.length : Int) != (n : Int) - 1 + ((n % 4 : Nat) : Int)) = true := by rw [bne_iff_ne]; omega
      rw [decide_eq_false hm]
      try simp (disch := first | omega | (simp only [L3] <;> omega)) only [Sall,evalOp,init,binA_s,binE,binI,unE,convE,okNil,builtE,gv,TD.isAgg,resV,↓reduceIte,Nat.reduceEqDiff,reduceCtorEq,Nat.reduceAdd,Nat.reduceMul,Nat.reduceLeDiff,quietOp,blindOp,Int.reduceEq,Int.reduceLT,Int.reduceLE,Nat.reduceLT,tiA, r0, r1, em, d2, Bool.and_false, Bool.false_and, w64]
      exact up2
  · have d1 : (1 : Int) < ((n % 4 : Nat) : Int) := by omega
    rw [decide_eq_false h4]
    try simp (disch := first | omega | (simp only [L3] <;> omega)) only [Sall,evalOp,init,binA_s,binE,binI,unE,convE,okNil,builtE,gv,TD.isAgg,resV,↓reduceIte,Nat.reduceEqDiff,reduceCtorEq,Nat.reduceAdd,Nat.reduceMul,Nat.reduceLeDiff,quietOp,blindOp,Int.reduceEq,Int.reduceLT,Int.reduceLE,Nat.reduceLT,tiA, r0, r1, em, d1, decide_true, Bool.false_and, w64]
    exact up2
end Go.Proofs.YtpienljnoaendaaGreat.A
end

section
set_option maxRecDepth 100000
set_option maxHeartbeats 2000000
namespace Go.Proofs.YtpienljnoaendaaGreat.A
open Go Go.Abs Go.RowKit
theorem xor4 : ∀ a w : Fin 4, IntKind.i64.wrap ((BitVec.ofInt IntKind.i64.bits ((a.val : Nat) : Int) ^^^ BitVec.ofInt IntKind.i64.bits ((w.val : Nat) : Int)).toNat : Int) = ((a.val ^^^ w.val : Nat) : Int) := by decide
theorem xor4' {a w : Nat} (ha : a < 4) (hw : w < 4) : IntKind.i64.wrap ((BitVec.ofInt IntKind.i64.bits (a : Int) ^^^ BitVec.ofInt IntKind.i64.bits (w : Int)).toNat : Int) = ((a ^^^ w : Nat) : Int) := xor4 ⟨a, ha⟩ ⟨w, hw⟩
theorem xor_lt4 {a w : Nat} (ha : a < 4) (hw : w < 4) : a ^^^ w < 4 := Nat.xor_lt_two_pow (n := 2) ha hw
theorem l06Table_c (n : Nat) (hn : 1 ≤ n ∧ n ≤ 16) (u : Value) (R : List (List Int)) (wv : Value) (us : List Nat) (ws : List (Nat × Nat)) (hway : wayOk us ws) (H : AH) (hu : Rd2 1 H u R) (hw : Rd 1 H wv us.length (us.map fun (w : Nat) => (w : Int))) (hus : ∀ w ∈ us, w < 4) (hul : us.length ≤ 4)
    (hR : EvOk n R) (hR4 : ∀ i, i < R.length → (R.getD i []).length % 4 = 0) :
    ACalls Tryz.prog 150 [.agg #[.int .i64 n, u], wv] H (fun r H' => Up H.next H H' ∧ Fr2 1 33 2 H.next H'.next H' r (tabM n ws R)) := by
  refine ACalls.wf (by kernel_rfl) fun hs => acalls_of_awp [.tmp 4] Tryz.func150 (by kernel_rfl) rfl rfl (Nat.le_of_ble_eq_true rfl) (by kernel_rfl) ?_
  have hone := hu.one
  have hRl := hR.1
  rw [← svA_tab hway hR4]
  have up : Up H.next H (H.push ⟨55, true, [.int .i64 n, u]⟩) := (Up.refl _ H).push (Nat.le_refl _) _
  have e1 : (H.push ⟨55, true, [.int .i64 n, u]⟩).row H.next = some ⟨55, true, [.int .i64 n, u]⟩ := by rw [AH.push_row, if_pos rfl]
  have n1 : (H.push ⟨55, true, [.int .i64 n, u]⟩).next = H.next + 1 := rfl
  try simp (disch := first | omega | (simp only [L3] <;> omega)) only [Sall,evalOp,init,binA_s,binE,binI,unE,convE,okNil,builtE,gv,TD.isAgg,resV,↓reduceIte,Nat.reduceEqDiff,reduceCtorEq,Nat.reduceAdd,Nat.reduceMul,Nat.reduceLeDiff,quietOp,blindOp,Int.reduceEq,Int.reduceLT,Int.reduceLE,Nat.reduceLT,tiA, hone]
  revert up e1 n1
  generalize H.push ⟨55, true, [.int .i64 n, u]⟩ = H1
  intro up e1 n1
  try simp (disch := first | omega | (simp only [L3] <;> omega)) only [Sall,evalOp,init,binA_s,binE,binI,unE,convE,okNil,builtE,gv,TD.isAgg,resV,↓reduceIte,Nat.reduceEqDiff,reduceCtorEq,Nat.reduceAdd,Nat.reduceMul,Nat.reduceLeDiff,quietOp,blindOp,Int.reduceEq,Int.reduceLT,Int.reduceLE,Nat.reduceLT,tiA, zeros_zero]
  refine awp_loop (fun m t H' => ∃ (a : Nat) (o : Value) (lo hi : Nat), m = n - a ∧ a ≤ n ∧ t 6 = .int .i64 a ∧ t 5 = o ∧ t 1 = wv ∧ t 2 = .pointer (some ⟨H.next, 0, none⟩) ∧ Up H.next H H' ∧ H'.row H.next = some ⟨55, true, [.int .i64 n, u]⟩ ∧ H.next < lo ∧ lo ≤ hi ∧ hi ≤ H'.next ∧ Fr2 1 33 2 lo hi H' o (List.replicate a (List.replicate n 0))) n ?_ ?_
  · refine ⟨0, .slice (some ⟨H1.next, 0, some 1⟩) 0 0, H1.next, H1.next + 1, by omega, by omega, ?_⟩
    try simp (disch := first | omega | (simp only [L3] <;> omega)) only [Sall,evalOp,init,binA_s,binE,binI,unE,convE,okNil,builtE,gv,TD.isAgg,resV,↓reduceIte,Nat.reduceEqDiff,reduceCtorEq,Nat.reduceAdd,Nat.reduceMul,Nat.reduceLeDiff,quietOp,blindOp,Int.reduceEq,Int.reduceLT,Int.reduceLE,Nat.reduceLT,tiA, Int.natCast_zero]
    refine ⟨by rw [n1], up.push (by omega) _, by rw [if_neg (by omega), e1], ?_⟩
    (repeat refine And.intro (by omega) ?_)
    exact .inr ⟨H1.next, [], fun _ => H1.next + 1, by omega, by omega, rfl, by rw [AH.push_row, if_pos rfl], rfl, by dsimp only; omega, by dsimp only; omega, .inl (by dsimp only; omega), fun _ => Nat.le_refl _, fun j hj => by simp at hj⟩
  · rintro m t H' ⟨a, o, lo, hi, hm, han, h6, h5, h1, h2, hup, hr1, hlo, hlh, hhi, hfr⟩
    have hup1 := hup.next
    try simp (disch := first | omega | (simp only [L3] <;> omega)) only [Sall,evalOp,init,binA_s,binE,binI,unE,convE,okNil,builtE,gv,TD.isAgg,resV,↓reduceIte,Nat.reduceEqDiff,reduceCtorEq,Nat.reduceAdd,Nat.reduceMul,Nat.reduceLeDiff,quietOp,blindOp,Int.reduceEq,Int.reduceLT,Int.reduceLE,Nat.reduceLT,tiA, h6, h2, hr1]
    refine condC_dec (fun h => ?_) (fun h => ?_)
    · have zz : zeros 1 [.slice none 0 0] = [.slice none 0 0] := rfl
      have ne1 : ¬ H'.next = H'.next + 1 := by omega
      try simp (disch := first | omega | (simp only [L3] <;> omega)) only [Sall,evalOp,init,binA_s,binE,binI,unE,convE,okNil,builtE,gv,TD.isAgg,resV,↓reduceIte,Nat.reduceEqDiff,reduceCtorEq,Nat.reduceAdd,Nat.reduceMul,Nat.reduceLeDiff,quietOp,blindOp,Int.reduceEq,Int.reduceLT,Int.reduceLE,Nat.reduceLT,tiA, h6, h5, h1, h2, hr1, zeros_int0, zz, slCells]
      (repeat refine And.intro (by omega) ?_)
      obtain ⟨H2, e2⟩ : ∃ H2, H2 = (H'.push ⟨2, true, ints (List.replicate n 0)⟩).push ⟨33, true, [.slice (some ⟨H'.next, 0, some 1⟩) n n]⟩ := ⟨_, rfl⟩
      have n2 : H2.next = H'.next + 2 := by rw [e2]; rfl
      have s2 : ∀ i, i < H'.next → H2.row i = H'.row i := fun i hi => by rw [e2, AH.push_row, if_neg (by rw [AH.push_next]; omega), AH.push_row, if_neg (by omega)]
      have x2 : H2.row H'.next = some ⟨2, true, ints (List.replicate n 0)⟩ := by rw [e2, AH.push_row, if_neg (by rw [AH.push_next]; omega), AH.push_row, if_pos rfl]
      rw [← e2]
      clear e2
      refine appE_fr2 (hfr.same fun i _ hi => s2 i (by omega)) (m := n) (l := List.replicate n 0) ⟨by simp, .inr ⟨H'.next, by omega, by omega, rfl, x2⟩⟩ rfl (by decide) (by rw [List.length_replicate]; omega) hlh (by omega) ?_
      intro v' H3 n3 s3 f3
      try simp (disch := first | omega | (simp only [L3] <;> omega)) only [Sall,evalOp,init,binA_s,binE,binI,unE,convE,okNil,builtE,gv,TD.isAgg,resV,↓reduceIte,Nat.reduceEqDiff,reduceCtorEq,Nat.reduceAdd,Nat.reduceMul,Nat.reduceLeDiff,quietOp,blindOp,Int.reduceEq,Int.reduceLT,Int.reduceLE,Nat.reduceLT,tiA, h6, h1, h2, w64]
      refine ⟨n - (a + 1), by omega, a + 1, v', lo, H2.next + 1, rfl, by omega, rfl, rfl, ⟨by omega, fun i hi => ?_⟩, ?_, by omega, by omega, by omega, ?_⟩
      · rw [s3 i (by omega) (by omega), s2 i (by omega), hup.row i hi]
      · rw [s3 _ (by omega) (by omega), s2 _ (by omega), hr1]
      · rw [replicate_snoc]; exact f3
    · have ha : a = n := by omega
      subst ha
      try simp (disch := first | omega | (simp only [L3] <;> omega)) only [Sall,evalOp,init,binA_s,binE,binI,unE,convE,okNil,builtE,gv,TD.isAgg,resV,↓reduceIte,Nat.reduceEqDiff,reduceCtorEq,Nat.reduceAdd,Nat.reduceMul,Nat.reduceLeDiff,quietOp,blindOp,Int.reduceEq,Int.reduceLT,Int.reduceLE,Nat.reduceLT,tiA, h5, h1, h2]
      have hf0 : Fr2 1 33 2 lo hi H' o (cntMx a (svA a us R 0)) := by rw [show svA a us R 0 = [] from rfl, cntMx_nil]; exact hfr
      refine awp_loop (fun m t H2 => ∃ i : Nat, m = R.length - i ∧ i ≤ R.length ∧ t 7 = .int .i64 i ∧ t 5 = o ∧ t 1 = wv ∧ t 2 = .pointer (some ⟨H.next, 0, none⟩) ∧ Up H.next H H2 ∧ hi ≤ H2.next ∧ H2.row H.next = some ⟨55, true, [.int .i64 a, u]⟩ ∧ Fr2 1 33 2 lo hi H2 o (cntMx a (svA a us R i))) R.length ?_ ?_
      · refine ⟨0, by omega, by omega, ?_⟩
        try simp (disch := first | omega | (simp only [L3] <;> omega)) only [Sall,evalOp,init,binA_s,binE,binI,unE,convE,okNil,builtE,gv,TD.isAgg,resV,↓reduceIte,Nat.reduceEqDiff,reduceCtorEq,Nat.reduceAdd,Nat.reduceMul,Nat.reduceLeDiff,quietOp,blindOp,Int.reduceEq,Int.reduceLT,Int.reduceLE,Nat.reduceLT,tiA, Int.natCast_zero, h5, h1, h2]
        exact ⟨hup, hhi, hr1, hf0⟩
      · rintro m t H2 ⟨i, hm, hik, h7, h5, h1, h2, hup2, hn2, hr2, hf2⟩
        have hu2 := (hu.same (hup2.le hs).row).len
        try simp (disch := first | omega | (simp only [L3] <;> omega)) only [Sall,evalOp,init,binA_s,binE,binI,unE,convE,okNil,builtE,gv,TD.isAgg,resV,↓reduceIte,Nat.reduceEqDiff,reduceCtorEq,Nat.reduceAdd,Nat.reduceMul,Nat.reduceLeDiff,quietOp,blindOp,Int.reduceEq,Int.reduceLT,Int.reduceLE,Nat.reduceLT,tiA, h7, h2, hr2, builtE, hu2]
        refine condC_dec (fun hh => ?_) (fun hh => ?_)
        · obtain ⟨xi, xo, xuu, xc, xr, y, my, ex, hxr, hy, hsx, hok⟩ := hu.get (j := i) (by omega)
          have hxr' : H2.row xi = some xr := (hup2.le hs).row _ _ hxr
          obtain ⟨hl16, hin⟩ := hR.2 i (by omega)
          have hl4 := hR4 i (by omega)
          have hmm := hsx.lenK1
          have hevS := svA_succ a us R i
          have hI0 : (svA a us R i).length ≤ 2000 := by
            have := svA_length (n := a) (ws := us) (fun i hi => (hR.2 i hi).1) i (by omega)
            have h2 : i * (16 * us.length) ≤ 20 * 64 := Nat.mul_le_mul (by have := hR.1; omega) (by omega)
            omega
          revert hsx hl16 hin hl4 hmm hevS
          generalize R.getD i [] = l
          intro hsx hl16 hin hl4 hmm hevS
          subst hmm
          have hold : ∀ {H3 : AH}, Up H.next H H3 → Rd 1 H3 y l.length l := fun hup3 => hsx.same (hup3.le hs).row
          try simp (disch := first | omega | (simp only [L3] <;> omega)) only [Sall,evalOp,init,binA_s,binE,binI,unE,convE,okNil,builtE,gv,TD.isAgg,resV,↓reduceIte,Nat.reduceEqDiff,reduceCtorEq,Nat.reduceAdd,Nat.reduceMul,Nat.reduceLeDiff,quietOp,blindOp,Int.reduceEq,Int.reduceLT,Int.reduceLE,Nat.reduceLT,tiA, h7, h5, h1, h2, hr2, ex, hxr', hy, hok]
          (repeat refine And.intro (by omega) ?_)
          refine awp_loop (fun m t H3 => ∃ k : Nat, m = l.length - k ∧ k ≤ l.length ∧ t 9 = .int .i64 k ∧ t 8 = y ∧ t 7 = .int .i64 i ∧ t 5 = o ∧ t 1 = wv ∧ t 2 = .pointer (some ⟨H.next, 0, none⟩) ∧ Up H.next H H3 ∧ hi ≤ H3.next ∧ H3.row H.next = some ⟨55, true, [.int .i64 a, u]⟩ ∧ Fr2 1 33 2 lo hi H3 o (cntMx a (svA a us R i ++ svR a us l k))) l.length ?_ ?_
          · refine ⟨0, by omega, by omega, ?_⟩
            try simp (disch := first | omega | (simp only [L3] <;> omega)) only [Sall,evalOp,init,binA_s,binE,binI,unE,convE,okNil,builtE,gv,TD.isAgg,resV,↓reduceIte,Nat.reduceEqDiff,reduceCtorEq,Nat.reduceAdd,Nat.reduceMul,Nat.reduceLeDiff,quietOp,blindOp,Int.reduceEq,Int.reduceLT,Int.reduceLE,Nat.reduceLT,tiA, Int.natCast_zero, h7, h5, h1, h2]
            refine ⟨hup2, hn2, ?_, ?_⟩
            · exact hr2
            · rw [show svR a us l 0 = [] from rfl, List.append_nil]; exact hf2
          · rintro m t H3 ⟨k, hm, hk, h9, h8, h7, h5, h1, h2, hup3, hn3, hr3, hf3⟩
            have hl3 := (hold hup3).len
            try simp (disch := first | omega | (simp only [L3] <;> omega)) only [Sall,evalOp,init,binA_s,binE,binI,unE,convE,okNil,builtE,gv,TD.isAgg,resV,↓reduceIte,Nat.reduceEqDiff,reduceCtorEq,Nat.reduceAdd,Nat.reduceMul,Nat.reduceLeDiff,quietOp,blindOp,Int.reduceEq,Int.reduceLT,Int.reduceLE,Nat.reduceLT,tiA, h9, h8, builtE, hl3]
            refine condC_dec (fun hhh => ?_) (fun hhh => ?_)
            · obtain ⟨yi, yo, yu, yc, yr, ey, hyr, _, hyg, _⟩ := (hold (Up.refl H.next H)).get (by omega)
              have hyi := hs _ _ hyr
              have hyr3 : H3.row yi = some yr := by rw [hup3.row _ hyi]; exact hyr
              have mem : ∀ j, j < l.length → 0 ≤ l.getD j 0 ∧ l.getD j 0 < (a : Int) := fun j hj => hin _ (by rw [List.getD_eq_getElem?_getD, List.getElem?_eq_getElem hj]; exact List.getElem_mem _)
              have m1 := mem k (by omega)
              have g1 := hyg k (by omega)
              obtain ⟨p, ep⟩ : ∃ p : Nat, l.getD k 0 = (p : Int) := ⟨(l.getD k 0).toNat, by omega⟩
              rw [ep] at g1 m1
              have hsq0 := cntMx_sq a (svA a us R i ++ svR a us l k)
              have hrow0 := hsq0.2 p (by omega)
              obtain ⟨mi, mvs, i6, eo, q1, q2, q3, q4, q5, q6, q7, q8, q9⟩ := hf3.setF (j := p) (by rw [hsq0.1]; omega) (by omega)
              rw [hsq0.1] at eo
              rw [hrow0] at q4
              try simp (disch := first | omega | (simp only [L3] <;> omega)) only [Sall,evalOp,init,binA_s,binE,binI,unE,convE,okNil,builtE,gv,TD.isAgg,resV,↓reduceIte,Nat.reduceEqDiff,reduceCtorEq,Nat.reduceAdd,Nat.reduceMul,Nat.reduceLeDiff,quietOp,blindOp,Int.reduceEq,Int.reduceLT,Int.reduceLE,Nat.reduceLT,tiA, h9, h8, h7, h5, h1, h2, ey, hyr3, g1, eo, q3, q4]
              (repeat refine And.intro (by omega) ?_)
              refine awp_loop (fun m t H4 => ∃ d : Nat, m = us.length - d ∧ d ≤ us.length ∧ t 11 = .int .i64 d ∧ t 10 = .slice (some ⟨i6, 0, some 1⟩) a a ∧ t 9 = .int .i64 k ∧ t 8 = y ∧ t 7 = .int .i64 i ∧ t 5 = o ∧ t 1 = wv ∧ t 2 = .pointer (some ⟨H.next, 0, none⟩) ∧ Up H.next H H4 ∧ hi ≤ H4.next ∧ H4.row H.next = some ⟨55, true, [.int .i64 a, u]⟩ ∧ H4.row mi = some ⟨33, true, mvs⟩ ∧ Fr2 1 33 2 lo hi H4 o (cntMx a (svA a us R i ++ svR a us l k ++ svW a l k (us.take d)))) us.length ?_ ?_
              · refine ⟨0, by omega, by omega, ?_⟩
                try simp (disch := first | omega | (simp only [L3] <;> omega)) only [Sall,evalOp,init,binA_s,binE,binI,unE,convE,okNil,builtE,gv,TD.isAgg,resV,↓reduceIte,Nat.reduceEqDiff,reduceCtorEq,Nat.reduceAdd,Nat.reduceMul,Nat.reduceLeDiff,quietOp,blindOp,Int.reduceEq,Int.reduceLT,Int.reduceLE,Nat.reduceLT,tiA, Int.natCast_zero, h9, h8, h7, h5, h1, h2]
                refine ⟨hup3, hn3, hr3, q3, ?_⟩
                rw [List.take_zero, show svW a l k [] = [] from rfl, List.append_nil]; exact hf3
              · rintro m t H4 ⟨d, hm, hd, h11, h10, h9, h8, h7, h5, h1, h2, hup4, hn4, hr4, hmi4, hf4⟩
                have hw4 := hw.same (hup4.le hs).row
                try simp (disch := first | omega | (simp only [L3] <;> omega)) only [Sall,evalOp,init,binA_s,binE,binI,unE,convE,okNil,builtE,gv,TD.isAgg,resV,↓reduceIte,Nat.reduceEqDiff,reduceCtorEq,Nat.reduceAdd,Nat.reduceMul,Nat.reduceLeDiff,quietOp,blindOp,Int.reduceEq,Int.reduceLT,Int.reduceLE,Nat.reduceLT,tiA, h11, h1, builtE, hw4.len]
                refine condC_dec (fun hh4 => ?_) (fun hh4 => ?_)
                · obtain ⟨wi, wo, wu, wc, wr, ew, hwr, _, hwg, _⟩ := hw4.get (by omega)
                  have hwa := hwg d (by omega)
                  have hwd : (us.map fun (w : Nat) => (w : Int)).getD d 0 = ((us.getD d 0 : Nat) : Int) := by
                    rw [List.getD_eq_getElem?_getD, List.getElem?_map, List.getD_eq_getElem?_getD, List.getElem?_eq_getElem (by omega)]; rfl
                  rw [hwd] at hwa
                  have w4 := hus (us.getD d 0) (by rw [List.getD_eq_getElem?_getD, List.getElem?_eq_getElem (by omega)]; exact List.getElem_mem _)
                  have hsn := take_snoc us 0 d (by omega)
                  revert hwa w4 hsn
                  generalize us.getD d 0 = w
                  intro hwa w4 hsn
                  have hyr4 : H4.row yi = some yr := by rw [hup4.row _ hyi]; exact hyr
                  have x4 := xor_lt4 (a := k % 4) (by omega) w4
                  have hxor := xor4' (a := k % 4) (by omega) w4
                  obtain ⟨q, hq⟩ : ∃ q, q = k / 4 * 4 + (k % 4 ^^^ w) := ⟨_, rfl⟩
                  have hql : q < l.length := by omega
                  have m2 := mem q hql
                  have g2 := hyg q (by omega)
                  have hsv := svW_snoc a l k (us.take d) w
                  rw [← hsn, ← hq, ep, Int.toNat_natCast] at hsv
                  obtain ⟨z, ez⟩ : ∃ z : Nat, l.getD q 0 = (z : Int) := ⟨(l.getD q 0).toNat, by omega⟩
                  rw [ez] at g2 m2 hsv
                  rw [Int.toNat_natCast] at hsv
                  have hq1 : Int.tdiv (k : Int) 4 = ((k / 4 : Nat) : Int) := rfl
                  have hq2 : Int.tmod (k : Int) 4 = ((k % 4 : Nat) : Int) := rfl
                  have hq3 : (((k / 4 : Nat) : Int) * 4 + ((k % 4 ^^^ w : Nat) : Int)).toNat = q := by omega
                  have hlenI : (svA a us R i ++ svR a us l k ++ svW a l k (us.take d)).length ≤ 10000 := by
                    rw [List.length_append, List.length_append, svR_length, svW_length, List.length_take]
                    have h1 : k * us.length ≤ 16 * 4 := Nat.mul_le_mul (by omega) (by omega)
                    omega
                  have hevX : svA a us R i ++ svR a us l k ++ svW a l k (us.take (d + 1)) = (svA a us R i ++ svR a us l k ++ svW a l k (us.take d)) ++ [ixN a p z] := by rw [hsv]; simp
                  obtain ⟨I, eI⟩ : ∃ I, I = svA a us R i ++ svR a us l k ++ svW a l k (us.take d) := ⟨_, rfl⟩
                  rw [← eI] at hevX hlenI hf4
                  have hsq1 := cntMx_sq a I
                  have hinc1 := cntMx_inc a I p z (by omega) (by omega) (by omega)
                  have hrow1 := hsq1.2 p (by omega)
                  obtain ⟨mj, mvt, i7, eo', p1, p2, p3, p4, p5, p6, p7, p8, p9⟩ := hf4.setF (j := p) (by rw [hsq1.1]; omega) (by omega)
                  have hMl1 := hsq1.1
                  have p10 := p9 (incR ((cntMx a I).getD p []) (z : Int)) (incR_length _ _)
                  rw [hrow1] at p4
                  have emj : mi = mj := by
                    rw [eo] at eo'
                    injection eo' with e
                    injection e with e
                    injection e with e
                  subst emj
                  have emv : mvs = mvt := by
                    rw [hmi4] at p3
                    injection p3 with e
                    injection e
                  subst emv
                  have ei : i6 = i7 := by
                    rw [q4] at p4
                    injection p4 with e
                    injection e with e
                    injection e with e
                    injection e with e
                  subst ei
                  have ne2 : ¬ H.next = i6 := by omega
                  try simp (disch := first | omega | (simp only [L3] <;> omega)) only [Sall,evalOp,init,binA_s,binE,binI,unE,convE,okNil,builtE,gv,TD.isAgg,resV,↓reduceIte,Nat.reduceEqDiff,reduceCtorEq,Nat.reduceAdd,Nat.reduceMul,Nat.reduceLeDiff,quietOp,blindOp,Int.reduceEq,Int.reduceLT,Int.reduceLE,Nat.reduceLT,tiA, h11, h10, h9, h8, h7, h5, h1, h2, ey, hyr4, g2, ew, hwr, hwa, hq1, hq2, hxor, hq3, p8, Int.toNat_natCast, ints_get?, ints_set, w64]
                  (repeat refine And.intro (by omega) ?_)
                  refine ⟨us.length - (d + 1), by omega, d + 1, rfl, by omega, by omega, hup4.set (by omega) _, hn4, by rw [if_neg ne2]; exact hr4, by rw [if_neg p7]; exact hmi4, ?_⟩
                  rw [hevX, ← hinc1]
                  exact p10
                · have hd2 : d = us.length := by omega
                  subst hd2
                  rw [List.take_length] at hf4
                  try simp (disch := first | omega | (simp only [L3] <;> omega)) only [Sall,evalOp,init,binA_s,binE,binI,unE,convE,okNil,builtE,gv,TD.isAgg,resV,↓reduceIte,Nat.reduceEqDiff,reduceCtorEq,Nat.reduceAdd,Nat.reduceMul,Nat.reduceLeDiff,quietOp,blindOp,Int.reduceEq,Int.reduceLT,Int.reduceLE,Nat.reduceLT,tiA, h9, h8, h7, h5, h1, h2, w64]
                  refine ⟨l.length - (k + 1), by omega, k + 1, rfl, by omega, by omega, hup4, hn4, hr4, ?_⟩
                  rw [svR_succ, ← List.append_assoc]; exact hf4
            · have hk2 : k = l.length := by omega
              subst hk2
              try simp (disch := first | omega | (simp only [L3] <;> omega)) only [Sall,evalOp,init,binA_s,binE,binI,unE,convE,okNil,builtE,gv,TD.isAgg,resV,↓reduceIte,Nat.reduceEqDiff,reduceCtorEq,Nat.reduceAdd,Nat.reduceMul,Nat.reduceLeDiff,quietOp,blindOp,Int.reduceEq,Int.reduceLT,Int.reduceLE,Nat.reduceLT,tiA, h7, h5, h1, h2, w64]
              refine ⟨R.length - (i + 1), by omega, i + 1, rfl, by omega, by omega, hup3, hn3, hr3, ?_⟩
              rw [hevS]; exact hf3
        · have hi2 : i = R.length := by omega
          subst hi2
          try simp (disch := first | omega | (simp only [L3] <;> omega)) only [Sall,evalOp,init,binA_s,binE,binI,unE,convE,okNil,builtE,gv,TD.isAgg,resV,↓reduceIte,Nat.reduceEqDiff,reduceCtorEq,Nat.reduceAdd,Nat.reduceMul,Nat.reduceLeDiff,quietOp,blindOp,Int.reduceEq,Int.reduceLT,Int.reduceLE,Nat.reduceLT,tiA, h5]
          exact ⟨hup2, hf2.wide (by omega) hn2⟩
theorem l06Each_c (v : Value) (n : Nat) (M : List (List Int)) (c : Int) (H : AH) (hv : Rd2 1 H v M) (hM : SqM n M) (hn : n ≤ 1024) :
    ACalls Tryz.prog 149 [v, .int .i64 c] H (is (.bool (eachB (fun x => x == c) M)) H) := by
  refine acalls_up rfl (acalls_of_awp [.tmp 4] Tryz.func149 (by kernel_rfl) rfl rfl (Nat.le_of_ble_eq_true rfl) (by kernel_rfl) ?_)
  have hlen := hv.len
  rw [hM.1] at hlen
  try simp (disch := first | omega | (simp only [L3] <;> omega)) only [Sall,evalOp,init,binA_s,binE,binI,unE,convE,okNil,builtE,gv,TD.isAgg,resV,↓reduceIte,Nat.reduceEqDiff,reduceCtorEq,Nat.reduceAdd,Nat.reduceMul,Nat.reduceLeDiff,quietOp,blindOp,Int.reduceEq,Int.reduceLT,Int.reduceLE,Nat.reduceLT,tiA, true_and]
  refine awp_loop (fun m t H' => ∃ a : Nat, m = n - a ∧ a ≤ n ∧ t 5 = .int .i64 a ∧ t 0 = v ∧ t 1 = .int .i64 c ∧ H' = H ∧ (∀ i, i < a → ∀ j, j < n → eachAt (fun x => x == c) M i j = true)) n ?_ ?_
  · refine ⟨0, by omega, by omega, ?_⟩
    try simp (disch := first | omega | (simp only [L3] <;> omega)) only [Sall,evalOp,init,binA_s,binE,binI,unE,convE,okNil,builtE,gv,TD.isAgg,resV,↓reduceIte,Nat.reduceEqDiff,reduceCtorEq,Nat.reduceAdd,Nat.reduceMul,Nat.reduceLeDiff,quietOp,blindOp,Int.reduceEq,Int.reduceLT,Int.reduceLE,Nat.reduceLT,tiA, Int.natCast_zero, Nat.not_lt_zero, false_implies]
  · rintro m t H' ⟨a, hm, han, h5, h0, h1, rfl, hall⟩
    try simp (disch := first | omega | (simp only [L3] <;> omega)) only [Sall,evalOp,init,binA_s,binE,binI,unE,convE,okNil,builtE,gv,TD.isAgg,resV,↓reduceIte,Nat.reduceEqDiff,reduceCtorEq,Nat.reduceAdd,Nat.reduceMul,Nat.reduceLeDiff,quietOp,blindOp,Int.reduceEq,Int.reduceLT,Int.reduceLE,Nat.reduceLT,tiA, h5, h0, builtE, hlen]
    refine condC_dec (fun h => ?_) (fun h => ?_)
    · try simp (disch := first | omega | (simp only [L3] <;> omega)) only [Sall,evalOp,init,binA_s,binE,binI,unE,convE,okNil,builtE,gv,TD.isAgg,resV,↓reduceIte,Nat.reduceEqDiff,reduceCtorEq,Nat.reduceAdd,Nat.reduceMul,Nat.reduceLeDiff,quietOp,blindOp,Int.reduceEq,Int.reduceLT,Int.reduceLE,Nat.reduceLT,tiA, h5, h0, h1]
      refine awp_loop (fun z t H7 => ∃ b : Nat, z = n - b ∧ b ≤ n ∧ t 6 = .int .i64 b ∧ t 5 = .int .i64 a ∧ t 0 = v ∧ t 1 = .int .i64 c ∧ H7 = H' ∧ (∀ j, j < b → eachAt (fun x => x == c) M a j = true)) n ?_ ?_
      · refine ⟨0, by omega, by omega, ?_⟩
        try simp (disch := first | omega | (simp only [L3] <;> omega)) only [Sall,evalOp,init,binA_s,binE,binI,unE,convE,okNil,builtE,gv,TD.isAgg,resV,↓reduceIte,Nat.reduceEqDiff,reduceCtorEq,Nat.reduceAdd,Nat.reduceMul,Nat.reduceLeDiff,quietOp,blindOp,Int.reduceEq,Int.reduceLT,Int.reduceLE,Nat.reduceLT,tiA, Int.natCast_zero, Nat.not_lt_zero, false_implies, h5, h0, h1]
      · rintro z t H7 ⟨b, hz, hbn, h6, h5, h0, h1, rfl, hin⟩
        try simp (disch := first | omega | (simp only [L3] <;> omega)) only [Sall,evalOp,init,binA_s,binE,binI,unE,convE,okNil,builtE,gv,TD.isAgg,resV,↓reduceIte,Nat.reduceEqDiff,reduceCtorEq,Nat.reduceAdd,Nat.reduceMul,Nat.reduceLeDiff,quietOp,blindOp,Int.reduceEq,Int.reduceLT,Int.reduceLE,Nat.reduceLT,tiA, h6, h0, builtE, hlen]
        refine condC_dec (fun hh => ?_) (fun hh => ?_)
        · have hMl := hM.1
          by_cases hab : a = b
          · have e2 : ((a : Int) != (b : Int)) = false := by rw [hab]; exact bne_self_eq_false _
            have hbal : eachAt (fun x => x == c) M a b = true := by unfold eachAt; rw [decide_eq_true hab]; rfl
            try simp (disch := first | omega | (simp only [L3] <;> omega)) only [Sall,evalOp,init,binA_s,binE,binI,unE,convE,okNil,builtE,gv,TD.isAgg,resV,↓reduceIte,Nat.reduceEqDiff,reduceCtorEq,Nat.reduceAdd,Nat.reduceMul,Nat.reduceLeDiff,quietOp,blindOp,Int.reduceEq,Int.reduceLT,Int.reduceLE,Nat.reduceLT,tiA, h6, h5, h0, h1, e2, w64]
            refine ⟨n - (b + 1), by omega, b + 1, rfl, by omega, by omega, fun j hj => ?_⟩
            by_cases e : j = b
            · rw [e]; exact hbal
            · exact hin j (by omega)
          · have e2 : ((a : Int) != (b : Int)) = true := by rw [bne_iff_ne]; omega
            obtain ⟨i, o, u, cc, r, y, my, ev, hr, hy, hsx, hok⟩ := hv.get (j := a) (by rw [hM.1]; omega)
            have hmy := hsx.lenK1
            have hrow := hM.2 a (by omega)
            rw [hrow] at hmy
            subst hmy
            obtain ⟨i7, o7, u7, c7, r7, ey, hr7, hc7, hs7, hg7⟩ := hsx.get (by omega)
            have g1 := hs7 b (by omega)
            rw [hMl] at ev
            by_cases hx1 : (M.getD a []).getD b 0 = c
            · have e3 : ((M.getD a []).getD b 0 != c) = false := by rw [hx1]; exact bne_self_eq_false _
              have hbal : eachAt (fun x => x == c) M a b = true := by unfold eachAt; simp only [hx1, beq_self_eq_true, Bool.or_true]
              try simp (disch := first | omega | (simp only [L3] <;> omega)) only [Sall,evalOp,init,binA_s,binE,binI,unE,convE,okNil,builtE,gv,TD.isAgg,resV,↓reduceIte,Nat.reduceEqDiff,reduceCtorEq,Nat.reduceAdd,Nat.reduceMul,Nat.reduceLeDiff,quietOp,blindOp,Int.reduceEq,Int.reduceLT,Int.reduceLE,Nat.reduceLT,tiA, h6, h5, h0, h1, ev, hr, hy, hok, ey, hr7, g1, e2, e3, w64]
              (repeat refine And.intro (by omega) ?_)
              refine ⟨my - (b + 1), by omega, b + 1, rfl, by omega, by omega, fun j hj => ?_⟩
              by_cases e : j = b
              · rw [e]; exact hbal
              · exact hin j (by omega)
            · have e3 : ((M.getD a []).getD b 0 != c) = true := bne_iff_ne.2 hx1
              have hbal : eachAt (fun x => x == c) M a b = false := by
                have e4 : ((M.getD a []).getD b 0 == c) = false := by rw [beq_eq_false_iff_ne]; exact hx1
                unfold eachAt
                rw [decide_eq_false hab, Bool.false_or]
                exact e4
              try simp (disch := first | omega | (simp only [L3] <;> omega)) only [Sall,evalOp,init,binA_s,binE,binI,unE,convE,okNil,builtE,gv,TD.isAgg,resV,↓reduceIte,Nat.reduceEqDiff,reduceCtorEq,Nat.reduceAdd,Nat.reduceMul,Nat.reduceLeDiff,quietOp,blindOp,Int.reduceEq,Int.reduceLT,Int.reduceLE,Nat.reduceLT,tiA, h6, h5, h0, h1, ev, hr, hy, hok, ey, hr7, g1, e2, e3, w64]
              (repeat refine And.intro (by omega) ?_)
              rw [eachB_bad (i := a) (j := b) (by rw [hMl]; omega) (by omega) hbal]
              exact ⟨rfl, Up.refl _ _⟩
        · try simp (disch := first | omega | (simp only [L3] <;> omega)) only [Sall,evalOp,init,binA_s,binE,binI,unE,convE,okNil,builtE,gv,TD.isAgg,resV,↓reduceIte,Nat.reduceEqDiff,reduceCtorEq,Nat.reduceAdd,Nat.reduceMul,Nat.reduceLeDiff,quietOp,blindOp,Int.reduceEq,Int.reduceLT,Int.reduceLE,Nat.reduceLT,tiA, h5, h0, h1, w64]
          refine ⟨n - (a + 1), by omega, a + 1, rfl, by omega, by omega, fun i hi j hj => ?_⟩
          by_cases e : i = a
          · rw [e]; exact hin j (by omega)
          · exact hall i (by omega) j hj
    · try simp (disch := first | omega | (simp only [L3] <;> omega)) only [Sall,evalOp,init,binA_s,binE,binI,unE,convE,okNil,builtE,gv,TD.isAgg,resV,↓reduceIte,Nat.reduceEqDiff,reduceCtorEq,Nat.reduceAdd,Nat.reduceMul,Nat.reduceLeDiff,quietOp,blindOp,Int.reduceEq,Int.reduceLT,Int.reduceLE,Nat.reduceLT,tiA, true_and]
      rw [eachB_good (fun i hi j hj => hall i (by rw [hM.1] at hi; omega) j (by rw [hM.1] at hi; rw [hM.2 i hi] at hj; exact hj))]
      exact ⟨rfl, Up.refl _ _⟩
end Go.Proofs.YtpienljnoaendaaGreat.A
end

section
namespace Go.Abs
open Go Go.RowKit
def headIs (cs : List Nat) (i : Nat) : Bool := match cs with | c :: _ => i == c | [] => false
def okPool (ops : Array Oper) (post : OT) : Nat → List Nat → List Nat → Array Bool → Bool
  | 0, cs, fs, listed => cs.isEmpty && fs.isEmpty && okOT ops post listed
  | n + 1, cs, fs, listed =>
    if cs.isEmpty && fs.isEmpty then okOT ops post listed else
    !(Region.ready .any ops listed).isEmpty && (Region.ready .any ops listed).all (fun i => headIs cs i || fs.contains i) &&
    (match cs with | c :: cs' => (!(Region.ready .any ops listed).contains c) || okPool ops post n cs' fs (listed.setIfInBounds c true) | [] => true) &&
    fs.all fun a => (!(Region.ready .any ops listed).contains a) || okPool ops post n cs (fs.erase a) (listed.setIfInBounds a true)
def okPre (ops : Array Oper) (post : OT) (cs fs : List Nat) : List Nat → Array Bool → Bool
  | [], listed => okPool ops post (cs.length + fs.length) cs fs listed
  | i :: is, listed =>
    (match ops[i]? with
     | some o => if quietOp o.op = true then (Region.ready .any ops listed).contains i && Region.free .any ops listed i else Region.ready .any ops listed == [i]
     | none => false) && okPre ops post cs fs is (listed.setIfInBounds i true)
structure PoolJ (P : Program) (ops : Array Oper) (Q : T → AH → Prop) (post : OT) (J : List Nat → List Nat → T → AH → Prop) : Prop where
  call : ∀ c cs fs t H, J (c :: cs) fs t H → stepI P ops (J cs fs) c (ops.toList[c]?) t H
  free : ∀ a cs fs t H, a ∈ fs → J cs fs t H → stepI P ops (J cs (fs.erase a)) a (ops.toList[a]?) t H
  done : ∀ t H, J [] [] t H → awpT P ops Q post t H
theorem AAny_pool {P : Program} {ops : Array Oper} {Q : T → AH → Prop} {post : OT} {J : List Nat → List Nat → T → AH → Prop} (hJ : PoolJ P ops Q post J) : ∀ (n : Nat) (cs fs : List Nat) (listed : Array Bool) (t : T) (H : AH) (f : Nat), n + post.depth ≤ f → Closed ops listed → okPool ops post n cs fs listed = true → J cs fs t H → AAny P ops Q f listed t H
  | 0, cs, fs, listed, t, H, f, hf, hc, hok, h => by
    simp only [okPool, Bool.and_eq_true, List.isEmpty_iff] at hok
    obtain ⟨⟨rfl, rfl⟩, h3⟩ := hok
    exact AAny_tree post listed t H f (by omega) hc h3 (hJ.done t H h)
  | n + 1, cs, fs, listed, t, H, 0, hf, hc, hok, h => by omega
  | n + 1, cs, fs, listed, t, H, f + 1, hf, hc, hok, h => by
    unfold okPool at hok
    split at hok
    · rename_i he
      simp only [Bool.and_eq_true, List.isEmpty_iff] at he
      obtain ⟨rfl, rfl⟩ := he
      exact AAny_tree post listed t H (f + 1) (by omega) hc hok (hJ.done t H h)
    · simp only [Bool.and_eq_true] at hok
      obtain ⟨⟨⟨h1, h2⟩, h3⟩, h4⟩ := hok
      refine ⟨fun h0 => (by rw [h0] at h1; simp at h1), fun i hi => ?_⟩
      have hci : (Region.ready .any ops listed).contains i = true := by simpa using hi
      have h5 := List.all_eq_true.1 h2 i hi
      rw [Bool.or_eq_true] at h5
      rcases h5 with h5 | h5
      · cases cs with
        | nil => simp [headIs] at h5
        | cons c cs' =>
          have e : i = c := by simpa [headIs] using h5
          subst e
          simp only [hci, Bool.not_true, Bool.false_or] at h3
          exact aStep_mono (stepI_s (hJ.call i cs' fs t H h)) fun t' H' hk => ⟨hk.1, AAny_pool hJ n cs' fs _ t' H' f (by omega) (hc.set hi) h3 hk.2⟩
      · have hm : i ∈ fs := List.contains_iff_mem.1 h5
        have h6 := List.all_eq_true.1 h4 i hm
        simp only [hci, Bool.not_true, Bool.false_or] at h6
        exact aStep_mono (stepI_s (hJ.free i cs fs t H hm h)) fun t' H' hk => ⟨hk.1, AAny_pool hJ n cs (fs.erase i) _ t' H' f (by omega) (hc.set hi) h6 hk.2⟩
theorem AAny_pre {P : Program} {ops : Array Oper} {Q : T → AH → Prop} {post : OT} {J : List Nat → List Nat → T → AH → Prop} (hJ : PoolJ P ops Q post J) (cs fs : List Nat) : ∀ (is : List Nat) (listed : Array Bool) (t : T) (H : AH) (f : Nat), is.length + (cs.length + fs.length + post.depth) ≤ f → Closed ops listed → okPre ops post cs fs is listed = true → awpI P ops (J cs fs) is t H → AAny P ops Q f listed t H
  | [], listed, t, H, f, hf, hc, hok, h => AAny_pool hJ _ cs fs listed t H f (by simpa using hf) hc hok h
  | i :: is, listed, t, H, 0, hf, hc, hok, h => by simp at hf
  | i :: is, listed, t, H, f + 1, hf, hc, hok, h => by
    simp only [okPre, Bool.and_eq_true] at hok
    simp only [List.length_cons] at hf
    obtain ⟨h1, h2⟩ := hok
    unfold awpI at h
    cases ho : ops[i]? with
    | none => simp [ho] at h1
    | some o =>
      simp only [ho] at h1
      split at h1
      · rename_i hq
        simp only [Bool.and_eq_true] at h1
        obtain ⟨hr, hfr⟩ := h1
        have hr' : i ∈ Region.ready .any ops listed := by simpa using hr
        obtain ⟨v, hy, hk⟩ := aStep_quiet ho hq (stepI_s h)
        exact AAny_first ho hq f listed t H hc (Region.free_spec ho hfr) hr' hy (AAny_pre hJ cs fs is _ _ H f (by omega) (hc.set hr') h2 hk.2)
      · have hr : Region.ready .any ops listed = [i] := by simpa using h1
        refine ⟨fun h0 => (by rw [hr] at h0; cases h0), fun j hj => ?_⟩
        have hji : j = i := by rw [hr] at hj; simpa using hj
        subst hji
        exact aStep_mono (stepI_s h) fun t' H' hk => ⟨hk.1, AAny_pre hJ cs fs is _ t' H' f (by omega) (hc.set hj) h2 hk.2⟩
theorem draw_pool {P : Program} {id : Nat} {ops : Array Oper} {Q : Exit → T → AH → Prop} {t : T} {H : AH} (is cs fs : List Nat) (post : OT) (hm : P.follows .mixedOrders = true) (hok : okPre ops post cs fs is (Array.replicate ops.size false) = true) (hl : is.length + (cs.length + fs.length + post.depth) ≤ ops.size)
    (J : List Nat → List Nat → T → AH → Prop) (hJ : PoolJ P ops (Q .normal) post J) (h : awpI P ops (J cs fs) is t H) : awp P (.region id ops true) Q t H := by
  intro base ρ w tmps QC hS hd hQ
  have hA := AAny_pre hJ cs fs is _ t H ops.size hl ⟨by simp, fun j oj hj hl => by rw [getD_replicate_false'] at hl; cases hl⟩ hok h
  refine wp_region_any hm (AAny_ok ops.size _ t H ρ w.drew tmps hA ⟨hS.1.drew, hS.2.ext (ext_drew (base := base) (H := H) w)⟩ ?_ fun t' H' ρ' w' tmps' hq hs he hz => ?_)
  · intro o ho i hi
    have := List.all_eq_true.1 hd o ho
    simp only [hi, decide_eq_true_eq] at this
    exact this
  · exact hQ .normal t' H' ρ' w' tmps' hq hs ((ext_drew (base := base) (H := H) (ρ := ρ) w).trans he) hz
end Go.Abs
end

section
set_option maxRecDepth 100000
set_option maxHeartbeats 2000000
namespace Go.Proofs.YtpienljnoaendaaGreat.A
open Go Go.Abs Go.RowKit
theorem l06Whist_c (n : Nat) (hn : 1 ≤ n ∧ n ≤ 16) (u : Value) (R : List (List Int)) (H : AH) (hu : Rd2 1 H u R) (hR : EvOk n R) :
    ACalls Tryz.prog 145 [.agg #[.int .i64 n, u]] H (is (.bool (whistB n R)) H) := by
  refine acalls_up (by simp [flat, Abs.scal]) (ACalls.wf (by kernel_rfl) fun hs => acalls_of_awp [.tmp 2] Tryz.func145 (by kernel_rfl) rfl rfl (Nat.le_of_ble_eq_true rfl) (by kernel_rfl) ?_)
  have hone := hu.one
  have hRl := hR.1
  have em : Int.tmod (n : Int) 4 = ((n % 4 : Nat) : Int) := rfl
  have up : Up H.next H (H.push ⟨55, true, [.int .i64 n, u]⟩) := (Up.refl _ H).push (Nat.le_refl _) _
  have e1 : (H.push ⟨55, true, [.int .i64 n, u]⟩).row H.next = some ⟨55, true, [.int .i64 n, u]⟩ := by rw [AH.push_row, if_pos rfl]
  have n1 : (H.push ⟨55, true, [.int .i64 n, u]⟩).next = H.next + 1 := rfl
  have sc1 : Sc (H.push ⟨55, true, [.int .i64 n, u]⟩) := Sc.push hs _
  try simp (disch := first | omega | (simp only [L3] <;> omega)) only [Sall,evalOp,init,binA_s,binE,binI,unE,convE,okNil,builtE,gv,TD.isAgg,resV,↓reduceIte,Nat.reduceEqDiff,reduceCtorEq,Nat.reduceAdd,Nat.reduceMul,Nat.reduceLeDiff,quietOp,blindOp,Int.reduceEq,Int.reduceLT,Int.reduceLE,Nat.reduceLT,tiA, hone]
  revert up e1 n1 sc1
  generalize H.push ⟨55, true, [.int .i64 n, u]⟩ = H1
  intro up e1 n1 sc1
  have hu1 := hu.same (up.le hs).row
  have hln := hu1.len
  unfold whistB formB
  by_cases h4 : n % 4 ≤ 1
  · have d1 : ¬ (1 : Int) < ((n % 4 : Nat) : Int) := by omega
    rw [decide_eq_true h4]
    by_cases hm : R.length = n - 1 + n % 4
    · have d2 : ((R.length : Int) != (n : Int) - 1 + ((n % 4 : Nat) : Int)) = false := by rw [hm, show (((n - 1 + n % 4 : Nat)) : Int) = (n : Int) - 1 + ((n % 4 : Nat) : Int) by omega]; exact bne_self_eq_false _
      rw [decide_eq_true hm]
      try simp (disch := first | omega | (simp only [L3] <;> omega)) only [Sall,evalOp,init,binA_s,binE,binI,unE,convE,okNil,builtE,gv,TD.isAgg,resV,↓reduceIte,Nat.reduceEqDiff,reduceCtorEq,Nat.reduceAdd,Nat.reduceMul,Nat.reduceLeDiff,quietOp,blindOp,Int.reduceEq,Int.reduceLT,Int.reduceLE,Nat.reduceLT,tiA, e1, em, d1, builtE, hln, d2, decide_false, w64]
      refine awp_loop (fun m t H' => ∃ i : Nat, m = R.length - i ∧ i ≤ R.length ∧ t 4 = .int .i64 i ∧ t 3 = .int .i64 n ∧ t 1 = .pointer (some ⟨H.next, 0, none⟩) ∧ H' = H1 ∧ (∀ j, j < i → decide ((R.getD j []).length = n - n % 4) = true)) R.length ?_ ?_
      · refine ⟨0, by omega, by omega, ?_⟩
        try simp (disch := first | omega | (simp only [L3] <;> omega)) only [Sall,evalOp,init,binA_s,binE,binI,unE,convE,okNil,builtE,gv,TD.isAgg,resV,↓reduceIte,Nat.reduceEqDiff,reduceCtorEq,Nat.reduceAdd,Nat.reduceMul,Nat.reduceLeDiff,quietOp,blindOp,Int.reduceEq,Int.reduceLT,Int.reduceLE,Nat.reduceLT,tiA, Int.natCast_zero, Nat.not_lt_zero, false_implies]
      · rintro m t H' ⟨i, hm', hi, h4', h3, h1, rfl, hall⟩
        try simp (disch := first | omega | (simp only [L3] <;> omega)) only [Sall,evalOp,init,binA_s,binE,binI,unE,convE,okNil,builtE,gv,TD.isAgg,resV,↓reduceIte,Nat.reduceEqDiff,reduceCtorEq,Nat.reduceAdd,Nat.reduceMul,Nat.reduceLeDiff,quietOp,blindOp,Int.reduceEq,Int.reduceLT,Int.reduceLE,Nat.reduceLT,tiA, h4', h1, e1, builtE, hln]
        refine condC_dec (fun h => ?_) (fun h => ?_)
        · obtain ⟨xi, xo, xuu, xc, xr, y, my, ex, hxr, hy, hsx, hok⟩ := hu1.get (j := i) (by omega)
          have hmm := hsx.lenK1
          have hl16 := (hR.2 i (by omega)).1
          subst hmm
          have hyl := hsx.len
          by_cases hl : (R.getD i []).length = n - n % 4
          · have e : (((R.getD i []).length : Int) != (n : Int) - ((n % 4 : Nat) : Int)) = false := by rw [hl, show (((n - n % 4 : Nat)) : Int) = (n : Int) - ((n % 4 : Nat) : Int) by omega]; exact bne_self_eq_false _
            try simp (disch := first | omega | (simp only [L3] <;> omega)) only [Sall,evalOp,init,binA_s,binE,binI,unE,convE,okNil,builtE,gv,TD.isAgg,resV,↓reduceIte,Nat.reduceEqDiff,reduceCtorEq,Nat.reduceAdd,Nat.reduceMul,Nat.reduceLeDiff,quietOp,blindOp,Int.reduceEq,Int.reduceLT,Int.reduceLE,Nat.reduceLT,tiA, h4', h3, h1, e1, ex, hxr, hy, hok, builtE, hyl, em, e, w64]
            (repeat refine And.intro (by omega) ?_)
            refine ⟨R.length - (i + 1), by omega, i + 1, rfl, by omega, by omega, fun j hj => ?_⟩
            by_cases e : j = i
            · rw [e]; exact decide_eq_true hl
            · exact hall j (by omega)
          · have e : (((R.getD i []).length : Int) != (n : Int) - ((n % 4 : Nat) : Int)) = true := by rw [bne_iff_ne]; omega
            have hall2 : ((List.range R.length).all fun i => decide ((R.getD i []).length = n - n % 4)) = false := all_false_of (i := i) (by omega) (decide_eq_false hl)
            rw [hall2]
            try simp (disch := first | omega | (simp only [L3] <;> omega)) only [Sall,evalOp,init,binA_s,binE,binI,unE,convE,okNil,builtE,gv,TD.isAgg,resV,↓reduceIte,Nat.reduceEqDiff,reduceCtorEq,Nat.reduceAdd,Nat.reduceMul,Nat.reduceLeDiff,quietOp,blindOp,Int.reduceEq,Int.reduceLT,Int.reduceLE,Nat.reduceLT,tiA, h4', h3, h1, e1, ex, hxr, hy, hok, builtE, hyl, em, e, w64, Bool.and_false, Bool.false_and]
            (repeat refine And.intro (by omega) ?_)
            exact up
        · have hi2 : i = R.length := by omega
          subst hi2
          have hall2 : ((List.range R.length).all fun i => decide ((R.getD i []).length = n - n % 4)) = true := all_true_of fun i hi => hall i hi
          have hR4 : ∀ i, i < R.length → (R.getD i []).length % 4 = 0 := fun i hi => by
            have := of_decide_eq_true (hall i hi)
            omega
          rw [hall2]
          have z1 : zeros 1 [.int .i64 0] = [.int .i64 0] := rfl
          have z2 : zeros 2 [.int .i64 0] = [.int .i64 0, .int .i64 0] := rfl
          try simp (disch := first | omega | (simp only [L3] <;> omega)) only [Sall,evalOp,init,binA_s,binE,binI,unE,convE,okNil,builtE,gv,TD.isAgg,resV,↓reduceIte,Nat.reduceEqDiff,reduceCtorEq,Nat.reduceAdd,Nat.reduceMul,Nat.reduceLeDiff,quietOp,blindOp,Int.reduceEq,Int.reduceLT,Int.reduceLE,Nat.reduceLT,tiA, h1, e1, z1, slCells, Bool.true_and]
          obtain ⟨H3, e3⟩ : ∃ H3, H3 = H'.push ⟨3, true, [.int .i64 1]⟩ := ⟨_, rfl⟩
          have up3 : Up H'.next H' H3 := by rw [e3]; exact (Up.refl _ _).push (Nat.le_refl _) _
          have r3 : H3.row H'.next = some ⟨3, true, [.int .i64 1]⟩ := by rw [e3, AH.push_row, if_pos rfl]
          have n3 : H3.next = H'.next + 1 := by rw [e3]; rfl
          rw [← e3]
          clear e3
          have U3 : Up H.next H H3 := up.trans up3 (by omega)
          refine (l06Table_c n hn u R (.slice (some ⟨H'.next, 0, some 1⟩) 1 1) [1] wP way1 H3 (hu.same (U3.le hs).row) ⟨rfl, .inr ⟨H'.next, 0, _, _, _, rfl, r3, Nat.le_refl _, rfl⟩⟩ (by decide) (by decide) hR hR4).sc.mono ?_
          rintro v4 H4 ⟨⟨up4, f4⟩, sc4⟩
          have n4 := up4.next
          have r4 : H4.row H.next = some ⟨55, true, [.int .i64 n, u]⟩ := by rw [up4.row _ (by omega), up3.row _ (by omega), e1]
          have U4 : Up H.next H H4 := U3.trans up4 (by omega)
          refine Holds.mp ?_
          try simp (disch := first | omega | (simp only [L3] <;> omega)) only [Sall,evalOp,init,binA_s,binE,binI,unE,convE,okNil,builtE,gv,TD.isAgg,resV,↓reduceIte,Nat.reduceEqDiff,reduceCtorEq,Nat.reduceAdd,Nat.reduceMul,Nat.reduceLeDiff,quietOp,blindOp,Int.reduceEq,Int.reduceLT,Int.reduceLE,Nat.reduceLT,tiA, true_and]
          refine (l06Each_c v4 n _ 1 H4 f4.rd (tabM_sq _ _ _) (by omega)).to ?_
          cases g1 : eachB (fun x => x == 1) (tabM n wP R) with
          | false =>
            try simp (disch := first | omega | (simp only [L3] <;> omega)) only [Sall,evalOp,init,binA_s,binE,binI,unE,convE,okNil,builtE,gv,TD.isAgg,resV,↓reduceIte,Nat.reduceEqDiff,reduceCtorEq,Nat.reduceAdd,Nat.reduceMul,Nat.reduceLeDiff,quietOp,blindOp,Int.reduceEq,Int.reduceLT,Int.reduceLE,Nat.reduceLT,tiA, Bool.false_and]
            exact ⟨rfl, U4⟩
          | true =>
            try simp (disch := first | omega | (simp only [L3] <;> omega)) only [Sall,evalOp,init,binA_s,binE,binI,unE,convE,okNil,builtE,gv,TD.isAgg,resV,↓reduceIte,Nat.reduceEqDiff,reduceCtorEq,Nat.reduceAdd,Nat.reduceMul,Nat.reduceLeDiff,quietOp,blindOp,Int.reduceEq,Int.reduceLT,Int.reduceLE,Nat.reduceLT,tiA, Bool.true_and, h1, r4, z2, slCells]
            obtain ⟨H5, e5⟩ : ∃ H5, H5 = H4.push ⟨3, true, [.int .i64 2, .int .i64 3]⟩ := ⟨_, rfl⟩
            have up5 : Up H4.next H4 H5 := by rw [e5]; exact (Up.refl _ _).push (Nat.le_refl _) _
            have r5 : H5.row H4.next = some ⟨3, true, [.int .i64 2, .int .i64 3]⟩ := by rw [e5, AH.push_row, if_pos rfl]
            have n5 : H5.next = H4.next + 1 := by rw [e5]; rfl
            rw [← e5]
            clear e5
            have U5 : Up H.next H H5 := U4.trans up5 (by omega)
            refine (l06Table_c n hn u R (.slice (some ⟨H4.next, 0, some 1⟩) 2 2) [2, 3] wO way23 H5 (hu.same (U5.le hs).row) ⟨rfl, .inr ⟨H4.next, 0, _, _, _, rfl, r5, Nat.le_refl _, rfl⟩⟩ (by decide) (by decide) hR hR4).sc.mono ?_
            rintro v6 H6 ⟨⟨up6, f6⟩, sc6⟩
            have n6 := up6.next
            refine Holds.mp ?_
            try simp (disch := first | omega | (simp only [L3] <;> omega)) only [Sall,evalOp,init,binA_s,binE,binI,unE,convE,okNil,builtE,gv,TD.isAgg,resV,↓reduceIte,Nat.reduceEqDiff,reduceCtorEq,Nat.reduceAdd,Nat.reduceMul,Nat.reduceLeDiff,quietOp,blindOp,Int.reduceEq,Int.reduceLT,Int.reduceLE,Nat.reduceLT,tiA, true_and]
            refine (l06Each_c v6 n _ 2 H6 f6.rd (tabM_sq _ _ _) (by omega)).to ?_
            try simp (disch := first | omega | (simp only [L3] <;> omega)) only [Sall,evalOp,init,binA_s,binE,binI,unE,convE,okNil,builtE,gv,TD.isAgg,resV,↓reduceIte,Nat.reduceEqDiff,reduceCtorEq,Nat.reduceAdd,Nat.reduceMul,Nat.reduceLeDiff,quietOp,blindOp,Int.reduceEq,Int.reduceLT,Int.reduceLE,Nat.reduceLT,tiA, true_and]
            exact ⟨rfl, U5.trans up6 (by omega)⟩
    · have d2 : ((R.length : Int) != (n : Int) - 1 + ((n % 4 : Nat) : Int)) = true := by rw [bne_iff_ne]; omega
      rw [decide_eq_false hm]
      try simp (disch := first | omega | (simp only [L3] <;> omega)) only [Sall,evalOp,init,binA_s,binE,binI,unE,convE,okNil,builtE,gv,TD.isAgg,resV,↓reduceIte,Nat.reduceEqDiff,reduceCtorEq,Nat.reduceAdd,Nat.reduceMul,Nat.reduceLeDiff,quietOp,blindOp,Int.reduceEq,Int.reduceLT,Int.reduceLE,Nat.reduceLT,tiA, e1, em, d1, builtE, hln, d2, decide_false, w64, Bool.and_false, Bool.false_and]
      exact up
  · have d1 : (1 : Int) < ((n % 4 : Nat) : Int) := by omega
    rw [decide_eq_false h4]
    try simp (disch := first | omega | (simp only [L3] <;> omega)) only [Sall,evalOp,init,binA_s,binE,binI,unE,convE,okNil,builtE,gv,TD.isAgg,resV,↓reduceIte,Nat.reduceEqDiff,reduceCtorEq,Nat.reduceAdd,Nat.reduceMul,Nat.reduceLeDiff,quietOp,blindOp,Int.reduceEq,Int.reduceLT,Int.reduceLE,Nat.reduceLT,tiA, e1, em, d1, decide_true, Bool.false_and, w64]
    exact up
structure FtJ (A : AH) (n : Nat) (R : List (List Int)) (sv : Value) (cs fs : List Nat) (t : T) (H : AH) : Prop where
  hcs : cs = [1, 2] ∨ cs = [2] ∨ cs = []
  hfs : fs = [4] ∨ fs = []
  t13 : t 13 = sv
  t16 : t 16 = sv
  up : Up A.next A H
  sc : Sc H
  p1 : 1 ∉ cs → ∃ i, t 14 = .slice (some ⟨i, 0, some 1⟩) 1 1 ∧ i < H.next ∧ H.row i = some ⟨3, true, [.int .i64 1]⟩
  s2 : 2 ∉ cs → Fr2 1 33 2 A.next H.next H (t 15) (tabM n wP R)
  p4 : 4 ∉ fs → ∃ i, t 17 = .slice (some ⟨i, 0, some 1⟩) 2 2 ∧ i < H.next ∧ H.row i = some ⟨3, true, [.int .i64 2, .int .i64 3]⟩
theorem push_up (H : AH) (r : Row) : Up H.next H (H.push r) := (Up.refl _ H).push (Nat.le_refl _) _
theorem fr2_up {lo : Nat} {v : Value} {M : List (List Int)} {H H' : AH} (h : Fr2 1 33 2 lo H.next H v M) (u : Up H.next H H') : Fr2 1 33 2 lo H'.next H' v M :=
  (h.same fun i _ hi => u.row i hi).wide (Nat.le_refl _) u.next
theorem cell_up {i : Nat} {H H' : AH} {r : Row} (hi : i < H.next) (h : H.row i = some r) (u : Up H.next H H') : i < H'.next ∧ H'.row i = some r := ⟨by have := u.next; omega, by rw [u.row i hi]; exact h⟩
theorem l06Fits_c (n : Nat) (hn : n = 4 ∨ n = 5 ∨ n = 8 ∨ n = 9) (v : Value) (y : List Int) (H : AH) (hv : Rd 1 H v y.length y) (hy : y.length ≤ 16) (hy4 : y.length % 4 = 0) (hin : ∀ x ∈ y, 0 ≤ x ∧ x < (n : Int)) (hnd : y.Nodup)
    (hEv : EvOk n (madeL (mOf n) y (mOf n))) (hm : 1 ≤ mOf n ∧ mOf n ≤ n) :
    ACalls Tryz.prog 258 [.int .i64 n, v] H (is (.bool (fitsB n y)) H) := by
  refine acalls_up rfl (ACalls.wf (by kernel_rfl) fun hs => acalls_of_awp [.tmp 4] Tryz.func258 (by kernel_rfl) rfl rfl (Nat.le_of_ble_eq_true rfl) (by kernel_rfl) ?_)
  have hn16 : 1 ≤ n ∧ n ≤ 9 := by omega
  have hfit : fitsB n y = (eachB (fun x => decide (x ≤ 1)) (tabM n wP (madeL (mOf n) y (mOf n))) && eachB (fun x => decide (x ≤ 2)) (tabM n wO (madeL (mOf n) y (mOf n)))) := rfl
  have hd1 : ∀ x, x < n → ((tabM n wP (madeL (mOf n) y (mOf n))).getD x []).getD x 0 = 0 := fun x hx => tabM_diag (by decide) hm hin hnd hx
  have hd2 : ∀ x, x < n → ((tabM n wO (madeL (mOf n) y (mOf n))).getD x []).getD x 0 = 0 := fun x hx => tabM_diag (by decide) hm hin hnd hx
  have hR4 : ∀ i, i < (madeL (mOf n) y (mOf n)).length → ((madeL (mOf n) y (mOf n)).getD i []).length % 4 = 0 := fun i hi => by
    rw [madeL_length] at hi
    rw [madeL_getD _ _ _ i hi, mdL_length]; exact hy4
  have hmade := l06Made_c n (by omega) v y H hv (by omega) hin
  rw [hfit]
  clear hfit
  revert hEv hd1 hd2 hR4 hmade
  generalize madeL (mOf n) y (mOf n) = R
  intro hEv hd1 hd2 hR4 hmade
  have hmade2 : ACalls Tryz.prog 157 [.int .i64 n, v] H (fun r H' => ∃ u, r = .agg #[.int .i64 n, u] ∧ (Up H.next H H' ∧ Fr2 1 33 2 H.next H'.next H' u R ∧ Sc H')) :=
    hmade.sc.mono fun r H' h => by obtain ⟨⟨u, e, a, b⟩, c⟩ := h; exact ⟨u, e, a, b, c⟩
  try simp (disch := first | omega | (simp only [L3] <;> omega)) only [Sall,evalOp,init,binA_s,binE,binI,unE,convE,okNil,builtE,gv,TD.isAgg,resV,↓reduceIte,Nat.reduceEqDiff,reduceCtorEq,Nat.reduceAdd,Nat.reduceMul,Nat.reduceLeDiff,quietOp,blindOp,Int.reduceEq,Int.reduceLT,Int.reduceLE,Nat.reduceLT,tiA, true_and]
  refine hmade2.ex ?_
  rintro u H2 ⟨up2, f2, sc2⟩
  have n2 := up2.next
  have o2 := f2.rd.one
  try simp (disch := first | omega | (simp only [L3] <;> omega)) only [Sall,evalOp,init,binA_s,binE,binI,unE,convE,okNil,builtE,gv,TD.isAgg,resV,↓reduceIte,Nat.reduceEqDiff,reduceCtorEq,Nat.reduceAdd,Nat.reduceMul,Nat.reduceLeDiff,quietOp,blindOp,Int.reduceEq,Int.reduceLT,Int.reduceLE,Nat.reduceLT,tiA, o2]
  obtain ⟨H3, e3⟩ : ∃ H3, H3 = (H2.push ⟨55, true, [.int .i64 0, .slice none 0 0]⟩).setCells H2.next [.int .i64 n, u] := ⟨_, rfl⟩
  have up3 : Up H2.next H2 H3 := by rw [e3]; exact ((Up.refl _ H2).push (Nat.le_refl _) _).set (Nat.le_refl _) _
  have r3 : H3.row H2.next = some ⟨55, true, [.int .i64 n, u]⟩ := by rw [e3, AH.setCells_row, if_pos rfl, AH.push_row, if_pos rfl]; rfl
  have n3 : H3.next = H2.next + 1 := by rw [e3]; rfl
  have sc3 : Sc H3 := by rw [e3]; exact (sc2.push _).set _ _
  rw [← e3]
  clear e3
  have U3 : Up H.next H H3 := up2.trans up3 n2
  have f3 : Fr2 1 33 2 H.next H2.next H3 u R := f2.same fun i _ hi => up3.row i hi
  have hR3 : ∀ H' : AH, Up H3.next H3 H' → Rd2 1 H' u R := fun H' u => (f3.same fun i _ hi => u.row i (by omega)).rd
  have z1 : zeros 1 [.int .i64 0] = [.int .i64 0] := rfl
  have z2 : zeros 2 [.int .i64 0] = [.int .i64 0, .int .i64 0] := rfl
  refine awp_cutQ (fun t H4 => ∃ v6 v7 : Value, t 6 = v6 ∧ t 7 = v7 ∧ Up H3.next H3 H4 ∧ Rd2 1 H4 v6 (tabM n wP R) ∧ Rd2 1 H4 v7 (tabM n wO R)) ?_ ?_
  · refine draw_pool [0, 3] [1, 2] [4] (OT.run [5, 6, 7] .nil) (by kernel_rfl) (by kernel_rfl) (Nat.le_of_ble_eq_true rfl) (FtJ H3 n R (.agg #[.int .i64 n, u])) ⟨?_, ?_, ?_⟩ ?_
    · intro c cs fs t H4 hJ
      rcases hJ.hcs with e | e | e
      · injection e with e1 e2
        subst e1; subst e2
        try simp (disch := first | omega | (simp only [L3] <;> omega)) only [Sall,evalOp,init,binA_s,binE,binI,unE,convE,okNil,builtE,gv,TD.isAgg,resV,↓reduceIte,Nat.reduceEqDiff,reduceCtorEq,Nat.reduceAdd,Nat.reduceMul,Nat.reduceLeDiff,quietOp,blindOp,Int.reduceEq,Int.reduceLT,Int.reduceLE,Nat.reduceLT,tiA, awpT_nil, awpT_one, awpT_run_nil, awpT_run_cons, z1]
        exact ⟨.inr (.inr (hJ.sc.le _)), by simp, hJ.hfs, hJ.t13, hJ.t16, hJ.up.push hJ.up.next _, hJ.sc.push _, fun _ => ⟨H4.next, rfl, Nat.lt_succ_self _, by rw [AH.push_row, if_pos rfl]⟩, fun k => absurd (by simp) k, fun k => by
          obtain ⟨i, a1, a2, a3⟩ := hJ.p4 k
          exact ⟨i, a1, (cell_up a2 a3 (push_up _ _)).1, (cell_up a2 a3 (push_up _ _)).2⟩⟩
      · injection e with e1 e2
        subst e1; subst e2
        obtain ⟨i, a1, a2, a3⟩ := hJ.p1 (by simp)
        try simp (disch := first | omega | (simp only [L3] <;> omega)) only [Sall,evalOp,init,binA_s,binE,binI,unE,convE,okNil,builtE,gv,TD.isAgg,resV,↓reduceIte,Nat.reduceEqDiff,reduceCtorEq,Nat.reduceAdd,Nat.reduceMul,Nat.reduceLeDiff,quietOp,blindOp,Int.reduceEq,Int.reduceLT,Int.reduceLE,Nat.reduceLT,tiA, awpT_nil, awpT_one, awpT_run_nil, awpT_run_cons, hJ.t13, a1]
        refine (l06Table_c n (by omega) u R (.slice (some ⟨i, 0, some 1⟩) 1 1) [1] wP way1 H4 (hR3 H4 hJ.up) ⟨rfl, .inr ⟨i, 0, _, _, _, rfl, a3, Nat.le_refl _, rfl⟩⟩ (by decide) (by decide) hEv hR4).sc.mono ?_
        rintro w H5 ⟨⟨up5, f5⟩, sc5⟩
        exact ⟨.inr (.inr (up5.le hJ.sc)), by simp, hJ.hfs, hJ.t13, hJ.t16, hJ.up.trans up5 hJ.up.next, sc5, fun _ => ⟨i, a1, (cell_up a2 a3 up5).1, (cell_up a2 a3 up5).2⟩, fun _ => f5.wide hJ.up.next (Nat.le_refl _), fun k => by
          obtain ⟨i, a1, a2, a3⟩ := hJ.p4 k
          exact ⟨i, a1, (cell_up a2 a3 up5).1, (cell_up a2 a3 up5).2⟩⟩
      · cases e
    · intro a cs fs t H4 ha hJ
      rcases hJ.hfs with e | e
      · subst e
        have e4 : a = 4 := by simpa using ha
        subst e4
        try simp (disch := first | omega | (simp only [L3] <;> omega)) only [Sall,evalOp,init,binA_s,binE,binI,unE,convE,okNil,builtE,gv,TD.isAgg,resV,↓reduceIte,Nat.reduceEqDiff,reduceCtorEq,Nat.reduceAdd,Nat.reduceMul,Nat.reduceLeDiff,quietOp,blindOp,Int.reduceEq,Int.reduceLT,Int.reduceLE,Nat.reduceLT,tiA, awpT_nil, awpT_one, awpT_run_nil, awpT_run_cons, z2]
        exact ⟨.inr (.inr (hJ.sc.le _)), hJ.hcs, .inr (by simp), hJ.t13, hJ.t16, hJ.up.push hJ.up.next _, hJ.sc.push _, fun k => by
          obtain ⟨i, a1, a2, a3⟩ := hJ.p1 k
          exact ⟨i, a1, (cell_up a2 a3 (push_up _ _)).1, (cell_up a2 a3 (push_up _ _)).2⟩, fun k => fr2_up (hJ.s2 k) (push_up _ _), fun _ => ⟨H4.next, rfl, Nat.lt_succ_self _, by rw [AH.push_row, if_pos rfl]⟩⟩
      · subst e; simp at ha
    · intro t H4 hJ
      obtain ⟨i, a1, a2, a3⟩ := hJ.p4 (by simp)
      have f4 := hJ.s2 (by simp)
      try simp (disch := first | omega | (simp only [L3] <;> omega)) only [Sall,evalOp,init,binA_s,binE,binI,unE,convE,okNil,builtE,gv,TD.isAgg,resV,↓reduceIte,Nat.reduceEqDiff,reduceCtorEq,Nat.reduceAdd,Nat.reduceMul,Nat.reduceLeDiff,quietOp,blindOp,Int.reduceEq,Int.reduceLT,Int.reduceLE,Nat.reduceLT,tiA, awpT_nil, awpT_one, awpT_run_nil, awpT_run_cons, hJ.t16, a1]
      refine (l06Table_c n (by omega) u R (.slice (some ⟨i, 0, some 1⟩) 2 2) [2, 3] wO way23 H4 (hR3 H4 hJ.up) ⟨rfl, .inr ⟨i, 0, _, _, _, rfl, a3, Nat.le_refl _, rfl⟩⟩ (by decide) (by decide) hEv hR4).mono ?_
      rintro w H5 ⟨up5, f5⟩
      refine ⟨.inr (.inr (up5.le hJ.sc)), ?_⟩
      refine Holds.mp ?_
      try simp (disch := first | omega | (simp only [L3] <;> omega)) only [Sall,evalOp,init,binA_s,binE,binI,unE,convE,okNil,builtE,gv,TD.isAgg,resV,↓reduceIte,Nat.reduceEqDiff,reduceCtorEq,Nat.reduceAdd,Nat.reduceMul,Nat.reduceLeDiff,quietOp,blindOp,Int.reduceEq,Int.reduceLT,Int.reduceLE,Nat.reduceLT,tiA, awpT_nil, awpT_one, awpT_run_nil, awpT_run_cons]
      exact ⟨_, _, rfl, rfl, hJ.up.trans up5 hJ.up.next, (fr2_up f4 up5).rd, f5.rd⟩
    · try simp (disch := first | omega | (simp only [L3] <;> omega)) only [Sall,evalOp,init,binA_s,binE,binI,unE,convE,okNil,builtE,gv,TD.isAgg,resV,↓reduceIte,Nat.reduceEqDiff,reduceCtorEq,Nat.reduceAdd,Nat.reduceMul,Nat.reduceLeDiff,quietOp,blindOp,Int.reduceEq,Int.reduceLT,Int.reduceLE,Nat.reduceLT,tiA, awpT_nil, awpT_one, awpT_run_nil, awpT_run_cons, r3]
      exact ⟨by simp, by simp, rfl, rfl, Up.refl _ _, sc3, fun k => absurd (by simp) k, fun k => absurd (by simp) k, fun k => absurd (by simp) k⟩
  · rintro t H4 ⟨v6, v7, h6, h7, up4, g6, g7⟩
    have U4 : Up H.next H H4 := U3.trans up4 (by omega)
    have sq6 := tabM_sq n wP R
    have sq7 := tabM_sq n wO R
    revert hd1 hd2 sq6 sq7 g6 g7
    generalize tabM n wP R = M1
    generalize tabM n wO R = M2
    intro hd1 hd2 g6 g7 sq6 sq7
    have hl6 := g6.len
    rw [sq6.1] at hl6
    have hP : ∀ i j, i < n → j < n → (¬ (M1.getD i []).getD j 0 ≤ 1 ∨ ¬ (M2.getD i []).getD j 0 ≤ 2) → (eachB (fun x => decide (x ≤ 1)) M1 && eachB (fun x => decide (x ≤ 2)) M2) = false := by
      intro i j hi hj h
      by_cases hij : i = j
      · subst hij
        have h1 := hd1 i hi
        have h2 := hd2 i hi
        omega
      · rcases h with h | h
        · rw [eachB_bad (i := i) (j := j) (by rw [sq6.1]; exact hi) (by rw [sq6.2 i hi]; exact hj) (by unfold eachAt; rw [decide_eq_false hij, Bool.false_or]; exact decide_eq_false h), Bool.false_and]
        · rw [eachB_bad (M := M2) (i := i) (j := j) (by rw [sq7.1]; exact hi) (by rw [sq7.2 i hi]; exact hj) (by unfold eachAt; rw [decide_eq_false hij, Bool.false_or]; exact decide_eq_false h), Bool.and_false]
    try simp (disch := first | omega | (simp only [L3] <;> omega)) only [Sall,evalOp,init,binA_s,binE,binI,unE,convE,okNil,builtE,gv,TD.isAgg,resV,↓reduceIte,Nat.reduceEqDiff,reduceCtorEq,Nat.reduceAdd,Nat.reduceMul,Nat.reduceLeDiff,quietOp,blindOp,Int.reduceEq,Int.reduceLT,Int.reduceLE,Nat.reduceLT,tiA, true_and]
    refine awp_loop (fun m t H' => ∃ a : Nat, m = n - a ∧ a ≤ n ∧ t 8 = .int .i64 a ∧ t 6 = v6 ∧ t 7 = v7 ∧ H' = H4 ∧ (∀ i, i < a → ∀ j, j < n → (M1.getD i []).getD j 0 ≤ 1 ∧ (M2.getD i []).getD j 0 ≤ 2)) n ?_ ?_
    · refine ⟨0, by omega, by omega, ?_⟩
      try simp (disch := first | omega | (simp only [L3] <;> omega)) only [Sall,evalOp,init,binA_s,binE,binI,unE,convE,okNil,builtE,gv,TD.isAgg,resV,↓reduceIte,Nat.reduceEqDiff,reduceCtorEq,Nat.reduceAdd,Nat.reduceMul,Nat.reduceLeDiff,quietOp,blindOp,Int.reduceEq,Int.reduceLT,Int.reduceLE,Nat.reduceLT,tiA, Int.natCast_zero, Nat.not_lt_zero, false_implies, h6, h7]
    · rintro m t H' ⟨a, hm', han, h8, h6, h7, rfl, hall⟩
      try simp (disch := first | omega | (simp only [L3] <;> omega)) only [Sall,evalOp,init,binA_s,binE,binI,unE,convE,okNil,builtE,gv,TD.isAgg,resV,↓reduceIte,Nat.reduceEqDiff,reduceCtorEq,Nat.reduceAdd,Nat.reduceMul,Nat.reduceLeDiff,quietOp,blindOp,Int.reduceEq,Int.reduceLT,Int.reduceLE,Nat.reduceLT,tiA, h8, h6, builtE, hl6]
      refine condC_dec (fun h => ?_) (fun h => ?_)
      · try simp (disch := first | omega | (simp only [L3] <;> omega)) only [Sall,evalOp,init,binA_s,binE,binI,unE,convE,okNil,builtE,gv,TD.isAgg,resV,↓reduceIte,Nat.reduceEqDiff,reduceCtorEq,Nat.reduceAdd,Nat.reduceMul,Nat.reduceLeDiff,quietOp,blindOp,Int.reduceEq,Int.reduceLT,Int.reduceLE,Nat.reduceLT,tiA, h8, h6, h7]
        refine awp_loop (fun z t H7 => ∃ b : Nat, z = n - b ∧ b ≤ n ∧ t 9 = .int .i64 b ∧ t 8 = .int .i64 a ∧ t 6 = v6 ∧ t 7 = v7 ∧ H7 = H' ∧ (∀ j, j < b → (M1.getD a []).getD j 0 ≤ 1 ∧ (M2.getD a []).getD j 0 ≤ 2)) n ?_ ?_
        · refine ⟨0, by omega, by omega, ?_⟩
          try simp (disch := first | omega | (simp only [L3] <;> omega)) only [Sall,evalOp,init,binA_s,binE,binI,unE,convE,okNil,builtE,gv,TD.isAgg,resV,↓reduceIte,Nat.reduceEqDiff,reduceCtorEq,Nat.reduceAdd,Nat.reduceMul,Nat.reduceLeDiff,quietOp,blindOp,Int.reduceEq,Int.reduceLT,Int.reduceLE,Nat.reduceLT,tiA, Int.natCast_zero, Nat.not_lt_zero, false_implies, h8, h6, h7]
        · rintro z t H7 ⟨b, hz, hbn, h9, h8, h6, h7, rfl, hin2⟩
          try simp (disch := first | omega | (simp only [L3] <;> omega)) only [Sall,evalOp,init,binA_s,binE,binI,unE,convE,okNil,builtE,gv,TD.isAgg,resV,↓reduceIte,Nat.reduceEqDiff,reduceCtorEq,Nat.reduceAdd,Nat.reduceMul,Nat.reduceLeDiff,quietOp,blindOp,Int.reduceEq,Int.reduceLT,Int.reduceLE,Nat.reduceLT,tiA, h9, h6, builtE, hl6]
          refine condC_dec (fun hh => ?_) (fun hh => ?_)
          · obtain ⟨i, o, uu, cc, r, y6, my, ev6, hr6, hy6, hs6, hok6⟩ := g6.get (j := a) (by rw [sq6.1]; omega)
            have hmy := hs6.lenK1
            rw [sq6.2 a (by omega)] at hmy
            subst hmy
            obtain ⟨j6, o6, u6, c6, r6', ey6, hrr6, _, hg6, _⟩ := hs6.get (by omega)
            have q6 := hg6 b (by omega)
            rw [sq6.1] at ev6
            obtain ⟨i', o', uu', cc', r', y7, my', ev7, hr7, hy7, hs7, hok7⟩ := g7.get (j := a) (by rw [sq7.1]; omega)
            have hmy' := hs7.lenK1
            rw [sq7.2 a (by omega)] at hmy'
            subst hmy'
            obtain ⟨j7, o7, u7, c7, r7', ey7, hrr7, _, hg7, _⟩ := hs7.get (by omega)
            have q7 := hg7 b (by omega)
            rw [sq7.1] at ev7
            by_cases c1 : (M1.getD a []).getD b 0 ≤ 1
            · have k1 : ¬ (1 : Int) < (M1.getD a []).getD b 0 := by omega
              by_cases c2 : (M2.getD a []).getD b 0 ≤ 2
              · have k2 : ¬ (2 : Int) < (M2.getD a []).getD b 0 := by omega
                try simp (disch := first | omega | (simp only [L3] <;> omega)) only [Sall,evalOp,init,binA_s,binE,binI,unE,convE,okNil,builtE,gv,TD.isAgg,resV,↓reduceIte,Nat.reduceEqDiff,reduceCtorEq,Nat.reduceAdd,Nat.reduceMul,Nat.reduceLeDiff,quietOp,blindOp,Int.reduceEq,Int.reduceLT,Int.reduceLE,Nat.reduceLT,tiA, h9, h8, h6, h7, ev6, hr6, hy6, hok6, ey6, hrr6, q6, k1, ev7, hr7, hy7, hok7, ey7, hrr7, q7, k2, decide_false, w64]
                (repeat refine And.intro (by omega) ?_)
                refine ⟨_, ?_, b + 1, rfl, ?_, ?_, fun j hj => ?_⟩
                · omega
                · omega
                · omega
                · by_cases e : j = b
                  · rw [e]; exact ⟨c1, c2⟩
                  · exact hin2 j (by omega)
              · have k2 : (2 : Int) < (M2.getD a []).getD b 0 := by omega
                try simp (disch := first | omega | (simp only [L3] <;> omega)) only [Sall,evalOp,init,binA_s,binE,binI,unE,convE,okNil,builtE,gv,TD.isAgg,resV,↓reduceIte,Nat.reduceEqDiff,reduceCtorEq,Nat.reduceAdd,Nat.reduceMul,Nat.reduceLeDiff,quietOp,blindOp,Int.reduceEq,Int.reduceLT,Int.reduceLE,Nat.reduceLT,tiA, h9, h8, h6, h7, ev6, hr6, hy6, hok6, ey6, hrr6, q6, k1, ev7, hr7, hy7, hok7, ey7, hrr7, q7, k2, decide_false, decide_true, w64]
                (repeat refine And.intro (by omega) ?_)
                rw [hP a b (by omega) (by omega) (.inr c2)]
                exact ⟨rfl, U4⟩
            · have k1 : (1 : Int) < (M1.getD a []).getD b 0 := by omega
              try simp (disch := first | omega | (simp only [L3] <;> omega)) only [Sall,evalOp,init,binA_s,binE,binI,unE,convE,okNil,builtE,gv,TD.isAgg,resV,↓reduceIte,Nat.reduceEqDiff,reduceCtorEq,Nat.reduceAdd,Nat.reduceMul,Nat.reduceLeDiff,quietOp,blindOp,Int.reduceEq,Int.reduceLT,Int.reduceLE,Nat.reduceLT,tiA, h9, h8, h6, h7, ev6, hr6, hy6, hok6, ey6, hrr6, q6, k1, decide_true, w64]
              (repeat refine And.intro (by omega) ?_)
              rw [hP a b (by omega) (by omega) (.inl c1)]
              exact ⟨rfl, U4⟩
          · try simp (disch := first | omega | (simp only [L3] <;> omega)) only [Sall,evalOp,init,binA_s,binE,binI,unE,convE,okNil,builtE,gv,TD.isAgg,resV,↓reduceIte,Nat.reduceEqDiff,reduceCtorEq,Nat.reduceAdd,Nat.reduceMul,Nat.reduceLeDiff,quietOp,blindOp,Int.reduceEq,Int.reduceLT,Int.reduceLE,Nat.reduceLT,tiA, h8, h6, h7, w64]
            refine ⟨n - (a + 1), by omega, a + 1, rfl, by omega, by omega, fun i hi j hj => ?_⟩
            by_cases e : i = a
            · rw [e]; exact hin2 j (by omega)
            · exact hall i (by omega) j hj
      · try simp (disch := first | omega | (simp only [L3] <;> omega)) only [Sall,evalOp,init,binA_s,binE,binI,unE,convE,okNil,builtE,gv,TD.isAgg,resV,↓reduceIte,Nat.reduceEqDiff,reduceCtorEq,Nat.reduceAdd,Nat.reduceMul,Nat.reduceLeDiff,quietOp,blindOp,Int.reduceEq,Int.reduceLT,Int.reduceLE,Nat.reduceLT,tiA, true_and]
        have ha : a = n := by omega
        subst ha
        rw [eachB_good (p := fun x => decide (x ≤ 1)) (M := M1) (fun i hi j hj => by
            rw [sq6.1] at hi; rw [sq6.2 i hi] at hj
            unfold eachAt; rw [Bool.or_eq_true]; exact .inr (decide_eq_true (hall i hi j hj).1)), eachB_good (p := fun x => decide (x ≤ 2)) (M := M2) (fun i hi j hj => by
            rw [sq7.1] at hi; rw [sq7.2 i hi] at hj
            unfold eachAt; rw [Bool.or_eq_true]; exact .inr (decide_eq_true (hall i hi j hj).2))]
        exact ⟨rfl, U4⟩
end Go.Proofs.YtpienljnoaendaaGreat.A
end

section
set_option maxRecDepth 100000
set_option maxHeartbeats 2000000
namespace Go.Proofs.YtpienljnoaendaaGreat.A
open Go Go.Abs Go.RowKit Go.Shelf Go.Sort
def compactRen : Go.Shelf.Ren := ⟨fun | 43 => 254 | n => n, fun | 22 => 33 | 23 => 2 | 3 => 3 | 4 => 4 | 0 => 0 | n => n, fun | n => n⟩
theorem compactLy : Go.Proofs.SlLaysN.n43 Tryz.prog compactRen := {
  mixed := by kernel_rfl
  f43 := ⟨Tryz.f254.name, by decide, Tryz.func254.trans (congrArg some (by kernel_rfl))⟩
  t0 := Tryz.underlying0
  a0 := Tryz.isAgg0
  z0 := Tryz.sizeOf0
  v0 := Tryz.zeroValue0
  t3 := Tryz.underlying3
  a3 := Tryz.isAgg3
  z3 := Tryz.sizeOf3
  v3 := Tryz.zeroValue3
  t4 := Tryz.underlying4
  a4 := Tryz.isAgg4
  z4 := Tryz.sizeOf4
  v4 := Tryz.zeroValue4
  t22 := Tryz.underlying33
  a22 := Tryz.isAgg33
  z22 := Tryz.sizeOf33
  v22 := Tryz.zeroValue33
  t23 := Tryz.underlying2
  a23 := Tryz.isAgg2
  z23 := Tryz.sizeOf2
  v23 := Tryz.zeroValue2
  i23 := by kernel_rfl }
theorem compact_c (v : Value) (y : List Int) (lo hi : Nat) (H : AH) (hv : Fr 1 2 lo hi H v y.length y) (hy : y.length ≤ 4294967296) :
    ACalls Tryz.prog 254 [v] H (fun u H' => (∀ H2, asSl u (.val (.int .i64 0) H2) (fun _ _ _ n _ => .val (.int .i64 (n : Int)) H2) = .val (.int .i64 (Lib.compact y).length) H2) ∧ H'.next = H.next ∧ ∀ i, ¬ (lo ≤ i ∧ i < hi) → H'.row i = H.row i) := by
  refine ⟨by kernel_rfl, fun base ρ w args' R hL => ?_⟩
  obtain ⟨hl, hx⟩ := hL
  match args', hl, hx with
  | [a], _, hx =>
    have hva := hx 0 _ _ rfl rfl
    obtain ⟨_, ⟨h0, rfl⟩ | ⟨i, h1, h2, rfl, hr⟩⟩ := hv
    · obtain ⟨_, _, rfl⟩ := hva.nils
      have hy0 : y = [] := List.eq_nil_of_length_eq_zero h0
      subst hy0
      refine (AnyG.slices_Compact_int_empty compactLy none 0 w).mono ?_
      rintro e w' ⟨rfl, rfl⟩
      exact ⟨_, .slice none 0 0, H, ρ, rfl, ⟨fun _ => rfl, rfl, fun _ _ => rfl⟩, R, .scal rfl, Ext.refl _ _ _ _⟩
    · obtain ⟨hi1, a', c', rfl, hc, ⟨rfl, hb, hmx⟩ | ⟨_, h⟩⟩ := hva.slu
      · obtain ⟨hbase, cs, hcs, hL1⟩ := R.rwr i _ hr rfl
        have hL2 : L1 ρ H.next w (ints y) (cs.toList.take y.length) := by simpa [ints_length] using hL1
        have ht : cs.toList.take y.length = y.map (Value.int .i64) := by
          have e : cs.toList.take y.length = ints y := by
            apply List.ext_getElem?
            intro j
            by_cases hj : j < (ints y).length
            · obtain ⟨z, hz, hv1⟩ := hL2.get (ints_get? y j (by rwa [ints_length] at hj))
              rw [hz, ints_get? y j (by rwa [ints_length] at hj), VR.int (.one hv1)]
            · rw [List.getElem?_eq_none (l := ints y) (by omega), List.getElem?_eq_none (by have := hL2.1; omega)]
          exact e
        have hH : Holds (Value.int .i64) w (ρ i) 0 y.toArray := holds_of_blockI hcs ht
        refine (AnyG.slices_Compact_int compactLy (ρ i) 0 c' y w hH (by omega) hc).mono ?_
        rintro e w' ⟨rfl, q, hw'⟩
        obtain ⟨d, hd⟩ : ∃ d, d = Lib.compact y ++ List.replicate (y.length - (Lib.compact y).length) 0 := ⟨_, rfl⟩
        have hle : (Lib.compact y).length ≤ y.length := by
          unfold Lib.compact Lib.compactUpTo
          rw [List.length_map]
          exact Nat.le_trans (List.length_filter_le _ _) (by simp)
        have hdl : d.length = y.length := by rw [hd, List.length_append, List.length_replicate]; omega
        rw [← hd] at hw'
        have hw2 : w' = grow (putRow (Value.int .i64) (Sort.ahead w q) (ρ i) 0 d.toArray) #[] := by rw [hw', grow_empty]
        have hg : w.grownBy w' (some (ρ i)) := by rw [hw2]; exact grownBy_sortedI _
        have h1' := heap_sortedI (n := q) (os := #[]) d.toArray hcs
        rw [← hw2] at h1'
        have hbs : cs.size = c' := by have := hb; simp [bsz, hcs] at this; omega
        have hx2 : L1 ρ H.next w (ints d) ((putCells (Value.int .i64) 0 d.toArray cs).toList.take (ints d).length) := by
          rw [ints_length, take_putCellsI cs d (by omega)]
          exact L1.self fun v hv => by obtain ⟨z, _, rfl⟩ := List.mem_map.1 hv; rfl
        obtain ⟨R', E⟩ := R.turned hr rfl hg hcs h1' (by simp [putCells]) hx2
        refine ⟨_, .slice (some ⟨i, 0, some 1⟩) (Lib.compact y).length (Lib.compact y).length, H.setCells i (ints d), ρ, rfl, ⟨fun _ => rfl, rfl, fun j hj => by rw [AH.setCells_row, if_neg (by rintro rfl; exact hj ⟨h1, h2⟩)]⟩, R', .one (.slu _ _ _ _ _ _ _ hi1 (by omega) (.inl ⟨rfl, ?_, hmx⟩)), E⟩
        have := E.st _ _ hb
        exact this
      · exact absurd h (by omega)
end Go.Proofs.YtpienljnoaendaaGreat.A
end

section
set_option maxRecDepth 100000
set_option maxHeartbeats 2000000
namespace Go.Proofs.YtpienljnoaendaaGreat.A
open Go Go.Abs Go.RowKit
end Go.Proofs.YtpienljnoaendaaGreat.A
end

section
namespace Go.Abs
def distB (n : Nat) (l : List Int) : Bool := (l.all fun x => decide (0 ≤ x ∧ x < (n : Int))) && decide l.Nodup
theorem distB_at {n : Nat} {l : List Int} (h : distB n l = true) : (∀ x ∈ l, 0 ≤ x ∧ x < (n : Int)) ∧ l.Nodup := by
  unfold distB at h
  rw [Bool.and_eq_true, List.all_eq_true, decide_eq_true_iff] at h
  exact ⟨fun x hx => of_decide_eq_true (h.1 x hx), h.2⟩
theorem distB_len {n : Nat} {l : List Int} (h : distB n l = true) : l.length ≤ n := by
  obtain ⟨h1, h2⟩ := distB_at h
  by_cases hl : l.length ≤ n
  · exact hl
  · have hp := perm_of_nodup l (seqL 0 n) h2 (fun x hx => (mem_seqL_iff 0 n x).2 (by have := h1 x hx; omega)) (by rw [seqL_length]; omega)
    have := hp.length_eq
    rw [seqL_length] at this
    omega
theorem distB_bad {n : Nat} {y : List Int} {i : Nat} (hi : i < y.length) (h : ¬ (0 ≤ y.getD i 0 ∧ y.getD i 0 < (n : Int)) ∨ (y.take i).contains (y.getD i 0) = true) : distB n y = false := by
  rw [Bool.eq_false_iff]
  intro ho
  obtain ⟨h1, h2⟩ := distB_at ho
  rcases h with h | h
  · exact h (h1 _ (by rw [List.getD_eq_getElem?_getD, List.getElem?_eq_getElem hi]; exact List.getElem_mem _))
  · have h3 := nodup_take h2 (i + 1)
    rw [take_snoc y 0 i hi] at h3
    exact (nodup_snoc.1 h3).2 (List.contains_iff_mem.1 h)
theorem distB_all {n : Nat} {y : List Int} (h : goodTo n y y.length) : distB n y = true := by
  unfold goodTo at h
  rw [List.take_length] at h
  unfold distB
  rw [Bool.and_eq_true, List.all_eq_true]
  exact ⟨fun x hx => decide_eq_true (h.1 x hx), decide_eq_true h.2⟩
theorem sorted_first {y : List Int} (h : 0 < y.length) : (0 ≤ (sortedL y).getD 0 0) ↔ ∀ x ∈ y, 0 ≤ x := by
  have hl := sortedL_length y
  have hs := sortedL_sorted y
  have hp := sortedL_perm y
  cases e : sortedL y with
  | nil => rw [e] at hl; simp at hl; omega
  | cons a z =>
    rw [e] at hs hp
    constructor
    · intro h0 x hx
      have hx2 := hp.symm.subset hx
      rcases List.mem_cons.1 hx2 with h3 | h3
      · rw [h3]; simpa using h0
      · have := List.rel_of_pairwise_cons hs h3
        have h4 : 0 ≤ a := by simpa using h0
        omega
    · intro h0
      have := h0 a (hp.subset List.mem_cons_self)
      simpa using this
theorem sorted_last {y : List Int} {n : Int} (h : 0 < y.length) : ((sortedL y).getD (y.length - 1) 0 < n) ↔ ∀ x ∈ y, x < n := by
  have hl := sortedL_length y
  have hs := sortedL_sorted y
  have hp := sortedL_perm y
  rw [List.pairwise_iff_getElem] at hs
  constructor
  · intro h0 x hx
    obtain ⟨i, hi, rfl⟩ := List.getElem_of_mem (hp.symm.subset hx)
    rw [List.getD_eq_getElem?_getD, List.getElem?_eq_getElem (by omega)] at h0
    simp only [Option.getD_some] at h0
    by_cases e : i = y.length - 1
    · subst e; exact h0
    · have := hs i (y.length - 1) hi (by omega) (by omega)
      omega
  · intro h0
    rw [List.getD_eq_getElem?_getD, List.getElem?_eq_getElem (by omega)]
    exact h0 _ (hp.subset (List.getElem_mem _))
theorem distB_sorted {n : Nat} {y : List Int} (h : 0 < y.length) : distB n y = (decide (0 ≤ (sortedL y).getD 0 0) && decide ((sortedL y).getD (y.length - 1) 0 < (n : Int)) && decide y.Nodup) := by
  unfold distB
  congr 1
  rw [Bool.eq_iff_iff, List.all_eq_true, Bool.and_eq_true, decide_eq_true_iff, decide_eq_true_iff, sorted_first h, sorted_last h]
  constructor
  · intro h1
    exact ⟨fun x hx => (of_decide_eq_true (h1 x hx)).1, fun x hx => (of_decide_eq_true (h1 x hx)).2⟩
  · rintro ⟨h1, h2⟩ x hx
    exact decide_eq_true ⟨h1 x hx, h2 x hx⟩
def evRow (n : Nat) (l : List Int) : Bool := decide (l.length % 4 = 0) && distB n l
def evB (q : Int) (R : List (List Int)) : Bool := decide (4 ≤ q ∧ q ≤ 16) && (decide (R.length ≤ 20) && (List.range R.length).all fun i => evRow q.toNat (R.getD i []))
theorem evB_at {q : Int} {R : List (List Int)} (h : evB q R = true) : ∃ n : Nat, q = n ∧ 4 ≤ n ∧ n ≤ 16 ∧ R.length ≤ 20 ∧ ∀ i, i < R.length → (R.getD i []).length % 4 = 0 ∧ (R.getD i []).length ≤ 16 ∧ (∀ x ∈ R.getD i [], 0 ≤ x ∧ x < (n : Int)) ∧ (R.getD i []).Nodup := by
  unfold evB at h
  rw [Bool.and_eq_true, Bool.and_eq_true, decide_eq_true_iff, decide_eq_true_iff, List.all_eq_true] at h
  obtain ⟨h1, h2, h3⟩ := h
  refine ⟨q.toNat, by omega, by omega, by omega, h2, fun i hi => ?_⟩
  have h4 := h3 i (by simpa using hi)
  unfold evRow at h4
  rw [Bool.and_eq_true, decide_eq_true_iff] at h4
  have h5 := distB_len h4.2
  have h6 := distB_at h4.2
  exact ⟨h4.1, by omega, h6.1, h6.2⟩
def evC (q : Int) (R : List (List Int)) : Int := if evB q R = true then 0 else 1
def whB (q : Int) (R : List (List Int)) : Bool := evB q R && whistB q.toNat R
def trB (q : Int) (R : List (List Int)) : Bool := evB q R && (whistB q.toNat R && eachB (fun x => x == 1) (tabM q.toNat w1L R))
end Go.Abs
end
