/- Contracts: CountStepSequences on both sides. -/
import Derived.Test.YtbmpkihggipciaaC25
import Derived.Test.YtbmpkihggipciaaPl4
set_option linter.unusedSimpArgs false
set_option linter.unusedVariables false
set_option maxRecDepth 100000
set_option maxHeartbeats 2000000
--LEN ints_length, List.length_replicate, List.length_set, stpL_length
namespace Go.Proofs.Ytbmpkihggipciaa.A
open Go Go.Abs Go.RowKit

theorem seqLat (n c : Nat) (h : c < n) : (seqL 0 n).getD c 0 = (c : Int) := by rw [seqL_getD _ _ _ h, Int.zero_add]

theorem cnt_le (n f : Nat) (y : List Int) (hn : n ≤ 8) (hf : f ≤ 8) : cntS n f y ≤ 16777216 := by
  unfold cntS
  have h1 := List.length_filter_le (stpB n) (ordN (seqL 0 n) f y)
  have h2 := seq_len_le (seqL 0 n) f y
  rw [seqL_length] at h2
  have h3 : n ^ f ≤ 16777216 := Nat.le_trans (Nat.pow_le_pow_left hn _) (Nat.le_trans (Nat.pow_le_pow_right (by omega) hf) (by decide))
  omega
theorem cntP_le (n f : Nat) (y : List Int) (c : Nat) (hn : n ≤ 8) (hf : f ≤ 7) (hc : c ≤ n) : cntP n f y c ≤ 16777216 := by
  have key : ∀ (l : List Int) (g : Int → List (List Int)), ((l.take c).flatMap g).Sublist (l.flatMap g) := fun l g => by
    have e : l.flatMap g = (l.take c).flatMap g ++ (l.drop c).flatMap g := by rw [← List.flatMap_append, List.take_append_drop]
    rw [e]; exact List.sublist_append_left _ _
  have h : cntP n f y c ≤ cntS n (f + 1) y := by
    unfold cntP cntS ordP
    exact List.Sublist.length_le (List.Sublist.filter _ (key (seqL 0 n) fun x => if y.contains x = true then [] else ordN (seqL 0 n) f (y ++ [x])))
  have := cnt_le n (f + 1) y hn (by omega)
  omega

theorem l09Count_c (n : Nat) (hn : 1 ≤ n ∧ n ≤ 8) : ∀ (fuel : Nat) (y : List Int) (v : Value) (lo0 hi0 : Nat) (H : AH), fuel + y.length = n → 0 < y.length → (∀ x ∈ y, 0 ≤ x ∧ x < n) → stpB n y = true → Fr 1 2 lo0 hi0 H v y.length y → lo0 ≤ hi0 → hi0 ≤ H.next →
    ACalls Try.prog 85 [.int .i64 n, v] H (is (.int .i64 (cntS n fuel y)) H) := by
  intro fuel
  induction fuel with
  | zero =>
    intro y v lo0 hi0 H hlen hpos hin hst hfr hlh hhi
    refine acalls_of_awp [.tmp 4] Try.func85 (by kernel_rfl) rfl rfl (Nat.le_of_ble_eq_true rfl) (by kernel_rfl) ?_
    have e1 : ((y.length : Int) == (n : Int)) = true := by rw [show y.length = n by omega]; exact beq_self_eq_true _
    rw [cntS_zero n y hst]
    try simp (disch := first | omega | (simp only [ints_length, List.length_replicate, List.length_set, stpL_length]; done) | (simp only [ints_length, List.length_replicate, List.length_set, stpL_length]; omega)) only [Sall,evalOp,init,binE,binI,unE,convE,okNil,builtE,gv,TD.isAgg,resV,↓reduceIte,Nat.reduceEqDiff,reduceCtorEq,Nat.reduceAdd,Nat.reduceMul,Nat.reduceLeDiff,quietOp,blindOp,Int.reduceEq,Int.reduceLT,Int.reduceLE,Nat.reduceLT,ti2,ti3,ti4,ti79,ti80,ti28,ti25,ti31,ti22,ti33,ti24,ti67,ti111,ti100, builtE, hfr.rd.len, e1, is]
    rfl
  | succ f ih =>
    intro y v lo0 hi0 H hlen hpos hin hst hfr hlh hhi
    refine acalls_up rfl (ACalls.wf (by kernel_rfl) fun hs => acalls_of_awp [.tmp 4] Try.func85 (by kernel_rfl) rfl rfl (Nat.le_of_ble_eq_true rfl) (by kernel_rfl) ?_)
    have e1 : ((y.length : Int) == (n : Int)) = false := by rw [beq_eq_false_iff_ne]; omega
    try simp (disch := first | omega | (simp only [ints_length, List.length_replicate, List.length_set, stpL_length]; done) | (simp only [ints_length, List.length_replicate, List.length_set, stpL_length]; omega)) only [Sall,evalOp,init,binE,binI,unE,convE,okNil,builtE,gv,TD.isAgg,resV,↓reduceIte,Nat.reduceEqDiff,reduceCtorEq,Nat.reduceAdd,Nat.reduceMul,Nat.reduceLeDiff,quietOp,blindOp,Int.reduceEq,Int.reduceLT,Int.reduceLE,Nat.reduceLT,ti2,ti3,ti4,ti79,ti80,ti28,ti25,ti31,ti22,ti33,ti24,ti67,ti111,ti100, builtE, hfr.rd.len, e1]
    refine awp_loop (fun m t H' => ∃ c : Nat, m = n - c ∧ c ≤ n ∧ t 6 = .int .i64 c ∧ t 5 = .int .i64 (cntP n f y c) ∧ t 0 = .int .i64 n ∧ t 1 = v ∧ Up H.next H H') n ?_ ?_
    · refine ⟨0, by omega, by omega, ?_⟩
      try simp (disch := first | omega | (simp only [ints_length, List.length_replicate, List.length_set, stpL_length]; done) | (simp only [ints_length, List.length_replicate, List.length_set, stpL_length]; omega)) only [Sall,evalOp,init,binE,binI,unE,convE,okNil,builtE,gv,TD.isAgg,resV,↓reduceIte,Nat.reduceEqDiff,reduceCtorEq,Nat.reduceAdd,Nat.reduceMul,Nat.reduceLeDiff,quietOp,blindOp,Int.reduceEq,Int.reduceLT,Int.reduceLE,Nat.reduceLT,ti2,ti3,ti4,ti79,ti80,ti28,ti25,ti31,ti22,ti33,ti24,ti67,ti111,ti100, Int.natCast_zero, cntP_zero]
      exact Up.refl _ _
    · rintro m t H' ⟨c, hm, hcn, h6, h5, h0, h1, hup⟩
      have hup1 := hup.next
      try simp (disch := first | omega | (simp only [ints_length, List.length_replicate, List.length_set, stpL_length]; done) | (simp only [ints_length, List.length_replicate, List.length_set, stpL_length]; omega)) only [Sall,evalOp,init,binE,binI,unE,convE,okNil,builtE,gv,TD.isAgg,resV,↓reduceIte,Nat.reduceEqDiff,reduceCtorEq,Nat.reduceAdd,Nat.reduceMul,Nat.reduceLeDiff,quietOp,blindOp,Int.reduceEq,Int.reduceLT,Int.reduceLE,Nat.reduceLT,ti2,ti3,ti4,ti79,ti80,ti28,ti25,ti31,ti22,ti33,ti24,ti67,ti111,ti100, h6, h0]
      refine condC_dec (fun h => ?_) (fun h => ?_)
      · have hfy : Fr 1 2 lo0 hi0 H' v y.length y := hfr.same fun i _ hi => hup.row i (by omega)
        try simp (disch := first | omega | (simp only [ints_length, List.length_replicate, List.length_set, stpL_length]; done) | (simp only [ints_length, List.length_replicate, List.length_set, stpL_length]; omega)) only [Sall,evalOp,init,binE,binI,unE,convE,okNil,builtE,gv,TD.isAgg,resV,↓reduceIte,Nat.reduceEqDiff,reduceCtorEq,Nat.reduceAdd,Nat.reduceMul,Nat.reduceLeDiff,quietOp,blindOp,Int.reduceEq,Int.reduceLT,Int.reduceLE,Nat.reduceLT,ti2,ti3,ti4,ti79,ti80,ti28,ti25,ti31,ti22,ti33,ti24,ti67,ti111,ti100, h6, h0, h1, h5]
        refine awp_loop (fun z t H2 => ∃ i : Nat, z = y.length - i ∧ i ≤ y.length ∧ t 8 = .int .i64 i ∧ t 7 = .bool ((List.range i).any fun j => y.getD j 0 == (c : Int)) ∧ t 6 = .int .i64 c ∧ t 5 = .int .i64 (cntP n f y c) ∧ t 0 = .int .i64 n ∧ t 1 = v ∧ H2 = H') y.length ?_ ?_
        · refine ⟨0, by omega, by omega, ?_⟩
          try simp (disch := first | omega | (simp only [ints_length, List.length_replicate, List.length_set, stpL_length]; done) | (simp only [ints_length, List.length_replicate, List.length_set, stpL_length]; omega)) only [Sall,evalOp,init,binE,binI,unE,convE,okNil,builtE,gv,TD.isAgg,resV,↓reduceIte,Nat.reduceEqDiff,reduceCtorEq,Nat.reduceAdd,Nat.reduceMul,Nat.reduceLeDiff,quietOp,blindOp,Int.reduceEq,Int.reduceLT,Int.reduceLE,Nat.reduceLT,ti2,ti3,ti4,ti79,ti80,ti28,ti25,ti31,ti22,ti33,ti24,ti67,ti111,ti100, Int.natCast_zero, h6, h5, h0, h1, List.range_zero, List.any_nil]
        · rintro z t H2 ⟨i, hz, hiy, h8, h7, h6, h5, h0, h1, rfl⟩
          try simp (disch := first | omega | (simp only [ints_length, List.length_replicate, List.length_set, stpL_length]; done) | (simp only [ints_length, List.length_replicate, List.length_set, stpL_length]; omega)) only [Sall,evalOp,init,binE,binI,unE,convE,okNil,builtE,gv,TD.isAgg,resV,↓reduceIte,Nat.reduceEqDiff,reduceCtorEq,Nat.reduceAdd,Nat.reduceMul,Nat.reduceLeDiff,quietOp,blindOp,Int.reduceEq,Int.reduceLT,Int.reduceLE,Nat.reduceLT,ti2,ti3,ti4,ti79,ti80,ti28,ti25,ti31,ti22,ti33,ti24,ti67,ti111,ti100, h8, h1, builtE, hfy.rd.len]
          refine condC_dec (fun hh => ?_) (fun hh => ?_)
          · obtain ⟨i7, o7, u7, c7, r7, rfl, hr7, hc7, hs7, hg7⟩ := hfy.rd.get (by omega)
            have g1 := hs7 i (by omega)
            have hra : ((List.range (i + 1)).any fun j => y.getD j 0 == (c : Int)) = (((List.range i).any fun j => y.getD j 0 == (c : Int)) || (y.getD i 0 == (c : Int))) := by rw [List.range_succ, List.any_append]; simp
            cases hk : ((List.range i).any fun j => y.getD j 0 == (c : Int)) with
            | true =>
              rw [hk] at h7
              rw [hk, Bool.true_or] at hra
              try simp (disch := first | omega | (simp only [ints_length, List.length_replicate, List.length_set, stpL_length]; done) | (simp only [ints_length, List.length_replicate, List.length_set, stpL_length]; omega)) only [Sall,evalOp,init,binE,binI,unE,convE,okNil,builtE,gv,TD.isAgg,resV,↓reduceIte,Nat.reduceEqDiff,reduceCtorEq,Nat.reduceAdd,Nat.reduceMul,Nat.reduceLeDiff,quietOp,blindOp,Int.reduceEq,Int.reduceLT,Int.reduceLE,Nat.reduceLT,ti2,ti3,ti4,ti79,ti80,ti28,ti25,ti31,ti22,ti33,ti24,ti67,ti111,ti100, h8, h7, h6, h5, h0, h1, w64]
              exact ⟨y.length - (i + 1), by omega, i + 1, rfl, by omega, rfl, by rw [hra]⟩
            | false =>
              rw [hk] at h7
              rw [hk, Bool.false_or] at hra
              try simp (disch := first | omega | (simp only [ints_length, List.length_replicate, List.length_set, stpL_length]; done) | (simp only [ints_length, List.length_replicate, List.length_set, stpL_length]; omega)) only [Sall,evalOp,init,binE,binI,unE,convE,okNil,builtE,gv,TD.isAgg,resV,↓reduceIte,Nat.reduceEqDiff,reduceCtorEq,Nat.reduceAdd,Nat.reduceMul,Nat.reduceLeDiff,quietOp,blindOp,Int.reduceEq,Int.reduceLT,Int.reduceLE,Nat.reduceLT,ti2,ti3,ti4,ti79,ti80,ti28,ti25,ti31,ti22,ti33,ti24,ti67,ti111,ti100, h8, h7, h6, h5, h0, h1, hr7, g1, w64]
              (repeat refine And.intro (by omega) ?_)
              exact ⟨y.length - (i + 1), by omega, i + 1, rfl, by omega, rfl, by rw [hra]⟩
          · have hiy2 : i = y.length := by omega
            subst hiy2
            rw [any_contains] at h7
            have zz : zeros 1 [.int .i64 0] = [.int .i64 0] := rfl
            try simp (disch := first | omega | (simp only [ints_length, List.length_replicate, List.length_set, stpL_length]; done) | (simp only [ints_length, List.length_replicate, List.length_set, stpL_length]; omega)) only [Sall,evalOp,init,binE,binI,unE,convE,okNil,builtE,gv,TD.isAgg,resV,↓reduceIte,Nat.reduceEqDiff,reduceCtorEq,Nat.reduceAdd,Nat.reduceMul,Nat.reduceLeDiff,quietOp,blindOp,Int.reduceEq,Int.reduceLT,Int.reduceLE,Nat.reduceLT,ti2,ti3,ti4,ti79,ti80,ti28,ti25,ti31,ti22,ti33,ti24,ti67,ti111,ti100, h7, h6, h5, h0, h1]
            refine (l01Own_c v y H2 (Cp.of_fr hfy) (by omega)).mono ?_
            rintro w H3 ⟨up3, hw⟩
            have n3 := up3.next
            refine Holds.mp ?_
            try simp (disch := first | omega | (simp only [ints_length, List.length_replicate, List.length_set, stpL_length]; done) | (simp only [ints_length, List.length_replicate, List.length_set, stpL_length]; omega)) only [Sall,evalOp,init,binE,binI,unE,convE,okNil,builtE,gv,TD.isAgg,resV,↓reduceIte,Nat.reduceEqDiff,reduceCtorEq,Nat.reduceAdd,Nat.reduceMul,Nat.reduceLeDiff,quietOp,blindOp,Int.reduceEq,Int.reduceLT,Int.reduceLE,Nat.reduceLT,ti2,ti3,ti4,ti79,ti80,ti28,ti25,ti31,ti22,ti33,ti24,ti67,ti111,ti100, h7, h6, h5, h0, h1, zz, slCells]
            obtain ⟨H4, e4⟩ : ∃ H4, H4 = H3.push ⟨2, true, [.int .i64 c]⟩ := ⟨_, rfl⟩
            have n4 : H4.next = H3.next + 1 := by rw [e4]; rfl
            have s4 : ∀ i, i < H3.next → H4.row i = H3.row i := fun i hi => by rw [e4, AH.push_row, if_neg (by omega)]
            rw [← e4]
            clear e4
            refine appE_fr (k := 1) (lo := H2.next) (hi := H3.next) (l := y) (m := [(c : Int)]) (hw.same fun i _ hi => s4 i (by omega)) rfl (by omega) rfl (by omega) (by decide) (by omega) (by omega) ?_
            intro v' H5 n5 s5 f5
            have hl1 : (y ++ [(c : Int)]).length = y.length + 1 := by simp
            rw [← hl1] at f5
            have old : ∀ i, i < H2.next → H5.row i = H2.row i := fun i hi => by rw [s5 i (by omega) (by omega), s4 i (by omega), up3.row i hi]
            have up5 : Up H.next H H5 := ⟨by omega, fun i hi => by rw [old i (by omega), hup.row i hi]⟩
            have hsucc := cntP_succ n f y c (by omega) hpos
            have hin2 : ∀ x ∈ y ++ [(c : Int)], 0 ≤ x ∧ x < n := fun x hx => (List.mem_append.1 hx).elim (hin x) fun h => by rw [List.mem_singleton] at h; omega
            cases hct : y.contains (c : Int) with
            | true =>
              rw [hct] at h7 hsucc
              rw [if_neg (by simp), Nat.add_zero] at hsucc
              try simp (disch := first | omega | (simp only [ints_length, List.length_replicate, List.length_set, stpL_length]; done) | (simp only [ints_length, List.length_replicate, List.length_set, stpL_length]; omega)) only [Sall,evalOp,init,binE,binI,unE,convE,okNil,builtE,gv,TD.isAgg,resV,↓reduceIte,Nat.reduceEqDiff,reduceCtorEq,Nat.reduceAdd,Nat.reduceMul,Nat.reduceLeDiff,quietOp,blindOp,Int.reduceEq,Int.reduceLT,Int.reduceLE,Nat.reduceLT,ti2,ti3,ti4,ti79,ti80,ti28,ti25,ti31,ti22,ti33,ti24,ti67,ti111,ti100, h7, Bool.not_true, h6, h5, h0, h1, w64]
              refine ⟨n - (c + 1), by omega, c + 1, rfl, by omega, rfl, by rw [hsucc]; rfl, up5⟩
            | false =>
              rw [hct] at h7 hsucc
              try simp (disch := first | omega | (simp only [ints_length, List.length_replicate, List.length_set, stpL_length]; done) | (simp only [ints_length, List.length_replicate, List.length_set, stpL_length]; omega)) only [Sall,evalOp,init,binE,binI,unE,convE,okNil,builtE,gv,TD.isAgg,resV,↓reduceIte,Nat.reduceEqDiff,reduceCtorEq,Nat.reduceAdd,Nat.reduceMul,Nat.reduceLeDiff,quietOp,blindOp,Int.reduceEq,Int.reduceLT,Int.reduceLE,Nat.reduceLT,ti2,ti3,ti4,ti79,ti80,ti28,ti25,ti31,ti22,ti33,ti24,ti67,ti111,ti100, h7, Bool.not_false, h6, h5, h0, h1]
              refine (l09Step_c n (by omega) v' _ H5 f5.rd (by omega) hin2).to ?_
              cases hst2 : stpB n (y ++ [(c : Int)]) with
              | false =>
                rw [hst2, if_neg (by simp), Nat.add_zero] at hsucc
                try simp (disch := first | omega | (simp only [ints_length, List.length_replicate, List.length_set, stpL_length]; done) | (simp only [ints_length, List.length_replicate, List.length_set, stpL_length]; omega)) only [Sall,evalOp,init,binE,binI,unE,convE,okNil,builtE,gv,TD.isAgg,resV,↓reduceIte,Nat.reduceEqDiff,reduceCtorEq,Nat.reduceAdd,Nat.reduceMul,Nat.reduceLeDiff,quietOp,blindOp,Int.reduceEq,Int.reduceLT,Int.reduceLE,Nat.reduceLT,ti2,ti3,ti4,ti79,ti80,ti28,ti25,ti31,ti22,ti33,ti24,ti67,ti111,ti100, h6, h5, h0, h1, w64]
                refine ⟨n - (c + 1), by omega, c + 1, rfl, by omega, rfl, by rw [hsucc]; rfl, up5⟩
              | true =>
                rw [hst2, if_pos ⟨rfl, rfl⟩] at hsucc
                have b1 := cntP_le n f y (c + 1) hn.2 (by omega) (by omega)
                try simp (disch := first | omega | (simp only [ints_length, List.length_replicate, List.length_set, stpL_length]; done) | (simp only [ints_length, List.length_replicate, List.length_set, stpL_length]; omega)) only [Sall,evalOp,init,binE,binI,unE,convE,okNil,builtE,gv,TD.isAgg,resV,↓reduceIte,Nat.reduceEqDiff,reduceCtorEq,Nat.reduceAdd,Nat.reduceMul,Nat.reduceLeDiff,quietOp,blindOp,Int.reduceEq,Int.reduceLT,Int.reduceLE,Nat.reduceLT,ti2,ti3,ti4,ti79,ti80,ti28,ti25,ti31,ti22,ti33,ti24,ti67,ti111,ti100, h6, h5, h0, h1, w64]
                refine (ih (y ++ [(c : Int)]) v' H4.next (H4.next + 1) H5 (by omega) (by omega) hin2 hst2 f5 (by omega) (by omega)).to ?_
                try simp (disch := first | omega | (simp only [ints_length, List.length_replicate, List.length_set, stpL_length]; done) | (simp only [ints_length, List.length_replicate, List.length_set, stpL_length]; omega)) only [Sall,evalOp,init,binE,binI,unE,convE,okNil,builtE,gv,TD.isAgg,resV,↓reduceIte,Nat.reduceEqDiff,reduceCtorEq,Nat.reduceAdd,Nat.reduceMul,Nat.reduceLeDiff,quietOp,blindOp,Int.reduceEq,Int.reduceLT,Int.reduceLE,Nat.reduceLT,ti2,ti3,ti4,ti79,ti80,ti28,ti25,ti31,ti22,ti33,ti24,ti67,ti111,ti100, h6, h5, h0, h1, w64]
                refine ⟨n - (c + 1), by omega, c + 1, rfl, by omega, rfl, by rw [hsucc]; omega, up5⟩
      · have hc : c = n := by omega
        subst hc
        rw [cntP_all] at h5
        try simp (disch := first | omega | (simp only [ints_length, List.length_replicate, List.length_set, stpL_length]; done) | (simp only [ints_length, List.length_replicate, List.length_set, stpL_length]; omega)) only [Sall,evalOp,init,binE,binI,unE,convE,okNil,builtE,gv,TD.isAgg,resV,↓reduceIte,Nat.reduceEqDiff,reduceCtorEq,Nat.reduceAdd,Nat.reduceMul,Nat.reduceLeDiff,quietOp,blindOp,Int.reduceEq,Int.reduceLT,Int.reduceLE,Nat.reduceLT,ti2,ti3,ti4,ti79,ti80,ti28,ti25,ti31,ti22,ti33,ti24,ti67,ti111,ti100, h5]
        exact hup
theorem wrap_form (x : Int) : ∃ k : Int, IntKind.i64.wrap x = x - k * 18446744073709551616 := by
  have h := Int.emod_add_mul_ediv x 18446744073709551616
  unfold IntKind.wrap
  simp only [IntKind.bits, IntKind.signed]
  simp only [Bool.true_and, decide_eq_true_eq, Nat.reduceSub, Int.reducePow]
  split
  · exact ⟨x / 18446744073709551616 + 1, by omega⟩
  · exact ⟨x / 18446744073709551616, by omega⟩
theorem wrap_up (c : Nat) : IntKind.i64.wrap (IntKind.i64.wrap (c : Int) + 1) = IntKind.i64.wrap ((c + 1 : Nat) : Int) := by
  obtain ⟨k1, h1⟩ := wrap_form (c : Int)
  obtain ⟨k2, h2⟩ := wrap_form (IntKind.i64.wrap (c : Int) + 1)
  obtain ⟨k3, h3⟩ := wrap_form ((c + 1 : Nat) : Int)
  have r2 := wrap_range (IntKind.i64.wrap (c : Int) + 1)
  have r3 := wrap_range ((c + 1 : Nat) : Int)
  omega
def cntF (n : Nat) (es : List (List Int)) : Nat := (es.filter (stpB n)).length
theorem cntF_snoc (n : Nat) (es : List (List Int)) (y : List Int) : cntF n (es ++ [y]) = cntF n es + (if stpB n y = true then 1 else 0) := by
  unfold cntF
  rw [List.filter_append, List.length_append]
  cases h : stpB n y <;> simp [h]

/-- What is known while orders are counted. -/
def CsS (n : Nat) (mc : Nat) (Hc : AH) (es : List (List Int)) (H : AH) : Prop :=
  Hc.next ≤ H.next ∧ (∀ i, i < Hc.next → ¬ i = mc → H.row i = Hc.row i) ∧ H.row mc = some ⟨2, true, [.int .i64 (IntKind.i64.wrap (cntF n es))]⟩

theorem csClosure_c (n : Nat) (hn : 1 ≤ n ∧ n ≤ 8) (nc mc : Nat) (Hc : AH) (hnc : Hc.row nc = some ⟨2, true, [.int .i64 n]⟩) (hncn : nc < Hc.next) (hne : ¬ nc = mc) (hmc : mc < Hc.next) (es : List (List Int)) (y : List Int) (v : Value) (H : AH) (hS : CsS n mc Hc es H)
    (hy : (∀ x ∈ y, 0 ≤ x ∧ x < n) ∧ y.Nodup) (hyl : y.length ≤ 40) (hv : Cp H v y) :
    ACalls Try.prog 87 [v, .pointer (some ⟨nc, 0, none⟩), .pointer (some ⟨mc, 0, none⟩)] H (fun r H' => r = .bool true ∧ CsS n mc Hc (es ++ [y]) H' ∧ H.next ≤ H'.next ∧ ∀ i, i < H.next → ¬ i = mc → H'.row i = H.row i) := by
  refine ACalls.wf (by kernel_rfl) fun hs => acalls_of_awp [.tmp 4] Try.func87 (by kernel_rfl) rfl rfl (Nat.le_of_ble_eq_true rfl) (by kernel_rfl) ?_
  obtain ⟨hnx, hrow, hcell⟩ := hS
  have hnc' : H.row nc = some ⟨2, true, [.int .i64 n]⟩ := by rw [hrow _ hncn hne]; exact hnc
  have hsl := stpL_length n y
  have hsn := cntF_snoc n es y
  try simp (disch := first | omega | (simp only [ints_length, List.length_replicate, List.length_set, stpL_length]; done) | (simp only [ints_length, List.length_replicate, List.length_set, stpL_length]; omega)) only [Sall,evalOp,init,binE,binI,unE,convE,okNil,builtE,gv,TD.isAgg,resV,↓reduceIte,Nat.reduceEqDiff,reduceCtorEq,Nat.reduceAdd,Nat.reduceMul,Nat.reduceLeDiff,quietOp,blindOp,Int.reduceEq,Int.reduceLT,Int.reduceLE,Nat.reduceLT,ti2,ti3,ti4,ti79,ti80,ti28,ti25,ti31,ti22,ti33,ti24,ti67,ti111,ti100, hnc']
  refine (steps_c n (by omega) v y H hv.1 (by omega) hy.1).mono ?_
  rintro u H1 ⟨up1, hf1⟩
  have n1 := up1.next
  refine Holds.mp ?_
  try simp (disch := first | omega | (simp only [ints_length, List.length_replicate, List.length_set, stpL_length]; done) | (simp only [ints_length, List.length_replicate, List.length_set, stpL_length]; omega)) only [Sall,evalOp,init,binE,binI,unE,convE,okNil,builtE,gv,TD.isAgg,resV,↓reduceIte,Nat.reduceEqDiff,reduceCtorEq,Nat.reduceAdd,Nat.reduceMul,Nat.reduceLeDiff,quietOp,blindOp,Int.reduceEq,Int.reduceLT,Int.reduceLE,Nat.reduceLT,ti2,ti3,ti4,ti79,ti80,ti28,ti25,ti31,ti22,ti33,ti24,ti67,ti111,ti100, true_and]
  refine (areDifferent_c u (stpL n y) H1 hf1.rd (by omega)).to ?_
  rw [diffB_steps hy.1 hy.2]
  have hcell1 : H1.row mc = some ⟨2, true, [.int .i64 (IntKind.i64.wrap (cntF n es))]⟩ := by rw [up1.row _ (by omega)]; exact hcell
  cases hst : stpB n y with
  | true =>
    rw [hst, if_pos rfl] at hsn
    try simp (disch := first | omega | (simp only [ints_length, List.length_replicate, List.length_set, stpL_length]; done) | (simp only [ints_length, List.length_replicate, List.length_set, stpL_length]; omega)) only [Sall,evalOp,init,binE,binI,unE,convE,okNil,builtE,gv,TD.isAgg,resV,↓reduceIte,Nat.reduceEqDiff,reduceCtorEq,Nat.reduceAdd,Nat.reduceMul,Nat.reduceLeDiff,quietOp,blindOp,Int.reduceEq,Int.reduceLT,Int.reduceLE,Nat.reduceLT,ti2,ti3,ti4,ti79,ti80,ti28,ti25,ti31,ti22,ti33,ti24,ti67,ti111,ti100, hcell1, wrap_up]
    refine ⟨⟨by simp only [AH.setCells_next]; omega, fun i hi1 hi => by rw [AH.setCells_row, if_neg hi, up1.row i (by omega), hrow i hi1 hi], ?_⟩, by omega, fun i hi1 hi => by rw [if_neg hi, up1.row i hi1]⟩
    rw [AH.setCells_row, if_pos rfl, hcell1, hsn]; rfl
  | false =>
    rw [hst, if_neg (by simp), Nat.add_zero] at hsn
    try simp (disch := first | omega | (simp only [ints_length, List.length_replicate, List.length_set, stpL_length]; done) | (simp only [ints_length, List.length_replicate, List.length_set, stpL_length]; omega)) only [Sall,evalOp,init,binE,binI,unE,convE,okNil,builtE,gv,TD.isAgg,resV,↓reduceIte,Nat.reduceEqDiff,reduceCtorEq,Nat.reduceAdd,Nat.reduceMul,Nat.reduceLeDiff,quietOp,blindOp,Int.reduceEq,Int.reduceLT,Int.reduceLE,Nat.reduceLT,ti2,ti3,ti4,ti79,ti80,ti28,ti25,ti31,ti22,ti33,ti24,ti67,ti111,ti100, true_and]
    refine ⟨⟨by omega, fun i hi1 hi => by rw [up1.row i (by omega), hrow i hi1 hi], by rw [hsn]; exact hcell1⟩, by omega, fun i hi1 hi => up1.row i hi1⟩

/-- What CountStepSequences answers. -/
def cssN (q : Int) : Int := if 1 ≤ q ∧ q ≤ 8 then (cntS q.toNat (q.toNat - 1) [0] : Nat) else 0
def cssC (q : Int) : Int := if 1 ≤ q ∧ q ≤ 8 then 0 else 2

theorem stp_one (n : Nat) : stpB n [0] = true := by unfold stpB stpL; simp

theorem specCountStepSequences_c (q : Int) (H : AH) (hq : -9223372036854775808 ≤ q ∧ q ≤ 9223372036854775807) :
    ACalls Try.prog 36 [.int .i64 q] H (is (.tuple #[.int .i64 (cssN q), .int .i64 (cssC q)]) H) := by
  refine acalls_up (by simp [flat, Abs.scal]) (ACalls.wf (by kernel_rfl) fun hs => acalls_of_awp [.tmp 2, .tmp 3] Try.func36 (by kernel_rfl) rfl rfl (Nat.le_of_ble_eq_true rfl) (by kernel_rfl) ?_)
  try simp (disch := first | omega | (simp only [ints_length, List.length_replicate, List.length_set, stpL_length]; done) | (simp only [ints_length, List.length_replicate, List.length_set, stpL_length]; omega)) only [Sall,evalOp,init,binE,binI,unE,convE,okNil,builtE,gv,TD.isAgg,resV,↓reduceIte,Nat.reduceEqDiff,reduceCtorEq,Nat.reduceAdd,Nat.reduceMul,Nat.reduceLeDiff,quietOp,blindOp,Int.reduceEq,Int.reduceLT,Int.reduceLE,Nat.reduceLT,ti2,ti3,ti4,ti79,ti80,ti28,ti25,ti31,ti22,ti33,ti24,ti67,ti111,ti100, true_and]
  refine (l01In_c _ _ _ _).to ?_
  unfold cssN cssC
  by_cases h : 1 ≤ q ∧ q ≤ 8
  · obtain ⟨n, rfl⟩ : ∃ n : Nat, q = n := ⟨q.toNat, by omega⟩
    have zz : zeros 1 [.int .i64 0] = [.int .i64 0] := rfl
    rw [decide_eq_true h, if_pos h, if_pos h, Int.toNat_natCast]
    try simp (disch := first | omega | (simp only [ints_length, List.length_replicate, List.length_set, stpL_length]; done) | (simp only [ints_length, List.length_replicate, List.length_set, stpL_length]; omega)) only [Sall,evalOp,init,binE,binI,unE,convE,okNil,builtE,gv,TD.isAgg,resV,↓reduceIte,Nat.reduceEqDiff,reduceCtorEq,Nat.reduceAdd,Nat.reduceMul,Nat.reduceLeDiff,quietOp,blindOp,Int.reduceEq,Int.reduceLT,Int.reduceLE,Nat.reduceLT,ti2,ti3,ti4,ti79,ti80,ti28,ti25,ti31,ti22,ti33,ti24,ti67,ti111,ti100, Bool.not_true, zz, slCells]
    have hf : Fr 1 2 H.next (H.push ⟨2, true, [.int .i64 0]⟩).next (H.push ⟨2, true, [.int .i64 0]⟩) (.slice (some ⟨H.next, 0, some 1⟩) 1 1) 1 [0] := ⟨rfl, .inr ⟨H.next, Nat.le_refl _, Nat.lt_succ_self _, rfl, by rw [AH.push_row, if_pos rfl]; rfl⟩⟩
    have up : Up H.next H (H.push ⟨2, true, [.int .i64 0]⟩) := (Up.refl _ H).push (Nat.le_refl _) _
    refine (l09Count_c n (by omega) (n - 1) [0] _ _ _ _ (by simp; omega) (by simp) (by simp; omega) (stp_one n) hf (Nat.le_succ _) (Nat.le_refl _)).to ?_
    try simp (disch := first | omega | (simp only [ints_length, List.length_replicate, List.length_set, stpL_length]; done) | (simp only [ints_length, List.length_replicate, List.length_set, stpL_length]; omega)) only [Sall,evalOp,init,binE,binI,unE,convE,okNil,builtE,gv,TD.isAgg,resV,↓reduceIte,Nat.reduceEqDiff,reduceCtorEq,Nat.reduceAdd,Nat.reduceMul,Nat.reduceLeDiff,quietOp,blindOp,Int.reduceEq,Int.reduceLT,Int.reduceLE,Nat.reduceLT,ti2,ti3,ti4,ti79,ti80,ti28,ti25,ti31,ti22,ti33,ti24,ti67,ti111,ti100, true_and]
    exact up
  · rw [decide_eq_false h, if_neg h, if_neg h]
    try simp (disch := first | omega | (simp only [ints_length, List.length_replicate, List.length_set, stpL_length]; done) | (simp only [ints_length, List.length_replicate, List.length_set, stpL_length]; omega)) only [Sall,evalOp,init,binE,binI,unE,convE,okNil,builtE,gv,TD.isAgg,resV,↓reduceIte,Nat.reduceEqDiff,reduceCtorEq,Nat.reduceAdd,Nat.reduceMul,Nat.reduceLeDiff,quietOp,blindOp,Int.reduceEq,Int.reduceLT,Int.reduceLE,Nat.reduceLT,ti2,ti3,ti4,ti79,ti80,ti28,ti25,ti31,ti22,ti33,ti24,ti67,ti111,ti100, Bool.not_false]
    exact Up.refl _ _
theorem CountStepSequences_c (q : Int) (H : AH) (hq : -9223372036854775808 ≤ q ∧ q ≤ 9223372036854775807) :
    ACalls Try.prog 37 [.int .i64 q] H (is (.tuple #[.int .i64 (cssN q), .int .i64 (cssC q)]) H) := by
  refine acalls_up (by simp [flat, Abs.scal]) (ACalls.wf (by kernel_rfl) fun hs => acalls_of_awp [.tmp 2, .tmp 3] Try.func37 (by kernel_rfl) rfl rfl (Nat.le_of_ble_eq_true rfl) (by kernel_rfl) ?_)
  try simp (disch := first | omega | (simp only [ints_length, List.length_replicate, List.length_set, stpL_length]; done) | (simp only [ints_length, List.length_replicate, List.length_set, stpL_length]; omega)) only [Sall,evalOp,init,binE,binI,unE,convE,okNil,builtE,gv,TD.isAgg,resV,↓reduceIte,Nat.reduceEqDiff,reduceCtorEq,Nat.reduceAdd,Nat.reduceMul,Nat.reduceLeDiff,quietOp,blindOp,Int.reduceEq,Int.reduceLT,Int.reduceLE,Nat.reduceLT,ti2,ti3,ti4,ti79,ti80,ti28,ti25,ti31,ti22,ti33,ti24,ti67,ti111,ti100, true_and]
  refine (between_c _ _ _ _).to ?_
  unfold cssN cssC
  have zz : zeros 1 [.int .i64 0] = [.int .i64 0] := rfl
  by_cases h : 1 ≤ q ∧ q ≤ 8
  · obtain ⟨n, rfl⟩ : ∃ n : Nat, q = n := ⟨q.toNat, by omega⟩
    rw [decide_eq_true h, if_pos h, if_pos h, Int.toNat_natCast]
    have hn : 1 ≤ n ∧ n ≤ 8 := by omega
    try simp (disch := first | omega | (simp only [ints_length, List.length_replicate, List.length_set, stpL_length]; done) | (simp only [ints_length, List.length_replicate, List.length_set, stpL_length]; omega)) only [Sall,evalOp,init,binE,binI,unE,convE,okNil,builtE,gv,TD.isAgg,resV,↓reduceIte,Nat.reduceEqDiff,reduceCtorEq,Nat.reduceAdd,Nat.reduceMul,Nat.reduceLeDiff,quietOp,blindOp,Int.reduceEq,Int.reduceLT,Int.reduceLE,Nat.reduceLT,ti2,ti3,ti4,ti79,ti80,ti28,ti25,ti31,ti22,ti33,ti24,ti67,ti111,ti100, Bool.not_true, zz, slCells, w64]
    obtain ⟨H1, e1⟩ : ∃ H1, H1 = (((H.push ⟨2, true, [.int .i64 n]⟩).push ⟨2, true, [.int .i64 0]⟩).setCells (H.next + 1) [.int .i64 0]).push ⟨2, true, [.int .i64 0]⟩ := ⟨_, rfl⟩
    have up1 : Up H.next H H1 := by rw [e1]; exact ((((Up.refl _ H).push (by omega) _).push (by simp only [AH.push_next]; omega) _).set (by omega) _).push (by simp only [AH.push_next, AH.setCells_next]; omega) _
    have n1 : H1.next = H.next + 3 := by rw [e1]; rfl
    have r0 : H1.row H.next = some ⟨2, true, [.int .i64 n]⟩ := by rw [e1]; simp [AH.setCells_row, AH.setCells_next, AH.push_row, AH.push_next]; omega
    have r1 : H1.row (H.next + 1) = some ⟨2, true, [.int .i64 0]⟩ := by rw [e1]; simp [AH.setCells_row, AH.setCells_next, AH.push_row, AH.push_next]
    have r2 : H1.row (H.next + 2) = some ⟨2, true, [.int .i64 0]⟩ := by rw [e1]; simp [AH.setCells_row, AH.setCells_next, AH.push_row, AH.push_next]
    rw [← e1]
    clear e1
    refine (numbersFrom_c 0 ((n : Int) - 1) n (by omega) (by omega) (by omega) H1).sc.mono ?_
    rintro nv Hc ⟨⟨upc, hfc⟩, scc⟩
    have nc := upc.next
    have hnl : (seqL 0 n).length = n := seqL_length _ _
    have hc0 : Hc.row H.next = some ⟨2, true, [.int .i64 n]⟩ := by rw [upc.row _ (by omega), r0]
    have hc1 : Hc.row (H.next + 1) = some ⟨2, true, [.int .i64 0]⟩ := by rw [upc.row _ (by omega), r1]
    have hc2 : Hc.row (H.next + 2) = some ⟨2, true, [.int .i64 0]⟩ := by rw [upc.row _ (by omega), r2]
    have w0 : IntKind.i64.wrap ((cntF n [] : Nat) : Int) = 0 := by show IntKind.i64.wrap ((0 : Nat) : Int) = 0; decide
    refine Holds.mp ?_
    try simp (disch := first | omega | (simp only [ints_length, List.length_replicate, List.length_set, stpL_length]; done) | (simp only [ints_length, List.length_replicate, List.length_set, stpL_length]; omega)) only [Sall,evalOp,init,binE,binI,unE,convE,okNil,builtE,gv,TD.isAgg,resV,↓reduceIte,Nat.reduceEqDiff,reduceCtorEq,Nat.reduceAdd,Nat.reduceMul,Nat.reduceLeDiff,quietOp,blindOp,Int.reduceEq,Int.reduceLT,Int.reduceLE,Nat.reduceLT,ti2,ti3,ti4,ti79,ti80,ti28,ti25,ti31,ti22,ti33,ti24,ti67,ti111,ti100, List.mem_cons, List.not_mem_nil, or_false, forall_eq_or_imp, forall_eq, Array.size_empty]
    have hnvB : Rd 1 (Hc.drop (H.next + 1)) nv (seqL 0 n).length (seqL 0 n) := by
      rw [hnl]
      exact (hfc.same (H' := Hc.drop (H.next + 1)) fun i hi _ => by rw [AH.drop_row, if_neg (by omega)]).rd
    have hper : Per (H.next + 2) Hc (.slice (some ⟨H.next + 2, 0, some 1⟩) 1 1) [0] := Per.fr (ty := 2) (lo := H.next + 2) (hi := H.next + 3) ⟨rfl, .inr ⟨H.next + 2, by omega, by omega, rfl, hc2⟩⟩ (by omega) (by omega)
    refine (orders_c 87 [.pointer (some ⟨H.next, 0, none⟩), .pointer (some ⟨H.next + 1, 0, none⟩)] (fun _ => true) (fun y => (∀ x ∈ y, 0 ≤ x ∧ x < n) ∧ y.Nodup) (CsS n (H.next + 1) Hc) (H.next + 2) nv (seqL 0 n) (Hc.drop (H.next + 1)) hnvB (by omega) ?_ ?_ ?_ ?_ (n - 1) [0] [] (.slice (some ⟨H.next + 2, 0, some 1⟩) 1 1) Hc (by rw [hnl, List.length_singleton]; omega) ⟨Nat.le_refl _, fun i _ _ => rfl, by rw [w0]; exact hc1⟩ (by simp) (by omega) hper ⟨by simp; omega, by simp⟩).mono ?_
    · rintro es H' ⟨_, h2, _⟩ i r hir
      rw [AH.drop_row] at hir
      split at hir
      · cases hir
      · rename_i hne; rw [h2 i (scc _ _ hir) hne]; exact hir
    · rintro es Ha Hb ⟨a1, a2, a3⟩ hn2 hr2
      exact ⟨by omega, fun i hi1 hi => by rw [hr2 _ (by omega), a2 i hi1 hi], by rw [hr2 _ (by omega)]; exact a3⟩
    · rintro y x ⟨hy, hnd⟩ hx hct
      refine ⟨fun z hz => ?_, nodup_snoc.2 ⟨hnd, fun hm => by rw [List.contains_iff_mem.2 hm] at hct; cases hct⟩⟩
      rcases List.mem_append.1 hz with hz | hz
      · exact hy z hz
      · rw [List.mem_singleton] at hz
        subst hz
        have := (mem_seqL_iff 0 n _).1 hx
        omega
    · intro es y v Ha hS _ _ hyl hy hcp
      refine (csClosure_c n hn _ _ Hc hc0 (by omega) (by omega) (by omega) es y v Ha hS hy (by omega) hcp).mono ?_
      rintro r Hb ⟨g1, g2, g3, g4⟩
      exact ⟨g1, g2, g3, fun i hi hi2 => g4 i hi2 (by omega)⟩
    · rintro rr H' ⟨n', rows', hcase⟩
      refine Holds.mp ?_
      rcases hcase with ⟨rfl, _, s1, s2, s3⟩ | ⟨_, L1, z, L2, _, _, q3, _⟩
      · have hle := cnt_le n (n - 1) [0] hn.2 (by omega)
        have hw : IntKind.i64.wrap ((cntF n (ordN (seqL 0 n) (n - 1) [0]) : Nat) : Int) = (cntS n (n - 1) [0] : Nat) := by
          have : cntF n (ordN (seqL 0 n) (n - 1) [0]) = cntS n (n - 1) [0] := rfl
          rw [this, w64 (by omega)]
        rw [List.nil_append, hw] at s3
        try simp (disch := first | omega | (simp only [ints_length, List.length_replicate, List.length_set, stpL_length]; done) | (simp only [ints_length, List.length_replicate, List.length_set, stpL_length]; omega)) only [Sall,evalOp,init,binE,binI,unE,convE,okNil,builtE,gv,TD.isAgg,resV,↓reduceIte,Nat.reduceEqDiff,reduceCtorEq,Nat.reduceAdd,Nat.reduceMul,Nat.reduceLeDiff,quietOp,blindOp,Int.reduceEq,Int.reduceLT,Int.reduceLE,Nat.reduceLT,ti2,ti3,ti4,ti79,ti80,ti28,ti25,ti31,ti22,ti33,ti24,ti67,ti111,ti100, s3]
        exact ⟨by omega, fun i hi => by rw [s2 i (by omega) (by omega), upc.row i (by omega), up1.row i hi]⟩
      · cases q3
  · rw [decide_eq_false h, if_neg h, if_neg h]
    try simp (disch := first | omega | (simp only [ints_length, List.length_replicate, List.length_set, stpL_length]; done) | (simp only [ints_length, List.length_replicate, List.length_set, stpL_length]; omega)) only [Sall,evalOp,init,binE,binI,unE,convE,okNil,builtE,gv,TD.isAgg,resV,↓reduceIte,Nat.reduceEqDiff,reduceCtorEq,Nat.reduceAdd,Nat.reduceMul,Nat.reduceLeDiff,quietOp,blindOp,Int.reduceEq,Int.reduceLT,Int.reduceLE,Nat.reduceLT,ti2,ti3,ti4,ti79,ti80,ti28,ti25,ti31,ti22,ti33,ti24,ti67,ti111,ti100, Bool.not_false]
    exact (Up.refl _ H).push (by omega) _
end Go.Proofs.Ytbmpkihggipciaa.A
