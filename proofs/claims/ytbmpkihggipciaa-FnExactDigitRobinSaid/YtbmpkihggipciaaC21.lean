/- Contracts: FirstDigitOrder on both sides. -/
import Derived.Test.YtbmpkihggipciaaC17
import Derived.Test.YtbmpkihggipciaaC19
set_option linter.unusedSimpArgs false
set_option linter.unusedVariables false
set_option maxRecDepth 100000
set_option maxHeartbeats 2000000
--LEN ints_length, List.length_replicate, List.length_set
namespace Go.Proofs.Ytbmpkihggipciaa.A
open Go Go.Abs Go.RowKit

theorem seqL_at (n c : Nat) (h : c < n) : (seqL 0 n).getD c 0 = (c : Int) := by rw [seqL_getD _ _ _ h, Int.zero_add]

theorem l09Orders_c (n : Nat) (hn : n ≤ 8) : ∀ (fuel : Nat) (y : List Int) (v : Value) (lo0 hi0 : Nat) (H : AH), fuel + y.length = n → Fr 1 2 lo0 hi0 H v y.length y → lo0 ≤ hi0 → hi0 ≤ H.next →
    ACalls Try.prog 64 [.int .i64 n, v] H (fun u H' => Up H.next H H' ∧ FrV 28 lo0 H'.next H' u (ordN (seqL 0 n) fuel y)) := by
  intro fuel
  induction fuel with
  | zero =>
    intro y v lo0 hi0 H hlen hfr hlh hhi
    refine acalls_of_awp [.tmp 4] Try.func64 (by kernel_rfl) rfl rfl (Nat.le_of_ble_eq_true rfl) (by kernel_rfl) ?_
    have hl := hfr.rd.len
    have ho := hfr.rd.one
    have e1 : ((y.length : Int) == (n : Int)) = true := by rw [show y.length = n by omega]; exact beq_self_eq_true _
    have zz : zeros 1 [.slice none 0 0] = [.slice none 0 0] := rfl
    have hc1 := cells_of_one ho
    have hc2 := noTuple_of_one ho
    try simp (disch := first | omega | (simp only [ints_length, List.length_replicate, List.length_set]; done) | (simp only [ints_length, List.length_replicate, List.length_set]; omega)) only [Sall,evalOp,init,binE,binI,unE,convE,okNil,builtE,gv,TD.isAgg,resV,↓reduceIte,Nat.reduceEqDiff,reduceCtorEq,Nat.reduceAdd,Nat.reduceMul,Nat.reduceLeDiff,quietOp,blindOp,Int.reduceEq,Int.reduceLT,Int.reduceLE,Nat.reduceLT,ti2,ti3,ti4,ti79,ti80,ti28,ti25,ti31,ti22,ti33,ti24,ti67,ti111,ti100, builtE, hl, e1, zz, ho, hc1, hc2]
    refine ⟨(Up.refl _ H).push (Nat.le_refl _) _, .inr ⟨H.next, [v], by omega, by omega, rfl, by rw [AH.push_row, if_pos rfl], rfl, fun j hj => ?_⟩⟩
    simp only [ordN, List.length_singleton] at hj
    have hj0 : j = 0 := by omega
    subst hj0
    refine ⟨v, rfl, fun H2 h2 => ?_⟩
    have hf2 : Fr 1 2 lo0 hi0 H2 v y.length y := by
      refine ⟨hfr.1, ?_⟩
      rcases hfr.2 with h3 | ⟨q, q1, q2, q3, q4⟩
      · exact .inl h3
      · exact .inr ⟨q, q1, q2, q3, h2 q _ q1 (by omega) (by omega) (by rw [AH.push_row, if_neg (by omega)]; exact q4)⟩
    exact hf2.rd
  | succ f ih =>
    intro y v lo0 hi0 H hlen hfr hlh hhi
    refine ACalls.wf (by kernel_rfl) fun hs => acalls_of_awp [.tmp 4] Try.func64 (by kernel_rfl) rfl rfl (Nat.le_of_ble_eq_true rfl) (by kernel_rfl) ?_
    have hl := hfr.rd.len
    have ho := hfr.rd.one
    have e1 : ((y.length : Int) == (n : Int)) = false := by rw [beq_eq_false_iff_ne]; omega
    have hsl : (seqL 0 n).length = n := seqL_length 0 n
    try simp (disch := first | omega | (simp only [ints_length, List.length_replicate, List.length_set]; done) | (simp only [ints_length, List.length_replicate, List.length_set]; omega)) only [Sall,evalOp,init,binE,binI,unE,convE,okNil,builtE,gv,TD.isAgg,resV,↓reduceIte,Nat.reduceEqDiff,reduceCtorEq,Nat.reduceAdd,Nat.reduceMul,Nat.reduceLeDiff,quietOp,blindOp,Int.reduceEq,Int.reduceLT,Int.reduceLE,Nat.reduceLT,ti2,ti3,ti4,ti79,ti80,ti28,ti25,ti31,ti22,ti33,ti24,ti67,ti111,ti100, builtE, hl, e1, zeros_zero]
    refine awp_loop (fun m t H' => ∃ (c : Nat) (u : Value) (hi : Nat), m = n - c ∧ c ≤ n ∧ t 6 = .int .i64 c ∧ t 5 = u ∧ t 0 = .int .i64 n ∧ t 1 = v ∧ Up H.next H H' ∧ H.next ≤ hi ∧ hi ≤ H'.next ∧ FrV 28 H.next hi H' u (ordP (seqL 0 n) f y c)) n ?_ ?_
    · refine ⟨0, .slice (some ⟨H.next, 0, some 1⟩) 0 0, H.next + 1, by omega, by omega, ?_⟩
      try simp (disch := first | omega | (simp only [ints_length, List.length_replicate, List.length_set]; done) | (simp only [ints_length, List.length_replicate, List.length_set]; omega)) only [Sall,evalOp,init,binE,binI,unE,convE,okNil,builtE,gv,TD.isAgg,resV,↓reduceIte,Nat.reduceEqDiff,reduceCtorEq,Nat.reduceAdd,Nat.reduceMul,Nat.reduceLeDiff,quietOp,blindOp,Int.reduceEq,Int.reduceLT,Int.reduceLE,Nat.reduceLT,ti2,ti3,ti4,ti79,ti80,ti28,ti25,ti31,ti22,ti33,ti24,ti67,ti111,ti100, Int.natCast_zero, ordP_zero]
      refine ⟨(Up.refl _ H).push (Nat.le_refl _) _, ?_⟩
      (repeat refine And.intro (by omega) ?_)
      exact .inr ⟨H.next, [], by omega, by omega, rfl, by rw [AH.push_row, if_pos rfl], rfl, fun j hj => by simp at hj⟩
    · rintro m t H' ⟨c, u, hi, hm, hcn, h6, h5, h0, h1, hup, hlo, hhi', hfu⟩
      try simp (disch := first | omega | (simp only [ints_length, List.length_replicate, List.length_set]; done) | (simp only [ints_length, List.length_replicate, List.length_set]; omega)) only [Sall,evalOp,init,binE,binI,unE,convE,okNil,builtE,gv,TD.isAgg,resV,↓reduceIte,Nat.reduceEqDiff,reduceCtorEq,Nat.reduceAdd,Nat.reduceMul,Nat.reduceLeDiff,quietOp,blindOp,Int.reduceEq,Int.reduceLT,Int.reduceLE,Nat.reduceLT,ti2,ti3,ti4,ti79,ti80,ti28,ti25,ti31,ti22,ti33,ti24,ti67,ti111,ti100, h6, h0]
      refine condC_dec (fun h => ?_) (fun h => ?_)
      · have hup1 := hup.next
        have hfy : Fr 1 2 lo0 hi0 H' v y.length y := hfr.same fun i _ hi => hup.row i (by omega)
        have hpre := ordP_pre (seqL 0 n) f y c (by omega)
        have hsucc := ordP_succ (seqL 0 n) f y c (by omega)
        rw [seqL_at n c (by omega)] at hsucc
        have hlen1 := seq_len_le (seqL 0 n) (f + 1) y
        have hpow : (seqL 0 n).length ^ (f + 1) ≤ 16777216 := by
          rw [hsl]
          exact Nat.le_trans (Nat.pow_le_pow_left hn _) (Nat.le_trans (Nat.pow_le_pow_right (by omega) (show f + 1 ≤ 8 by omega)) (by decide))
        obtain ⟨L3, hL3⟩ := hpre
        rw [hL3, hsucc, List.length_append, List.length_append] at hlen1
        try simp (disch := first | omega | (simp only [ints_length, List.length_replicate, List.length_set]; done) | (simp only [ints_length, List.length_replicate, List.length_set]; omega)) only [Sall,evalOp,init,binE,binI,unE,convE,okNil,builtE,gv,TD.isAgg,resV,↓reduceIte,Nat.reduceEqDiff,reduceCtorEq,Nat.reduceAdd,Nat.reduceMul,Nat.reduceLeDiff,quietOp,blindOp,Int.reduceEq,Int.reduceLT,Int.reduceLE,Nat.reduceLT,ti2,ti3,ti4,ti79,ti80,ti28,ti25,ti31,ti22,ti33,ti24,ti67,ti111,ti100, h6, h0, h1, h5]
        refine awp_loop (fun z t H2 => ∃ i : Nat, z = y.length - i ∧ i ≤ y.length ∧ t 8 = .int .i64 i ∧ t 7 = .bool ((List.range i).any fun j => y.getD j 0 == (c : Int)) ∧ t 6 = .int .i64 c ∧ t 5 = u ∧ t 0 = .int .i64 n ∧ t 1 = v ∧ H2 = H') y.length ?_ ?_
        · refine ⟨0, by omega, by omega, ?_⟩
          try simp (disch := first | omega | (simp only [ints_length, List.length_replicate, List.length_set]; done) | (simp only [ints_length, List.length_replicate, List.length_set]; omega)) only [Sall,evalOp,init,binE,binI,unE,convE,okNil,builtE,gv,TD.isAgg,resV,↓reduceIte,Nat.reduceEqDiff,reduceCtorEq,Nat.reduceAdd,Nat.reduceMul,Nat.reduceLeDiff,quietOp,blindOp,Int.reduceEq,Int.reduceLT,Int.reduceLE,Nat.reduceLT,ti2,ti3,ti4,ti79,ti80,ti28,ti25,ti31,ti22,ti33,ti24,ti67,ti111,ti100, Int.natCast_zero, h6, h5, h0, h1, List.range_zero, List.any_nil]
        · rintro z t H2 ⟨i, hz, hiy, h8, h7, h6, h5, h0, h1, rfl⟩
          have hlv := hfy.rd.len
          try simp (disch := first | omega | (simp only [ints_length, List.length_replicate, List.length_set]; done) | (simp only [ints_length, List.length_replicate, List.length_set]; omega)) only [Sall,evalOp,init,binE,binI,unE,convE,okNil,builtE,gv,TD.isAgg,resV,↓reduceIte,Nat.reduceEqDiff,reduceCtorEq,Nat.reduceAdd,Nat.reduceMul,Nat.reduceLeDiff,quietOp,blindOp,Int.reduceEq,Int.reduceLT,Int.reduceLE,Nat.reduceLT,ti2,ti3,ti4,ti79,ti80,ti28,ti25,ti31,ti22,ti33,ti24,ti67,ti111,ti100, h8, h1, builtE, hlv]
          refine condC_dec (fun hh => ?_) (fun hh => ?_)
          · obtain ⟨i7, o7, u7, c7, r7, rfl, hr7, hc7, hs7, hg7⟩ := hfy.rd.get (by omega)
            have g1 := hs7 i (by omega)
            have hra : ((List.range (i + 1)).any fun j => y.getD j 0 == (c : Int)) = (((List.range i).any fun j => y.getD j 0 == (c : Int)) || (y.getD i 0 == (c : Int))) := by rw [List.range_succ, List.any_append]; simp
            cases hk : ((List.range i).any fun j => y.getD j 0 == (c : Int)) with
            | true =>
              rw [hk] at h7
              rw [hk, Bool.true_or] at hra
              try simp (disch := first | omega | (simp only [ints_length, List.length_replicate, List.length_set]; done) | (simp only [ints_length, List.length_replicate, List.length_set]; omega)) only [Sall,evalOp,init,binE,binI,unE,convE,okNil,builtE,gv,TD.isAgg,resV,↓reduceIte,Nat.reduceEqDiff,reduceCtorEq,Nat.reduceAdd,Nat.reduceMul,Nat.reduceLeDiff,quietOp,blindOp,Int.reduceEq,Int.reduceLT,Int.reduceLE,Nat.reduceLT,ti2,ti3,ti4,ti79,ti80,ti28,ti25,ti31,ti22,ti33,ti24,ti67,ti111,ti100, h8, h7, h6, h5, h0, h1, w64]
              exact ⟨y.length - (i + 1), by omega, i + 1, rfl, by omega, rfl, by rw [hra]⟩
            | false =>
              rw [hk] at h7
              rw [hk, Bool.false_or] at hra
              try simp (disch := first | omega | (simp only [ints_length, List.length_replicate, List.length_set]; done) | (simp only [ints_length, List.length_replicate, List.length_set]; omega)) only [Sall,evalOp,init,binE,binI,unE,convE,okNil,builtE,gv,TD.isAgg,resV,↓reduceIte,Nat.reduceEqDiff,reduceCtorEq,Nat.reduceAdd,Nat.reduceMul,Nat.reduceLeDiff,quietOp,blindOp,Int.reduceEq,Int.reduceLT,Int.reduceLE,Nat.reduceLT,ti2,ti3,ti4,ti79,ti80,ti28,ti25,ti31,ti22,ti33,ti24,ti67,ti111,ti100, h8, h7, h6, h5, h0, h1, hr7, g1, w64]
              (repeat refine And.intro (by omega) ?_)
              exact ⟨y.length - (i + 1), by omega, i + 1, rfl, by omega, rfl, by rw [hra]⟩
          · have hiy2 : i = y.length := by omega
            subst hiy2
            rw [any_contains] at h7
            cases hct : y.contains (c : Int) with
            | true =>
              rw [hct] at h7
              rw [hct, if_pos rfl, List.append_nil] at hsucc
              try simp (disch := first | omega | (simp only [ints_length, List.length_replicate, List.length_set]; done) | (simp only [ints_length, List.length_replicate, List.length_set]; omega)) only [Sall,evalOp,init,binE,binI,unE,convE,okNil,builtE,gv,TD.isAgg,resV,↓reduceIte,Nat.reduceEqDiff,reduceCtorEq,Nat.reduceAdd,Nat.reduceMul,Nat.reduceLeDiff,quietOp,blindOp,Int.reduceEq,Int.reduceLT,Int.reduceLE,Nat.reduceLT,ti2,ti3,ti4,ti79,ti80,ti28,ti25,ti31,ti22,ti33,ti24,ti67,ti111,ti100, h7, Bool.not_true, h6, h5, h0, h1, w64]
              refine ⟨n - (c + 1), by omega, c + 1, u, hi, rfl, by omega, rfl, rfl, hup, hlo, hhi', ?_⟩
              rw [hsucc]; exact hfu
            | false =>
              rw [hct] at h7
              rw [hct, if_neg (by simp)] at hsucc hlen1
              have zz : zeros 1 [.int .i64 0] = [.int .i64 0] := rfl
              try simp (disch := first | omega | (simp only [ints_length, List.length_replicate, List.length_set]; done) | (simp only [ints_length, List.length_replicate, List.length_set]; omega)) only [Sall,evalOp,init,binE,binI,unE,convE,okNil,builtE,gv,TD.isAgg,resV,↓reduceIte,Nat.reduceEqDiff,reduceCtorEq,Nat.reduceAdd,Nat.reduceMul,Nat.reduceLeDiff,quietOp,blindOp,Int.reduceEq,Int.reduceLT,Int.reduceLE,Nat.reduceLT,ti2,ti3,ti4,ti79,ti80,ti28,ti25,ti31,ti22,ti33,ti24,ti67,ti111,ti100, h7, Bool.not_false, h6, h5, h0, h1]
              refine (l01Own_c v y H2 (Cp.of_fr hfy) (by omega)).mono ?_
              rintro w H3 ⟨up3, hw⟩
              have n3 := up3.next
              refine Holds.mp ?_
              try simp (disch := first | omega | (simp only [ints_length, List.length_replicate, List.length_set]; done) | (simp only [ints_length, List.length_replicate, List.length_set]; omega)) only [Sall,evalOp,init,binE,binI,unE,convE,okNil,builtE,gv,TD.isAgg,resV,↓reduceIte,Nat.reduceEqDiff,reduceCtorEq,Nat.reduceAdd,Nat.reduceMul,Nat.reduceLeDiff,quietOp,blindOp,Int.reduceEq,Int.reduceLT,Int.reduceLE,Nat.reduceLT,ti2,ti3,ti4,ti79,ti80,ti28,ti25,ti31,ti22,ti33,ti24,ti67,ti111,ti100, h6, h5, h0, h1, zz, slCells]
              obtain ⟨H4, e4⟩ : ∃ H4, H4 = H3.push ⟨2, true, [.int .i64 c]⟩ := ⟨_, rfl⟩
              have n4 : H4.next = H3.next + 1 := by rw [e4]; rfl
              have s4 : ∀ i, i < H3.next → H4.row i = H3.row i := fun i hi => by rw [e4, AH.push_row, if_neg (by omega)]
              rw [← e4]
              clear e4
              refine appE_fr (k := 1) (lo := H2.next) (hi := H3.next) (l := y) (m := [(c : Int)]) (hw.same fun i _ hi => s4 i (by omega)) rfl (by omega) rfl (by omega) (by decide) (by omega) (by omega) ?_
              intro v' H5 n5 s5 f5
              have hl1 : (y ++ [(c : Int)]).length = y.length + 1 := by simp
              rw [← hl1] at f5
              have old : ∀ i, i < H2.next → H5.row i = H2.row i := fun i hi => by rw [s5 i (by omega) (by omega), s4 i (by omega), up3.row i hi]
              try simp (disch := first | omega | (simp only [ints_length, List.length_replicate, List.length_set]; done) | (simp only [ints_length, List.length_replicate, List.length_set]; omega)) only [Sall,evalOp,init,binE,binI,unE,convE,okNil,builtE,gv,TD.isAgg,resV,↓reduceIte,Nat.reduceEqDiff,reduceCtorEq,Nat.reduceAdd,Nat.reduceMul,Nat.reduceLeDiff,quietOp,blindOp,Int.reduceEq,Int.reduceLT,Int.reduceLE,Nat.reduceLT,ti2,ti3,ti4,ti79,ti80,ti28,ti25,ti31,ti22,ti33,ti24,ti67,ti111,ti100, h6, h5, h0, h1]
              refine (ih (y ++ [(c : Int)]) v' H4.next (H4.next + 1) H5 (by omega) f5 (by omega) (by omega)).mono ?_
              rintro u6 H6 ⟨up6, hf6⟩
              have n6 := up6.next
              refine Holds.mp ?_
              try simp (disch := first | omega | (simp only [ints_length, List.length_replicate, List.length_set]; done) | (simp only [ints_length, List.length_replicate, List.length_set]; omega)) only [Sall,evalOp,init,binE,binI,unE,convE,okNil,builtE,gv,TD.isAgg,resV,↓reduceIte,Nat.reduceEqDiff,reduceCtorEq,Nat.reduceAdd,Nat.reduceMul,Nat.reduceLeDiff,quietOp,blindOp,Int.reduceEq,Int.reduceLT,Int.reduceLE,Nat.reduceLT,ti2,ti3,ti4,ti79,ti80,ti28,ti25,ti31,ti22,ti33,ti24,ti67,ti111,ti100, h6, h5, h0, h1]
              refine appE_frV (lo := H.next) (hi := hi) (lo' := H4.next) (hi' := H6.next) (hfu.same fun i _ hi => by rw [up6.row i (by omega), old i (by omega)]) hf6 rfl (by decide) (by omega) hlo (by omega) (Nat.le_refl _) (by omega) ?_
              intro v7 H7 n7 s7 f7
              try simp (disch := first | omega | (simp only [ints_length, List.length_replicate, List.length_set]; done) | (simp only [ints_length, List.length_replicate, List.length_set]; omega)) only [Sall,evalOp,init,binE,binI,unE,convE,okNil,builtE,gv,TD.isAgg,resV,↓reduceIte,Nat.reduceEqDiff,reduceCtorEq,Nat.reduceAdd,Nat.reduceMul,Nat.reduceLeDiff,quietOp,blindOp,Int.reduceEq,Int.reduceLT,Int.reduceLE,Nat.reduceLT,ti2,ti3,ti4,ti79,ti80,ti28,ti25,ti31,ti22,ti33,ti24,ti67,ti111,ti100, h6, h5, h0, h1, w64]
              refine ⟨n - (c + 1), by omega, c + 1, v7, H7.next, rfl, by omega, rfl, rfl, ⟨by omega, fun i hi => ?_⟩, by omega, Nat.le_refl _, ?_⟩
              · rw [s7 i (by omega) (by omega), up6.row i (by omega), old i (by omega), hup.row i hi]
              · rw [hsucc]; exact f7
      · have hc : c = n := by omega
        subst hc
        have hall := ordP_all (seqL 0 c) f y
        rw [hsl] at hall
        rw [hall] at hfu
        try simp (disch := first | omega | (simp only [ints_length, List.length_replicate, List.length_set]; done) | (simp only [ints_length, List.length_replicate, List.length_set]; omega)) only [Sall,evalOp,init,binE,binI,unE,convE,okNil,builtE,gv,TD.isAgg,resV,↓reduceIte,Nat.reduceEqDiff,reduceCtorEq,Nat.reduceAdd,Nat.reduceMul,Nat.reduceLeDiff,quietOp,blindOp,Int.reduceEq,Int.reduceLT,Int.reduceLE,Nat.reduceLT,ti2,ti3,ti4,ti79,ti80,ti28,ti25,ti31,ti22,ti33,ti24,ti67,ti111,ti100, h5]
        exact ⟨hup, hfu.wide (by omega) hhi'⟩

theorem isDig_cases {n : Int} (h : isDig n = true) : ∃ k : Nat, n = k ∧ k ∈ [2, 4, 8] ∧ 2 ≤ k ∧ k ≤ 8 := by
  have h := of_decide_eq_true h
  rcases h with rfl | rfl | rfl
  · exact ⟨2, rfl, by simp, by omega, by omega⟩
  · exact ⟨4, rfl, by simp, by omega, by omega⟩
  · exact ⟨8, rfl, by simp, by omega, by omega⟩

/-- What is known while orders are walked: nothing is found yet, or the last one. -/
def FdS (n : Nat) (fc : Nat) (Hc : AH) (es : List (List Int)) (H : AH) : Prop :=
  Hc.next ≤ H.next ∧ (∀ i, i < Hc.next → ¬ i = fc → H.row i = Hc.row i) ∧ ∃ fv, H.row fc = some ⟨28, true, [fv]⟩ ∧
    (((∀ z ∈ es, balD n z = false) ∧ fv = .slice none 0 0) ∨ ∃ es' z fi, es = es' ++ [z] ∧ balD n z = true ∧ Hc.next ≤ fi ∧ fi < H.next ∧ ¬ fi = fc ∧ fv = .slice (some ⟨fi, 0, some 1⟩) z.length z.length ∧ H.row fi = some ⟨2, true, ints z⟩)

end Go.Proofs.Ytbmpkihggipciaa.A
