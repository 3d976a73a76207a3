/- Contracts: FirstDigitOrder on both sides. -/
import Derived.Test.YthabnjaapickiaaC17
import Derived.Test.YthabnjaapickiaaC19
set_option linter.unusedSimpArgs false
set_option linter.unusedVariables false
set_option maxRecDepth 100000
set_option maxHeartbeats 2000000
--LEN ints_length, List.length_replicate, List.length_set
namespace Go.Proofs.Ythabnjaapickiaa.A
open Go Go.Abs Go.RowKit

theorem seqL_at (n c : Nat) (h : c < n) : (seqL 0 n).getD c 0 = (c : Int) := by rw [seqL_getD _ _ _ h, Int.zero_add]

theorem l09Orders_c (n : Nat) (hn : n ≤ 8) : ∀ (fuel : Nat) (y : List Int) (v : Value) (lo0 hi0 : Nat) (H : AH), fuel + y.length = n → Fr 1 2 lo0 hi0 H v y.length y → lo0 ≤ hi0 → hi0 ≤ H.next →
    ACalls Try.prog 64 [.int .i64 n, v] H (fun u H' => Up H.next H H' ∧ FrV 22 lo0 H'.next H' u (ordN (seqL 0 n) fuel y)) := by
  intro fuel
  induction fuel with
  | zero =>
    intro y v lo0 hi0 H hlen hfr hlh hhi
    refine acalls_of_awp [.tmp 4] Try.func64 (by kernel_rfl) rfl rfl (Nat.le_of_ble_eq_true rfl) (by kernel_rfl) ?_
    have hl := hfr.rd.len
    have ho := hfr.rd.one
    have e1 : ((y.length : Int) == (n : Int)) = true := by rw [show y.length = n by omega]; exact beq_self_eq_true _
    have zz : zeros 1 [.slice none 0 0] = [.slice none 0 0] := rfl
    have hc1 := cells_of_one ho
    have hc2 := noTuple_of_one ho
    try simp (disch := first | omega | (simp only [ints_length, List.length_replicate, List.length_set]; done) | (simp only [ints_length, List.length_replicate, List.length_set]; omega)) only [Sall,evalOp,init,binE,binI,unE,convE,okNil,builtE,gv,TD.isAgg,resV,↓reduceIte,Nat.reduceEqDiff,reduceCtorEq,Nat.reduceAdd,Nat.reduceMul,Nat.reduceLeDiff,quietOp,blindOp,Int.reduceEq,Int.reduceLT,Int.reduceLE,Nat.reduceLT,ti2,ti3,ti4,ti94,ti95,ti22,ti46,ti28,ti37,ti30,ti39,ti36,ti114,ti32,ti41, builtE, hl, e1, zz, ho, hc1, hc2]
    refine ⟨(Up.refl _ H).push (Nat.le_refl _) _, .inr ⟨H.next, [v], by omega, by omega, rfl, by rw [AH.push_row, if_pos rfl], rfl, fun j hj => ?_⟩⟩
    simp only [ordN, List.length_singleton] at hj
    have hj0 : j = 0 := by omega
    subst hj0
    refine ⟨v, rfl, fun H2 h2 => ?_⟩
    have hf2 : Fr 1 2 lo0 hi0 H2 v y.length y := by
      refine ⟨hfr.1, ?_⟩
      rcases hfr.2 with h3 | ⟨q, q1, q2, q3, q4⟩
      · exact .inl h3
      · exact .inr ⟨q, q1, q2, q3, h2 q _ q1 (by omega) (by omega) (by rw [AH.push_row, if_neg (by omega)]; exact q4)⟩
    exact hf2.rd
  | succ f ih =>
    intro y v lo0 hi0 H hlen hfr hlh hhi
    refine ACalls.wf (by kernel_rfl) fun hs => acalls_of_awp [.tmp 4] Try.func64 (by kernel_rfl) rfl rfl (Nat.le_of_ble_eq_true rfl) (by kernel_rfl) ?_
    have hl := hfr.rd.len
    have ho := hfr.rd.one
    have e1 : ((y.length : Int) == (n : Int)) = false := by rw [beq_eq_false_iff_ne]; omega
    have hsl : (seqL 0 n).length = n := seqL_length 0 n
    try simp (disch := first | omega | (simp only [ints_length, List.length_replicate, List.length_set]; done) | (simp only [ints_length, List.length_replicate, List.length_set]; omega)) only [Sall,evalOp,init,binE,binI,unE,convE,okNil,builtE,gv,TD.isAgg,resV,↓reduceIte,Nat.reduceEqDiff,reduceCtorEq,Nat.reduceAdd,Nat.reduceMul,Nat.reduceLeDiff,quietOp,blindOp,Int.reduceEq,Int.reduceLT,Int.reduceLE,Nat.reduceLT,ti2,ti3,ti4,ti94,ti95,ti22,ti46,ti28,ti37,ti30,ti39,ti36,ti114,ti32,ti41, builtE, hl, e1, zeros_zero]
    refine awp_loop (fun m t H' => ∃ (c : Nat) (u : Value) (hi : Nat), m = n - c ∧ c ≤ n ∧ t 6 = .int .i64 c ∧ t 5 = u ∧ t 0 = .int .i64 n ∧ t 1 = v ∧ Up H.next H H' ∧ H.next ≤ hi ∧ hi ≤ H'.next ∧ FrV 22 H.next hi H' u (ordP (seqL 0 n) f y c)) n ?_ ?_
    · refine ⟨0, .slice (some ⟨H.next, 0, some 1⟩) 0 0, H.next + 1, by omega, by omega, ?_⟩
      try simp (disch := first | omega | (simp only [ints_length, List.length_replicate, List.length_set]; done) | (simp only [ints_length, List.length_replicate, List.length_set]; omega)) only [Sall,evalOp,init,binE,binI,unE,convE,okNil,builtE,gv,TD.isAgg,resV,↓reduceIte,Nat.reduceEqDiff,reduceCtorEq,Nat.reduceAdd,Nat.reduceMul,Nat.reduceLeDiff,quietOp,blindOp,Int.reduceEq,Int.reduceLT,Int.reduceLE,Nat.reduceLT,ti2,ti3,ti4,ti94,ti95,ti22,ti46,ti28,ti37,ti30,ti39,ti36,ti114,ti32,ti41, Int.natCast_zero, ordP_zero]
      refine ⟨(Up.refl _ H).push (Nat.le_refl _) _, ?_⟩
      (repeat refine And.intro (by omega) ?_)
      exact .inr ⟨H.next, [], by omega, by omega, rfl, by rw [AH.push_row, if_pos rfl], rfl, fun j hj => by simp at hj⟩
    · rintro m t H' ⟨c, u, hi, hm, hcn, h6, h5, h0, h1, hup, hlo, hhi', hfu⟩
      try simp (disch := first | omega | (simp only [ints_length, List.length_replicate, List.length_set]; done) | (simp only [ints_length, List.length_replicate, List.length_set]; omega)) only [Sall,evalOp,init,binE,binI,unE,convE,okNil,builtE,gv,TD.isAgg,resV,↓reduceIte,Nat.reduceEqDiff,reduceCtorEq,Nat.reduceAdd,Nat.reduceMul,Nat.reduceLeDiff,quietOp,blindOp,Int.reduceEq,Int.reduceLT,Int.reduceLE,Nat.reduceLT,ti2,ti3,ti4,ti94,ti95,ti22,ti46,ti28,ti37,ti30,ti39,ti36,ti114,ti32,ti41, h6, h0]
      refine condC_dec (fun h => ?_) (fun h => ?_)
      · have hup1 := hup.next
        have hfy : Fr 1 2 lo0 hi0 H' v y.length y := hfr.same fun i _ hi => hup.row i (by omega)
        have hpre := ordP_pre (seqL 0 n) f y c (by omega)
        have hsucc := ordP_succ (seqL 0 n) f y c (by omega)
        rw [seqL_at n c (by omega)] at hsucc
        have hlen1 := seq_len_le (seqL 0 n) (f + 1) y
        have hpow : (seqL 0 n).length ^ (f + 1) ≤ 16777216 := by
          rw [hsl]
          exact Nat.le_trans (Nat.pow_le_pow_left hn _) (Nat.le_trans (Nat.pow_le_pow_right (by omega) (show f + 1 ≤ 8 by omega)) (by decide))
        obtain ⟨L3, hL3⟩ := hpre
        rw [hL3, hsucc, List.length_append, List.length_append] at hlen1
        try simp (disch := first | omega | (simp only [ints_length, List.length_replicate, List.length_set]; done) | (simp only [ints_length, List.length_replicate, List.length_set]; omega)) only [Sall,evalOp,init,binE,binI,unE,convE,okNil,builtE,gv,TD.isAgg,resV,↓reduceIte,Nat.reduceEqDiff,reduceCtorEq,Nat.reduceAdd,Nat.reduceMul,Nat.reduceLeDiff,quietOp,blindOp,Int.reduceEq,Int.reduceLT,Int.reduceLE,Nat.reduceLT,ti2,ti3,ti4,ti94,ti95,ti22,ti46,ti28,ti37,ti30,ti39,ti36,ti114,ti32,ti41, h6, h0, h1, h5]
        refine awp_loop (fun z t H2 => ∃ i : Nat, z = y.length - i ∧ i ≤ y.length ∧ t 8 = .int .i64 i ∧ t 7 = .bool ((List.range i).any fun j => y.getD j 0 == (c : Int)) ∧ t 6 = .int .i64 c ∧ t 5 = u ∧ t 0 = .int .i64 n ∧ t 1 = v ∧ H2 = H') y.length ?_ ?_
        · refine ⟨0, by omega, by omega, ?_⟩
          try simp (disch := first | omega | (simp only [ints_length, List.length_replicate, List.length_set]; done) | (simp only [ints_length, List.length_replicate, List.length_set]; omega)) only [Sall,evalOp,init,binE,binI,unE,convE,okNil,builtE,gv,TD.isAgg,resV,↓reduceIte,Nat.reduceEqDiff,reduceCtorEq,Nat.reduceAdd,Nat.reduceMul,Nat.reduceLeDiff,quietOp,blindOp,Int.reduceEq,Int.reduceLT,Int.reduceLE,Nat.reduceLT,ti2,ti3,ti4,ti94,ti95,ti22,ti46,ti28,ti37,ti30,ti39,ti36,ti114,ti32,ti41, Int.natCast_zero, h6, h5, h0, h1, List.range_zero, List.any_nil]
        · rintro z t H2 ⟨i, hz, hiy, h8, h7, h6, h5, h0, h1, rfl⟩
          have hlv := hfy.rd.len
          try simp (disch := first | omega | (simp only [ints_length, List.length_replicate, List.length_set]; done) | (simp only [ints_length, List.length_replicate, List.length_set]; omega)) only [Sall,evalOp,init,binE,binI,unE,convE,okNil,builtE,gv,TD.isAgg,resV,↓reduceIte,Nat.reduceEqDiff,reduceCtorEq,Nat.reduceAdd,Nat.reduceMul,Nat.reduceLeDiff,quietOp,blindOp,Int.reduceEq,Int.reduceLT,Int.reduceLE,Nat.reduceLT,ti2,ti3,ti4,ti94,ti95,ti22,ti46,ti28,ti37,ti30,ti39,ti36,ti114,ti32,ti41, h8, h1, builtE, hlv]
          refine condC_dec (fun hh => ?_) (fun hh => ?_)
          · obtain ⟨i7, o7, u7, c7, r7, rfl, hr7, hc7, hs7, hg7⟩ := hfy.rd.get (by omega)
            have g1 := hs7 i (by omega)
            have hra : ((List.range (i + 1)).any fun j => y.getD j 0 == (c : Int)) = (((List.range i).any fun j => y.getD j 0 == (c : Int)) || (y.getD i 0 == (c : Int))) := by rw [List.range_succ, List.any_append]; simp
            cases hk : ((List.range i).any fun j => y.getD j 0 == (c : Int)) with
            | true =>
              rw [hk] at h7
              rw [hk, Bool.true_or] at hra
              try simp (disch := first | omega | (simp only [ints_length, List.length_replicate, List.length_set]; done) | (simp only [ints_length, List.length_replicate, List.length_set]; omega)) only [Sall,evalOp,init,binE,binI,unE,convE,okNil,builtE,gv,TD.isAgg,resV,↓reduceIte,Nat.reduceEqDiff,reduceCtorEq,Nat.reduceAdd,Nat.reduceMul,Nat.reduceLeDiff,quietOp,blindOp,Int.reduceEq,Int.reduceLT,Int.reduceLE,Nat.reduceLT,ti2,ti3,ti4,ti94,ti95,ti22,ti46,ti28,ti37,ti30,ti39,ti36,ti114,ti32,ti41, h8, h7, h6, h5, h0, h1, w64]
              exact ⟨y.length - (i + 1), by omega, i + 1, rfl, by omega, rfl, by rw [hra]⟩
            | false =>
              rw [hk] at h7
              rw [hk, Bool.false_or] at hra
              try simp (disch := first | omega | (simp only [ints_length, List.length_replicate, List.length_set]; done) | (simp only [ints_length, List.length_replicate, List.length_set]; omega)) only [Sall,evalOp,init,binE,binI,unE,convE,okNil,builtE,gv,TD.isAgg,resV,↓reduceIte,Nat.reduceEqDiff,reduceCtorEq,Nat.reduceAdd,Nat.reduceMul,Nat.reduceLeDiff,quietOp,blindOp,Int.reduceEq,Int.reduceLT,Int.reduceLE,Nat.reduceLT,ti2,ti3,ti4,ti94,ti95,ti22,ti46,ti28,ti37,ti30,ti39,ti36,ti114,ti32,ti41, h8, h7, h6, h5, h0, h1, hr7, g1, w64]
              (repeat refine And.intro (by omega) ?_)
              exact ⟨y.length - (i + 1), by omega, i + 1, rfl, by omega, rfl, by rw [hra]⟩
          · have hiy2 : i = y.length := by omega
            subst hiy2
            rw [any_contains] at h7
            cases hct : y.contains (c : Int) with
            | true =>
              rw [hct] at h7
              rw [hct, if_pos rfl, List.append_nil] at hsucc
              try simp (disch := first | omega | (simp only [ints_length, List.length_replicate, List.length_set]; done) | (simp only [ints_length, List.length_replicate, List.length_set]; omega)) only [Sall,evalOp,init,binE,binI,unE,convE,okNil,builtE,gv,TD.isAgg,resV,↓reduceIte,Nat.reduceEqDiff,reduceCtorEq,Nat.reduceAdd,Nat.reduceMul,Nat.reduceLeDiff,quietOp,blindOp,Int.reduceEq,Int.reduceLT,Int.reduceLE,Nat.reduceLT,ti2,ti3,ti4,ti94,ti95,ti22,ti46,ti28,ti37,ti30,ti39,ti36,ti114,ti32,ti41, h7, Bool.not_true, h6, h5, h0, h1, w64]
              refine ⟨n - (c + 1), by omega, c + 1, u, hi, rfl, by omega, rfl, rfl, hup, hlo, hhi', ?_⟩
              rw [hsucc]; exact hfu
            | false =>
              rw [hct] at h7
              rw [hct, if_neg (by simp)] at hsucc hlen1
              have zz : zeros 1 [.int .i64 0] = [.int .i64 0] := rfl
              try simp (disch := first | omega | (simp only [ints_length, List.length_replicate, List.length_set]; done) | (simp only [ints_length, List.length_replicate, List.length_set]; omega)) only [Sall,evalOp,init,binE,binI,unE,convE,okNil,builtE,gv,TD.isAgg,resV,↓reduceIte,Nat.reduceEqDiff,reduceCtorEq,Nat.reduceAdd,Nat.reduceMul,Nat.reduceLeDiff,quietOp,blindOp,Int.reduceEq,Int.reduceLT,Int.reduceLE,Nat.reduceLT,ti2,ti3,ti4,ti94,ti95,ti22,ti46,ti28,ti37,ti30,ti39,ti36,ti114,ti32,ti41, h7, Bool.not_false, h6, h5, h0, h1]
              refine (l01Own_c v y H2 (Cp.of_fr hfy) (by omega)).mono ?_
              rintro w H3 ⟨up3, hw⟩
              have n3 := up3.next
              refine Holds.mp ?_
              try simp (disch := first | omega | (simp only [ints_length, List.length_replicate, List.length_set]; done) | (simp only [ints_length, List.length_replicate, List.length_set]; omega)) only [Sall,evalOp,init,binE,binI,unE,convE,okNil,builtE,gv,TD.isAgg,resV,↓reduceIte,Nat.reduceEqDiff,reduceCtorEq,Nat.reduceAdd,Nat.reduceMul,Nat.reduceLeDiff,quietOp,blindOp,Int.reduceEq,Int.reduceLT,Int.reduceLE,Nat.reduceLT,ti2,ti3,ti4,ti94,ti95,ti22,ti46,ti28,ti37,ti30,ti39,ti36,ti114,ti32,ti41, h6, h5, h0, h1, zz, slCells]
              obtain ⟨H4, e4⟩ : ∃ H4, H4 = H3.push ⟨2, true, [.int .i64 c]⟩ := ⟨_, rfl⟩
              have n4 : H4.next = H3.next + 1 := by rw [e4]; rfl
              have s4 : ∀ i, i < H3.next → H4.row i = H3.row i := fun i hi => by rw [e4, AH.push_row, if_neg (by omega)]
              rw [← e4]
              clear e4
              refine appE_fr (k := 1) (lo := H2.next) (hi := H3.next) (l := y) (m := [(c : Int)]) (hw.same fun i _ hi => s4 i (by omega)) rfl (by omega) rfl (by omega) (by decide) (by omega) (by omega) ?_
              intro v' H5 n5 s5 f5
              have hl1 : (y ++ [(c : Int)]).length = y.length + 1 := by simp
              rw [← hl1] at f5
              have old : ∀ i, i < H2.next → H5.row i = H2.row i := fun i hi => by rw [s5 i (by omega) (by omega), s4 i (by omega), up3.row i hi]
              try simp (disch := first | omega | (simp only [ints_length, List.length_replicate, List.length_set]; done) | (simp only [ints_length, List.length_replicate, List.length_set]; omega)) only [Sall,evalOp,init,binE,binI,unE,convE,okNil,builtE,gv,TD.isAgg,resV,↓reduceIte,Nat.reduceEqDiff,reduceCtorEq,Nat.reduceAdd,Nat.reduceMul,Nat.reduceLeDiff,quietOp,blindOp,Int.reduceEq,Int.reduceLT,Int.reduceLE,Nat.reduceLT,ti2,ti3,ti4,ti94,ti95,ti22,ti46,ti28,ti37,ti30,ti39,ti36,ti114,ti32,ti41, h6, h5, h0, h1]
              refine (ih (y ++ [(c : Int)]) v' H4.next (H4.next + 1) H5 (by omega) f5 (by omega) (by omega)).mono ?_
              rintro u6 H6 ⟨up6, hf6⟩
              have n6 := up6.next
              refine Holds.mp ?_
              try simp (disch := first | omega | (simp only [ints_length, List.length_replicate, List.length_set]; done) | (simp only [ints_length, List.length_replicate, List.length_set]; omega)) only [Sall,evalOp,init,binE,binI,unE,convE,okNil,builtE,gv,TD.isAgg,resV,↓reduceIte,Nat.reduceEqDiff,reduceCtorEq,Nat.reduceAdd,Nat.reduceMul,Nat.reduceLeDiff,quietOp,blindOp,Int.reduceEq,Int.reduceLT,Int.reduceLE,Nat.reduceLT,ti2,ti3,ti4,ti94,ti95,ti22,ti46,ti28,ti37,ti30,ti39,ti36,ti114,ti32,ti41, h6, h5, h0, h1]
              refine appE_frV (lo := H.next) (hi := hi) (lo' := H4.next) (hi' := H6.next) (hfu.same fun i _ hi => by rw [up6.row i (by omega), old i (by omega)]) hf6 rfl (by decide) (by omega) hlo (by omega) (Nat.le_refl _) (by omega) ?_
              intro v7 H7 n7 s7 f7
              try simp (disch := first | omega | (simp only [ints_length, List.length_replicate, List.length_set]; done) | (simp only [ints_length, List.length_replicate, List.length_set]; omega)) only [Sall,evalOp,init,binE,binI,unE,convE,okNil,builtE,gv,TD.isAgg,resV,↓reduceIte,Nat.reduceEqDiff,reduceCtorEq,Nat.reduceAdd,Nat.reduceMul,Nat.reduceLeDiff,quietOp,blindOp,Int.reduceEq,Int.reduceLT,Int.reduceLE,Nat.reduceLT,ti2,ti3,ti4,ti94,ti95,ti22,ti46,ti28,ti37,ti30,ti39,ti36,ti114,ti32,ti41, h6, h5, h0, h1, w64]
              refine ⟨n - (c + 1), by omega, c + 1, v7, H7.next, rfl, by omega, rfl, rfl, ⟨by omega, fun i hi => ?_⟩, by omega, Nat.le_refl _, ?_⟩
              · rw [s7 i (by omega) (by omega), up6.row i (by omega), old i (by omega), hup.row i hi]
              · rw [hsucc]; exact f7
      · have hc : c = n := by omega
        subst hc
        have hall := ordP_all (seqL 0 c) f y
        rw [hsl] at hall
        rw [hall] at hfu
        try simp (disch := first | omega | (simp only [ints_length, List.length_replicate, List.length_set]; done) | (simp only [ints_length, List.length_replicate, List.length_set]; omega)) only [Sall,evalOp,init,binE,binI,unE,convE,okNil,builtE,gv,TD.isAgg,resV,↓reduceIte,Nat.reduceEqDiff,reduceCtorEq,Nat.reduceAdd,Nat.reduceMul,Nat.reduceLeDiff,quietOp,blindOp,Int.reduceEq,Int.reduceLT,Int.reduceLE,Nat.reduceLT,ti2,ti3,ti4,ti94,ti95,ti22,ti46,ti28,ti37,ti30,ti39,ti36,ti114,ti32,ti41, h5]
        exact ⟨hup, hfu.wide (by omega) hhi'⟩

theorem isDig_cases {n : Int} (h : isDig n = true) : ∃ k : Nat, n = k ∧ k ∈ [2, 4, 8] ∧ 2 ≤ k ∧ k ≤ 8 := by
  have h := of_decide_eq_true h
  rcases h with rfl | rfl | rfl
  · exact ⟨2, rfl, by simp, by omega, by omega⟩
  · exact ⟨4, rfl, by simp, by omega, by omega⟩
  · exact ⟨8, rfl, by simp, by omega, by omega⟩

/-- What is known while orders are walked: nothing is found yet, or the last one. -/
def FdS (n : Nat) (fc : Nat) (Hc : AH) (es : List (List Int)) (H : AH) : Prop :=
  Hc.next ≤ H.next ∧ (∀ i, i < Hc.next → ¬ i = fc → H.row i = Hc.row i) ∧ ∃ fv, H.row fc = some ⟨22, true, [fv]⟩ ∧
    (((∀ z ∈ es, balD n z = false) ∧ fv = .slice none 0 0) ∨ ∃ es' z fi, es = es' ++ [z] ∧ balD n z = true ∧ Hc.next ≤ fi ∧ fi < H.next ∧ ¬ fi = fc ∧ fv = .slice (some ⟨fi, 0, some 1⟩) z.length z.length ∧ H.row fi = some ⟨2, true, ints z⟩)

theorem fdClosure_c (n : Nat) (hn : n ∈ [2, 4, 8]) (nc fc : Nat) (Hc : AH) (hnc : Hc.row nc = some ⟨2, true, [.int .i64 n]⟩) (hncn : nc < Hc.next) (hne : ¬ nc = fc) (hfc : fc < Hc.next) (es : List (List Int)) (y : List Int) (v : Value) (H : AH) (hS : FdS n fc Hc es H) (hes : ∀ z ∈ es, balD n z = false)
    (hy : ∀ x ∈ y, 0 ≤ x ∧ x < n) (hyl : 0 < y.length ∧ y.length ≤ 40) (hv : Cp H v y) :
    ACalls Try.prog 71 [v, .pointer (some ⟨nc, 0, none⟩), .pointer (some ⟨fc, 0, none⟩)] H (fun r H' => r = .bool (!balD n y) ∧ FdS n fc Hc (es ++ [y]) H' ∧ H.next ≤ H'.next ∧ ∀ i, i < H.next → ¬ i = fc → H'.row i = H.row i) := by
  refine ACalls.wf (by kernel_rfl) fun hs => acalls_of_awp [.tmp 4] Try.func71 (by kernel_rfl) rfl rfl (Nat.le_of_ble_eq_true rfl) (by kernel_rfl) ?_
  obtain ⟨hnx, hrow, fv, hfv, hcase⟩ := hS
  have hnil : fv = .slice none 0 0 := by
    rcases hcase with ⟨_, h⟩ | ⟨es', z, fi, e, hz, _⟩
    · exact h
    · have := hes z (by rw [e]; simp)
      rw [this] at hz; cases hz
  subst hnil
  have hnc' : H.row nc = some ⟨2, true, [.int .i64 n]⟩ := by rw [hrow _ hncn hne]; exact hnc
  have hn14 : n ≤ 14 := by simp only [List.mem_cons, List.not_mem_nil, or_false] at hn; omega
  have hsch := digL_ok hn hy hyl.2
  try simp (disch := first | omega | (simp only [ints_length, List.length_replicate, List.length_set]; done) | (simp only [ints_length, List.length_replicate, List.length_set]; omega)) only [Sall,evalOp,init,binE,binI,unE,convE,okNil,builtE,gv,TD.isAgg,resV,↓reduceIte,Nat.reduceEqDiff,reduceCtorEq,Nat.reduceAdd,Nat.reduceMul,Nat.reduceLeDiff,quietOp,blindOp,Int.reduceEq,Int.reduceLT,Int.reduceLE,Nat.reduceLT,ti2,ti3,ti4,ti94,ti95,ti22,ti46,ti28,ti37,ti30,ti39,ti36,ti114,ti32,ti41, hnc']
  refine (digitRobin_c n v y H hn14 hv.1 (by omega)).ex ?_
  rintro u H1 ⟨up1, hf1⟩
  have n1 := up1.next
  try simp (disch := first | omega | (simp only [ints_length, List.length_replicate, List.length_set]; done) | (simp only [ints_length, List.length_replicate, List.length_set]; omega)) only [Sall,evalOp,init,binE,binI,unE,convE,okNil,builtE,gv,TD.isAgg,resV,↓reduceIte,Nat.reduceEqDiff,reduceCtorEq,Nat.reduceAdd,Nat.reduceMul,Nat.reduceLeDiff,quietOp,blindOp,Int.reduceEq,Int.reduceLT,Int.reduceLE,Nat.reduceLT,ti2,ti3,ti4,ti94,ti95,ti22,ti46,ti28,ti37,ti30,ti39,ti36,ti114,ti32,ti41, true_and]
  refine (carry_c n u y.length (digL n y) H1 hsch hf1.rd (by omega)).mono ?_
  rintro w H2 ⟨up2, hf2⟩
  have n2 := up2.next
  have hsq := carM_sq (rnd_toNat hsch) y.length (Nat.le_refl _)
  have old : ∀ i, i < H.next → H2.row i = H.row i := fun i hi => by rw [up2.row i (by omega), up1.row i hi]
  refine Holds.mp ?_
  try simp (disch := first | omega | (simp only [ints_length, List.length_replicate, List.length_set]; done) | (simp only [ints_length, List.length_replicate, List.length_set]; omega)) only [Sall,evalOp,init,binE,binI,unE,convE,okNil,builtE,gv,TD.isAgg,resV,↓reduceIte,Nat.reduceEqDiff,reduceCtorEq,Nat.reduceAdd,Nat.reduceMul,Nat.reduceLeDiff,quietOp,blindOp,Int.reduceEq,Int.reduceLT,Int.reduceLE,Nat.reduceLT,ti2,ti3,ti4,ti94,ti95,ti22,ti46,ti28,ti37,ti30,ti39,ti36,ti114,ti32,ti41, true_and]
  refine (areAllOnce_c w n _ H2 hf2.rd hsq (by omega)).to ?_
  have hbal : balB (carM n y.length (digL n y) y.length) = balD n y := rfl
  rw [hbal]
  cases hb : balD n y with
  | true =>
    try simp (disch := first | omega | (simp only [ints_length, List.length_replicate, List.length_set]; done) | (simp only [ints_length, List.length_replicate, List.length_set]; omega)) only [Sall,evalOp,init,binE,binI,unE,convE,okNil,builtE,gv,TD.isAgg,resV,↓reduceIte,Nat.reduceEqDiff,reduceCtorEq,Nat.reduceAdd,Nat.reduceMul,Nat.reduceLeDiff,quietOp,blindOp,Int.reduceEq,Int.reduceLT,Int.reduceLE,Nat.reduceLT,ti2,ti3,ti4,ti94,ti95,ti22,ti46,ti28,ti37,ti30,ti39,ti36,ti114,ti32,ti41, true_and]
    refine (cloneI_c v y H2 ⟨hv.1.same fun i r hir => by rw [old i (hs _ _ hir)]; exact hir, fun h0 => by omega⟩ (by omega)).mono ?_
    rintro x H3 ⟨up3, hf3⟩
    have n3 := up3.next
    obtain ⟨fi, q1, q2, rfl, q3⟩ := hf3.get hyl.1
    have old3 : ∀ i, i < H.next → H3.row i = H.row i := fun i hi => by rw [up3.row i (by omega), old i hi]
    have hfc3 : H3.row fc = some ⟨22, true, [.slice none 0 0]⟩ := by rw [old3 _ (by omega)]; exact hfv
    refine Holds.mp ?_
    try simp (disch := first | omega | (simp only [ints_length, List.length_replicate, List.length_set]; done) | (simp only [ints_length, List.length_replicate, List.length_set]; omega)) only [Sall,evalOp,init,binE,binI,unE,convE,okNil,builtE,gv,TD.isAgg,resV,↓reduceIte,Nat.reduceEqDiff,reduceCtorEq,Nat.reduceAdd,Nat.reduceMul,Nat.reduceLeDiff,quietOp,blindOp,Int.reduceEq,Int.reduceLT,Int.reduceLE,Nat.reduceLT,ti2,ti3,ti4,ti94,ti95,ti22,ti46,ti28,ti37,ti30,ti39,ti36,ti114,ti32,ti41, hfc3, binE]
    refine ⟨⟨by simp only [AH.setCells_next]; omega, fun i hi1 hi => by rw [AH.setCells_row, if_neg hi, old3 i (by omega), hrow i hi1 hi], _, by rw [AH.setCells_row, if_pos rfl, hfc3]; rfl, .inr ⟨es, y, fi, rfl, hb, by omega, by simp only [AH.setCells_next]; omega, by omega, rfl, by rw [AH.setCells_row, if_neg (by omega)]; exact q3⟩⟩, by omega, fun i hi1 hi => by rw [if_neg hi, old3 i hi1]⟩
  | false =>
    have hfc2 : H2.row fc = some ⟨22, true, [.slice none 0 0]⟩ := by rw [old _ (by omega)]; exact hfv
    try simp (disch := first | omega | (simp only [ints_length, List.length_replicate, List.length_set]; done) | (simp only [ints_length, List.length_replicate, List.length_set]; omega)) only [Sall,evalOp,init,binE,binI,unE,convE,okNil,builtE,gv,TD.isAgg,resV,↓reduceIte,Nat.reduceEqDiff,reduceCtorEq,Nat.reduceAdd,Nat.reduceMul,Nat.reduceLeDiff,quietOp,blindOp,Int.reduceEq,Int.reduceLT,Int.reduceLE,Nat.reduceLT,ti2,ti3,ti4,ti94,ti95,ti22,ti46,ti28,ti37,ti30,ti39,ti36,ti114,ti32,ti41, hfc2, binE, Option.isNone_none, Bool.not_false]
    refine ⟨⟨by omega, fun i hi1 hi => by rw [old i (by omega), hrow i hi1 hi], _, hfc2, .inl ⟨fun z hz => (List.mem_append.1 hz).elim (hes z) fun h => by rw [List.mem_singleton] at h; rw [h, hb], rfl⟩⟩, by omega, fun i hi1 _ => old i hi1⟩

theorem FirstDigitOrder_c (q : Int) (H : AH) (hq : -9223372036854775808 ≤ q ∧ q ≤ 9223372036854775807) :
    ACalls Try.prog 30 [.int .i64 q] H (fun r H' => ∃ u, r = .tuple #[u, .int .i64 (fdC q)] ∧ Up H.next H H' ∧ Fr 1 2 H.next H'.next H' u (fdR q).length (fdR q)) := by
  refine ACalls.wf (by kernel_rfl) fun hs => acalls_of_awp [.tmp 2, .tmp 3] Try.func30 (by kernel_rfl) rfl rfl (Nat.le_of_ble_eq_true rfl) (by kernel_rfl) ?_
  try simp (disch := first | omega | (simp only [ints_length, List.length_replicate, List.length_set]; done) | (simp only [ints_length, List.length_replicate, List.length_set]; omega)) only [Sall,evalOp,init,binE,binI,unE,convE,okNil,builtE,gv,TD.isAgg,resV,↓reduceIte,Nat.reduceEqDiff,reduceCtorEq,Nat.reduceAdd,Nat.reduceMul,Nat.reduceLeDiff,quietOp,blindOp,Int.reduceEq,Int.reduceLT,Int.reduceLE,Nat.reduceLT,ti2,ti3,ti4,ti94,ti95,ti22,ti46,ti28,ti37,ti30,ti39,ti36,ti114,ti32,ti41, true_and]
  refine (isDigit_c q _).to ?_
  have eq0 : decide (q = 2 ∨ q = 4 ∨ q = 8) = isDig q := rfl
  rw [eq0]
  cases hd : isDig q with
  | false =>
    try simp (disch := first | omega | (simp only [ints_length, List.length_replicate, List.length_set]; done) | (simp only [ints_length, List.length_replicate, List.length_set]; omega)) only [Sall,evalOp,init,binE,binI,unE,convE,okNil,builtE,gv,TD.isAgg,resV,↓reduceIte,Nat.reduceEqDiff,reduceCtorEq,Nat.reduceAdd,Nat.reduceMul,Nat.reduceLeDiff,quietOp,blindOp,Int.reduceEq,Int.reduceLT,Int.reduceLE,Nat.reduceLT,ti2,ti3,ti4,ti94,ti95,ti22,ti46,ti28,ti37,ti30,ti39,ti36,ti114,ti32,ti41, Bool.not_false]
    unfold fdC fdR
    rw [hd]
    exact ⟨_, rfl, (Up.refl _ H).push (Nat.le_refl _) _, ⟨rfl, .inl ⟨rfl, rfl⟩⟩⟩
  | true =>
    obtain ⟨n, rfl, hn, hn2, hn8⟩ := isDig_cases hd
    try simp (disch := first | omega | (simp only [ints_length, List.length_replicate, List.length_set]; done) | (simp only [ints_length, List.length_replicate, List.length_set]; omega)) only [Sall,evalOp,init,binE,binI,unE,convE,okNil,builtE,gv,TD.isAgg,resV,↓reduceIte,Nat.reduceEqDiff,reduceCtorEq,Nat.reduceAdd,Nat.reduceMul,Nat.reduceLeDiff,quietOp,blindOp,Int.reduceEq,Int.reduceLT,Int.reduceLE,Nat.reduceLT,ti2,ti3,ti4,ti94,ti95,ti22,ti46,ti28,ti37,ti30,ti39,ti36,ti114,ti32,ti41, Bool.not_true, w64]
    obtain ⟨H1, e1⟩ : ∃ H1, H1 = (H.push ⟨2, true, [.int .i64 n]⟩).push ⟨22, true, [.slice none 0 0]⟩ := ⟨_, rfl⟩
    have up1 : Up H.next H H1 := by rw [e1]; exact ((Up.refl _ H).push (by omega) _).push (by simp only [AH.push_next]; omega) _
    have n1 : H1.next = H.next + 2 := by rw [e1]; rfl
    have r0 : H1.row H.next = some ⟨2, true, [.int .i64 n]⟩ := by rw [e1]; (simp [AH.setCells_row, AH.push_row, AH.push_next] <;> (try omega) <;> (repeat rw [if_neg (by omega)]))
    have r1 : H1.row (H.next + 1) = some ⟨22, true, [.slice none 0 0]⟩ := by rw [e1]; (simp [AH.setCells_row, AH.push_row, AH.push_next] <;> (try omega) <;> (repeat rw [if_neg (by omega)]))
    rw [← e1]
    clear e1
    refine (numbersFrom_c 1 ((n : Int) - 1) (n - 1) (by omega) (by omega) (by omega) H1).sc.mono ?_
    rintro nv Hc ⟨⟨upc, hfc⟩, scc⟩
    have nc := upc.next
    have hnl : (seqL 1 (n - 1)).length = n - 1 := seqL_length _ _
    have hc0 : Hc.row H.next = some ⟨2, true, [.int .i64 n]⟩ := by rw [upc.row _ (by omega), r0]
    have hc1 : Hc.row (H.next + 1) = some ⟨22, true, [.slice none 0 0]⟩ := by rw [upc.row _ (by omega), r1]
    refine Holds.mp ?_
    try simp (disch := first | omega | (simp only [ints_length, List.length_replicate, List.length_set]; done) | (simp only [ints_length, List.length_replicate, List.length_set]; omega)) only [Sall,evalOp,init,binE,binI,unE,convE,okNil,builtE,gv,TD.isAgg,resV,↓reduceIte,Nat.reduceEqDiff,reduceCtorEq,Nat.reduceAdd,Nat.reduceMul,Nat.reduceLeDiff,quietOp,blindOp,Int.reduceEq,Int.reduceLT,Int.reduceLE,Nat.reduceLT,ti2,ti3,ti4,ti94,ti95,ti22,ti46,ti28,ti37,ti30,ti39,ti36,ti114,ti32,ti41, List.mem_cons, List.not_mem_nil, or_false, forall_eq_or_imp, forall_eq, Array.size_empty]
    have hnvB : Rd 1 (Hc.drop (H.next + 1)) nv (seqL 1 (n - 1)).length (seqL 1 (n - 1)) := by
      rw [hnl]
      exact (hfc.same (H' := Hc.drop (H.next + 1)) fun i hi _ => by rw [AH.drop_row, if_neg (by omega)]).rd
    refine (orders_c 71 [.pointer (some ⟨H.next, 0, none⟩), .pointer (some ⟨H.next + 1, 0, none⟩)] (fun y => !balD n y) (fun y => ∀ x ∈ y, 0 ≤ x ∧ x < n) (FdS n (H.next + 1) Hc) (H.next + 2) nv (seqL 1 (n - 1)) (Hc.drop (H.next + 1)) hnvB (by omega) ?_ ?_ ?_ ?_ (n - 1) [] [] (.slice none 0 0) Hc (by simp [hnl]) ⟨Nat.le_refl _, fun i _ _ => rfl, _, hc1, .inl ⟨by simp, rfl⟩⟩ (by simp) (by omega) (Per.nil _ _) (by simp)).mono ?_
    · rintro es H' ⟨_, h2, _⟩ i r hir
      rw [AH.drop_row] at hir
      split at hir
      · cases hir
      · rename_i hne; rw [h2 i (scc _ _ hir) hne]; exact hir
    · rintro es Ha Hb ⟨a1, a2, fv, a3, a4⟩ hn2 hr2
      refine ⟨by omega, fun i hi1 hi => by rw [hr2 _ (by omega), a2 i hi1 hi], fv, by rw [hr2 _ (by omega)]; exact a3, ?_⟩
      rcases a4 with a4 | ⟨es', z, fi, b1, b2, b3, b4, b5, b6, b7⟩
      · exact .inl a4
      · exact .inr ⟨es', z, fi, b1, b2, b3, by omega, b5, b6, by rw [hr2 _ (by omega)]; exact b7⟩
    · intro y x hy hx _ z hz
      rcases List.mem_append.1 hz with hz | hz
      · exact hy z hz
      · rw [List.mem_singleton] at hz
        subst hz
        have := mem_seqL hx
        omega
    · intro es y v Ha hS hall _ hyl hy hcp
      refine (fdClosure_c n hn _ _ Hc hc0 (by omega) (by omega) (by omega) es y v Ha hS (fun z hz => by have := hall z hz; simpa using this) hy (by omega) hcp).mono ?_
      rintro r Hb ⟨g1, g2, g3, g4⟩
      exact ⟨g1, g2, g3, fun i hi hi2 => g4 i hi2 (by omega)⟩
    · rintro rr H' ⟨n', rows', hcase⟩
      refine Holds.mp ?_
      unfold fdC fdR
      rw [hd, if_pos rfl, if_pos rfl, Int.toNat_natCast]
      have upF : ∀ H' : AH, Hc.next ≤ H'.next → (∀ i, i < Hc.next → ¬ i = H.next + 1 → H'.row i = Hc.row i) → Up H.next H H' := fun H' h1 h2 =>
        ⟨by omega, fun i hi => by rw [h2 i (by omega) (by omega), upc.row i (by omega), up1.row i hi]⟩
      rcases hcase with ⟨rfl, q1, q2⟩ | ⟨rfl, L1, z, L2, q1, q2, q3, q4⟩
      · obtain ⟨s1, s2, fv, s3, s4⟩ := q2
        have hnone : (digOrders (n - 1)).find? (balD n) = none := by
          rw [List.find?_eq_none]
          intro z hz
          have := q1 z hz
          simpa using this
        have hnil : fv = .slice none 0 0 := by
          rcases s4 with ⟨_, h⟩ | ⟨es', z, fi, e, hz, _⟩
          · exact h
          · have h5 : (!balD n z) = true := q1 z (by rw [← List.nil_append (ordN _ _ _), e]; simp)
            rw [hz] at h5; cases h5
        subst hnil
        rw [hnone]
        try simp (disch := first | omega | (simp only [ints_length, List.length_replicate, List.length_set]; done) | (simp only [ints_length, List.length_replicate, List.length_set]; omega)) only [Sall,evalOp,init,binE,binI,unE,convE,okNil,builtE,gv,TD.isAgg,resV,↓reduceIte,Nat.reduceEqDiff,reduceCtorEq,Nat.reduceAdd,Nat.reduceMul,Nat.reduceLeDiff,quietOp,blindOp,Int.reduceEq,Int.reduceLT,Int.reduceLE,Nat.reduceLT,ti2,ti3,ti4,ti94,ti95,ti22,ti46,ti28,ti37,ti30,ti39,ti36,ti114,ti32,ti41, s3, binE, Option.isNone_none]
        exact ⟨_, rfl, upF _ s1 s2, ⟨rfl, .inl ⟨rfl, rfl⟩⟩⟩
      · obtain ⟨s1, s2, fv, s3, s4⟩ := q4
        have hz : balD n z = true := by simpa using q3
        have hsome : (digOrders (n - 1)).find? (balD n) = some z := by
          unfold digOrders
          rw [q1]
          exact find_first (fun w hw => by have := q2 w hw; simpa using this) hz
        rw [hsome]
        rcases s4 with ⟨h, _⟩ | ⟨es', z', fi, e, _, b3, b4, b5, b6, b7⟩
        · have := h z (by simp)
          rw [this] at hz; cases hz
        · have hzz : z' = z := by
            have h1 := congrArg List.getLast? e
            simp at h1
            exact h1.symm
          subst hzz
          subst b6
          try simp (disch := first | omega | (simp only [ints_length, List.length_replicate, List.length_set]; done) | (simp only [ints_length, List.length_replicate, List.length_set]; omega)) only [Sall,evalOp,init,binE,binI,unE,convE,okNil,builtE,gv,TD.isAgg,resV,↓reduceIte,Nat.reduceEqDiff,reduceCtorEq,Nat.reduceAdd,Nat.reduceMul,Nat.reduceLeDiff,quietOp,blindOp,Int.reduceEq,Int.reduceLT,Int.reduceLE,Nat.reduceLT,ti2,ti3,ti4,ti94,ti95,ti22,ti46,ti28,ti37,ti30,ti39,ti36,ti114,ti32,ti41, s3, binE]
          exact ⟨_, rfl, upF _ s1 s2, ⟨by simp, .inr ⟨fi, by omega, b4, rfl, b7⟩⟩⟩

theorem specFirstDigitOrder_c (q : Int) (H : AH) (hq : -9223372036854775808 ≤ q ∧ q ≤ 9223372036854775807) :
    ACalls Try.prog 29 [.int .i64 q] H (fun r H' => ∃ u, r = .tuple #[u, .int .i64 (fdC q)] ∧ Up H.next H H' ∧ Fr 1 2 H.next H'.next H' u (fdR q).length (fdR q)) := by
  refine acalls_of_awp [.tmp 2, .tmp 3] Try.func29 (by kernel_rfl) rfl rfl (Nat.le_of_ble_eq_true rfl) (by kernel_rfl) ?_
  cases hd : isDig q with
  | false =>
    have h := of_decide_eq_false hd
    have e2 : (q != 2) = true := by rw [bne_iff_ne]; omega
    have e4 : (q != 4) = true := by rw [bne_iff_ne]; omega
    have e8 : (q != 8) = true := by rw [bne_iff_ne]; omega
    try simp (disch := first | omega | (simp only [ints_length, List.length_replicate, List.length_set]; done) | (simp only [ints_length, List.length_replicate, List.length_set]; omega)) only [Sall,evalOp,init,binE,binI,unE,convE,okNil,builtE,gv,TD.isAgg,resV,↓reduceIte,Nat.reduceEqDiff,reduceCtorEq,Nat.reduceAdd,Nat.reduceMul,Nat.reduceLeDiff,quietOp,blindOp,Int.reduceEq,Int.reduceLT,Int.reduceLE,Nat.reduceLT,ti2,ti3,ti4,ti94,ti95,ti22,ti46,ti28,ti37,ti30,ti39,ti36,ti114,ti32,ti41, e2, e4, e8]
    unfold fdC fdR
    rw [hd]
    exact ⟨_, rfl, Up.refl _ _, ⟨rfl, .inl ⟨rfl, rfl⟩⟩⟩
  | true =>
    obtain ⟨n, rfl, hn, hn2, hn8⟩ := isDig_cases hd
    have hneq : (((n : Int) != 2) = false ∧ ((n : Int) != 4) = true ∧ ((n : Int) != 8) = true) ∨ (((n : Int) != 2) = true ∧ ((n : Int) != 4) = false ∧ ((n : Int) != 8) = true) ∨ (((n : Int) != 2) = true ∧ ((n : Int) != 4) = true ∧ ((n : Int) != 8) = false) := by
      simp only [List.mem_cons, List.not_mem_nil, or_false] at hn
      rcases hn with rfl | rfl | rfl
      · exact .inl ⟨rfl, rfl, rfl⟩
      · exact .inr (.inl ⟨rfl, rfl, rfl⟩)
      · exact .inr (.inr ⟨rfl, rfl, rfl⟩)
    have em : ((n : Int) - 1) = ((n - 1 : Nat) : Int) := by omega
    have hmap := digOrders_map (n - 1)
    have hmem : ∀ z ∈ ordN (seqL 0 (n - 1)) (n - 1) [], z.length = n - 1 ∧ ∀ x ∈ z, 0 ≤ x ∧ x < (n : Int) - 1 := fun z hz => by
      obtain ⟨h1, h2⟩ := ordN_mem _ _ _ hz
      refine ⟨by rw [h1]; simp, fun x hx => ?_⟩
      rcases h2 x hx with h3 | h3
      · simp at h3
      · have := mem_seqL h3; omega
    have hlenL : (ordN (seqL 0 (n - 1)) (n - 1) []).length ≤ 16777216 := by
      refine Nat.le_trans (seq_len_le _ _ _) ?_
      rw [seqL_length]
      exact Nat.le_trans (Nat.pow_le_pow_left (show n - 1 ≤ 8 by omega) _) (Nat.le_trans (Nat.pow_le_pow_right (by omega) (show n - 1 ≤ 8 by omega)) (by decide))
    unfold fdC fdR
    rw [hd, if_pos rfl, if_pos rfl, Int.toNat_natCast, hmap]
    have orders := l09Orders_c (n - 1) (by omega) (n - 1) [] (.slice (some ⟨H.next, 0, some 1⟩) 0 0) H.next (H.next + 1) (H.push ⟨2, true, []⟩) (by simp) ⟨rfl, .inr ⟨H.next, by omega, by omega, rfl, by rw [AH.push_row, if_pos rfl]; rfl⟩⟩ (by omega) (by rw [AH.push_next]; omega)
    revert orders hmem hlenL
    generalize ordN (seqL 0 (n - 1)) (n - 1) [] = L
    intro hmem hlenL orders
    refine Holds.mp ?_
    rcases hneq with ⟨e2, e4, e8⟩ | ⟨e2, e4, e8⟩ | ⟨e2, e4, e8⟩ <;> rw [holds_def]
    all_goals
      try simp (disch := first | omega | (simp only [ints_length, List.length_replicate, List.length_set]; done) | (simp only [ints_length, List.length_replicate, List.length_set]; omega)) only [Sall,evalOp,init,binE,binI,unE,convE,okNil,builtE,gv,TD.isAgg,resV,↓reduceIte,Nat.reduceEqDiff,reduceCtorEq,Nat.reduceAdd,Nat.reduceMul,Nat.reduceLeDiff,quietOp,blindOp,Int.reduceEq,Int.reduceLT,Int.reduceLE,Nat.reduceLT,ti2,ti3,ti4,ti94,ti95,ti22,ti46,ti28,ti37,ti30,ti39,ti36,ti114,ti32,ti41, e2, e4, e8, w64, em, zeros_zero]
      refine orders.mono ?_
      rintro u H2 ⟨up2, hf⟩
      have n2 := up2.next
      rw [AH.push_next] at n2
      have u2 : Up H.next H H2 := ((Up.refl _ H).push (Nat.le_refl _) _).trans up2 (by rw [AH.push_next]; omega)
      refine Holds.mp ?_
      try simp (disch := first | omega | (simp only [ints_length, List.length_replicate, List.length_set]; done) | (simp only [ints_length, List.length_replicate, List.length_set]; omega)) only [Sall,evalOp,init,binE,binI,unE,convE,okNil,builtE,gv,TD.isAgg,resV,↓reduceIte,Nat.reduceEqDiff,reduceCtorEq,Nat.reduceAdd,Nat.reduceMul,Nat.reduceLeDiff,quietOp,blindOp,Int.reduceEq,Int.reduceLT,Int.reduceLE,Nat.reduceLT,ti2,ti3,ti4,ti94,ti95,ti22,ti46,ti28,ti37,ti30,ti39,ti36,ti114,ti32,ti41, true_and]
      refine awp_loop (fun m t H' => ∃ i : Nat, m = L.length - i ∧ i ≤ L.length ∧ t 5 = .int .i64 i ∧ t 4 = u ∧ t 0 = .int .i64 n ∧ Up H.next H H' ∧ H2.next ≤ H'.next ∧ FrV 22 H.next H2.next H' u L ∧ (∀ j, j < i → balD n (up1 (L.getD j [])) = false)) L.length ?_ ?_
      · refine ⟨0, by omega, by omega, ?_⟩
        try simp (disch := first | omega | (simp only [ints_length, List.length_replicate, List.length_set]; done) | (simp only [ints_length, List.length_replicate, List.length_set]; omega)) only [Sall,evalOp,init,binE,binI,unE,convE,okNil,builtE,gv,TD.isAgg,resV,↓reduceIte,Nat.reduceEqDiff,reduceCtorEq,Nat.reduceAdd,Nat.reduceMul,Nat.reduceLeDiff,quietOp,blindOp,Int.reduceEq,Int.reduceLT,Int.reduceLE,Nat.reduceLT,ti2,ti3,ti4,ti94,ti95,ti22,ti46,ti28,ti37,ti30,ti39,ti36,ti114,ti32,ti41, Int.natCast_zero, Nat.not_lt_zero, false_implies]
        exact ⟨u2, hf⟩
      · rintro m t H' ⟨i, hm, hiL, h5, h4, h0, hup, hnx, hfu, hall⟩
        have hlu := hfu.rd.len
        try simp (disch := first | omega | (simp only [ints_length, List.length_replicate, List.length_set]; done) | (simp only [ints_length, List.length_replicate, List.length_set]; omega)) only [Sall,evalOp,init,binE,binI,unE,convE,okNil,builtE,gv,TD.isAgg,resV,↓reduceIte,Nat.reduceEqDiff,reduceCtorEq,Nat.reduceAdd,Nat.reduceMul,Nat.reduceLeDiff,quietOp,blindOp,Int.reduceEq,Int.reduceLT,Int.reduceLE,Nat.reduceLT,ti2,ti3,ti4,ti94,ti95,ti22,ti46,ti28,ti37,ti30,ti39,ti36,ti114,ti32,ti41, h5, h4, builtE, hlu]
        refine condC_dec (fun h => ?_) (fun h => ?_)
        · obtain ⟨hyl, hyx⟩ := hmem _ (getD_mem (ll := L) (a := i) (by omega))
          have hup1 := hup.next
          revert hyl hyx
          obtain ⟨y, ey⟩ : ∃ y, y = L.getD i [] := ⟨_, rfl⟩
          rw [← ey]
          intro hyl hyx
          try simp (disch := first | omega | (simp only [ints_length, List.length_replicate, List.length_set]; done) | (simp only [ints_length, List.length_replicate, List.length_set]; omega)) only [Sall,evalOp,init,binE,binI,unE,convE,okNil,builtE,gv,TD.isAgg,resV,↓reduceIte,Nat.reduceEqDiff,reduceCtorEq,Nat.reduceAdd,Nat.reduceMul,Nat.reduceLeDiff,quietOp,blindOp,Int.reduceEq,Int.reduceLT,Int.reduceLE,Nat.reduceLT,ti2,ti3,ti4,ti94,ti95,ti22,ti46,ti28,ti37,ti30,ti39,ti36,ti114,ti32,ti41, h5, h4, h0, zeros_zero]
          refine awp_loop (fun z t H3 => ∃ (k : Nat) (w : Value) (lo hi : Nat), z = y.length - k ∧ k ≤ y.length ∧ t 7 = .int .i64 k ∧ t 6 = w ∧ t 5 = .int .i64 i ∧ t 4 = u ∧ t 0 = .int .i64 n ∧ H'.next ≤ lo ∧ lo ≤ hi ∧ hi ≤ H3.next ∧ (∀ z, z < H'.next → H3.row z = H'.row z) ∧ Fr 1 2 lo hi H3 w k (up1 (y.take k))) y.length ?_ ?_
          · refine ⟨0, .slice (some ⟨H'.next, 0, some 1⟩) 0 0, H'.next, H'.next + 1, by omega, by omega, ?_⟩
            try simp (disch := first | omega | (simp only [ints_length, List.length_replicate, List.length_set]; done) | (simp only [ints_length, List.length_replicate, List.length_set]; omega)) only [Sall,evalOp,init,binE,binI,unE,convE,okNil,builtE,gv,TD.isAgg,resV,↓reduceIte,Nat.reduceEqDiff,reduceCtorEq,Nat.reduceAdd,Nat.reduceMul,Nat.reduceLeDiff,quietOp,blindOp,Int.reduceEq,Int.reduceLT,Int.reduceLE,Nat.reduceLT,ti2,ti3,ti4,ti94,ti95,ti22,ti46,ti28,ti37,ti30,ti39,ti36,ti114,ti32,ti41, Int.natCast_zero, h5, h4, h0]
            (repeat refine And.intro (by omega) ?_)
            exact ⟨fun z hz => by rw [if_neg (by omega)], rfl, .inr ⟨H'.next, by omega, by omega, rfl, by rw [AH.push_row, if_pos rfl]; rfl⟩⟩
          · rintro z t H3 ⟨k, w, lo, hi, hz, hky, h7, h6, h5, h4, h0, hlo, hlh, hhi, hs3, hfw⟩
            have hfu3 : FrV 22 H.next H2.next H3 u L := hfu.same fun z _ hz => hs3 z (by omega)
            obtain ⟨ai, ao, au, ac, ar, ax, am, rfl, har, hax, hsx, haok⟩ := hfu3.rd.get (j := i) (by omega)
            rw [← ey] at hsx
            have ham := hsx.lenK1
            subst ham
            try simp (disch := first | omega | (simp only [ints_length, List.length_replicate, List.length_set]; done) | (simp only [ints_length, List.length_replicate, List.length_set]; omega)) only [Sall,evalOp,init,binE,binI,unE,convE,okNil,builtE,gv,TD.isAgg,resV,↓reduceIte,Nat.reduceEqDiff,reduceCtorEq,Nat.reduceAdd,Nat.reduceMul,Nat.reduceLeDiff,quietOp,blindOp,Int.reduceEq,Int.reduceLT,Int.reduceLE,Nat.reduceLT,ti2,ti3,ti4,ti94,ti95,ti22,ti46,ti28,ti37,ti30,ti39,ti36,ti114,ti32,ti41, h7, h5, h4, har, hax, haok, builtE, hsx.len]
            (repeat refine And.intro (by omega) ?_)
            refine condC_dec (fun hh => ?_) (fun hh => ?_)
            · obtain ⟨i7, o7, u7, c7, r7, rfl, hr7, hc7, hs7, hg7⟩ := hsx.get (by omega)
              have g1 := hs7 k (by omega)
              have hyk := hyx _ (show y.getD k 0 ∈ y by rw [List.getD_eq_getElem?_getD, List.getElem?_eq_getElem (by omega)]; exact List.getElem_mem _)
              have hsn := up1_snoc y k (by omega)
              have zz : zeros 1 [.int .i64 0] = [.int .i64 0] := rfl
              revert g1 hyk hsn
              generalize y.getD k 0 = yk
              intro g1 hyk hsn
              try simp (disch := first | omega | (simp only [ints_length, List.length_replicate, List.length_set]; done) | (simp only [ints_length, List.length_replicate, List.length_set]; omega)) only [Sall,evalOp,init,binE,binI,unE,convE,okNil,builtE,gv,TD.isAgg,resV,↓reduceIte,Nat.reduceEqDiff,reduceCtorEq,Nat.reduceAdd,Nat.reduceMul,Nat.reduceLeDiff,quietOp,blindOp,Int.reduceEq,Int.reduceLT,Int.reduceLE,Nat.reduceLT,ti2,ti3,ti4,ti94,ti95,ti22,ti46,ti28,ti37,ti30,ti39,ti36,ti114,ti32,ti41, h7, h6, h5, h4, h0, har, hax, haok, hr7, g1, zz, slCells, w64]
              (repeat refine And.intro (by omega) ?_)
              obtain ⟨H4, e4'⟩ : ∃ H4, H4 = H3.push ⟨2, true, [.int .i64 (yk + 1)]⟩ := ⟨_, rfl⟩
              have n4 : H4.next = H3.next + 1 := by rw [e4']; rfl
              have s4 : ∀ i, i < H3.next → H4.row i = H3.row i := fun i hi => by rw [e4', AH.push_row, if_neg (by omega)]
              rw [← e4']
              clear e4'
              refine appE_fr (k := 1) (lo := lo) (hi := hi) (l := up1 (y.take k)) (m := [yk + 1]) (hfw.same fun i _ hi => s4 i (by omega)) rfl (by omega) rfl (by omega) (by decide) (by omega) (by omega) ?_
              intro v' H5 n5 s5 f5
              try simp (disch := first | omega | (simp only [ints_length, List.length_replicate, List.length_set]; done) | (simp only [ints_length, List.length_replicate, List.length_set]; omega)) only [Sall,evalOp,init,binE,binI,unE,convE,okNil,builtE,gv,TD.isAgg,resV,↓reduceIte,Nat.reduceEqDiff,reduceCtorEq,Nat.reduceAdd,Nat.reduceMul,Nat.reduceLeDiff,quietOp,blindOp,Int.reduceEq,Int.reduceLT,Int.reduceLE,Nat.reduceLT,ti2,ti3,ti4,ti94,ti95,ti22,ti46,ti28,ti37,ti30,ti39,ti36,ti114,ti32,ti41, h7, h5, h4, h0, w64]
              refine ⟨y.length - (k + 1), by omega, k + 1, v', H4.next, H4.next + 1, rfl, by omega, rfl, rfl, by omega, by omega, by omega, fun z hz => by rw [s5 z (by omega) (by omega), s4 z (by omega), hs3 z hz], ?_⟩
              rw [hsn]; exact f5
            · have hk : k = y.length := by omega
              subst hk
              rw [List.take_length] at hfw
              have hol := up1_length y
              have hfw2 : Fr 1 2 lo hi H3 w (up1 y).length (up1 y) := by rw [hol]; exact hfw
              have hok : schedB n (up1 y).length (digL n (up1 y)) = true := digL_ok hn (fun x hx => by
                obtain ⟨x', hx', rfl⟩ := List.mem_map.1 hx
                have := hyx x' hx'
                omega) (by rw [hol]; omega)
              try simp (disch := first | omega | (simp only [ints_length, List.length_replicate, List.length_set]; done) | (simp only [ints_length, List.length_replicate, List.length_set]; omega)) only [Sall,evalOp,init,binE,binI,unE,convE,okNil,builtE,gv,TD.isAgg,resV,↓reduceIte,Nat.reduceEqDiff,reduceCtorEq,Nat.reduceAdd,Nat.reduceMul,Nat.reduceLeDiff,quietOp,blindOp,Int.reduceEq,Int.reduceLT,Int.reduceLE,Nat.reduceLT,ti2,ti3,ti4,ti94,ti95,ti22,ti46,ti28,ti37,ti30,ti39,ti36,ti114,ti32,ti41, h6, h0]
              refine (l09Robin_c n w (up1 y) H3 (by omega) hfw2.rd (by omega)).ex ?_
              rintro sv H4 ⟨up4, hf4⟩
              have n4 := up4.next
              try simp (disch := first | omega | (simp only [ints_length, List.length_replicate, List.length_set]; done) | (simp only [ints_length, List.length_replicate, List.length_set]; omega)) only [Sall,evalOp,init,binE,binI,unE,convE,okNil,builtE,gv,TD.isAgg,resV,↓reduceIte,Nat.reduceEqDiff,reduceCtorEq,Nat.reduceAdd,Nat.reduceMul,Nat.reduceLeDiff,quietOp,blindOp,Int.reduceEq,Int.reduceLT,Int.reduceLE,Nat.reduceLT,ti2,ti3,ti4,ti94,ti95,ti22,ti46,ti28,ti37,ti30,ti39,ti36,ti114,ti32,ti41, true_and]
              refine (l09Matrix_c n sv (up1 y).length (digL n (up1 y)) H4 hok hf4.rd (by omega)).mono ?_
              rintro mv H5 ⟨up5, hf5⟩
              have n5 := up5.next
              have hsq := carM_sq (rnd_toNat hok) (up1 y).length (Nat.le_refl _)
              refine Holds.mp ?_
              try simp (disch := first | omega | (simp only [ints_length, List.length_replicate, List.length_set]; done) | (simp only [ints_length, List.length_replicate, List.length_set]; omega)) only [Sall,evalOp,init,binE,binI,unE,convE,okNil,builtE,gv,TD.isAgg,resV,↓reduceIte,Nat.reduceEqDiff,reduceCtorEq,Nat.reduceAdd,Nat.reduceMul,Nat.reduceLeDiff,quietOp,blindOp,Int.reduceEq,Int.reduceLT,Int.reduceLE,Nat.reduceLT,ti2,ti3,ti4,ti94,ti95,ti22,ti46,ti28,ti37,ti30,ti39,ti36,ti114,ti32,ti41, true_and]
              refine (l09Balanced_c mv n _ H5 hf5.rd hsq (by omega)).to ?_
              have hbal : balB (carM n (up1 y).length (digL n (up1 y)) (up1 y).length) = balD n (up1 y) := rfl
              rw [hbal]
              have old5 : ∀ z, z < H3.next → H5.row z = H3.row z := fun z hz => by rw [up5.row z (by omega), up4.row z hz]
              cases hb : balD n (up1 y) with
              | true =>
                have hfind := find_up (M := L) (i := i) (p := balD n) (by omega) (by rw [← ey]; exact hb) hall
                rw [← ey] at hfind
                rw [hfind]
                try simp (disch := first | omega | (simp only [ints_length, List.length_replicate, List.length_set]; done) | (simp only [ints_length, List.length_replicate, List.length_set]; omega)) only [Sall,evalOp,init,binE,binI,unE,convE,okNil,builtE,gv,TD.isAgg,resV,↓reduceIte,Nat.reduceEqDiff,reduceCtorEq,Nat.reduceAdd,Nat.reduceMul,Nat.reduceLeDiff,quietOp,blindOp,Int.reduceEq,Int.reduceLT,Int.reduceLE,Nat.reduceLT,ti2,ti3,ti4,ti94,ti95,ti22,ti46,ti28,ti37,ti30,ti39,ti36,ti114,ti32,ti41, h6]
                refine ⟨_, rfl, ⟨by omega, fun z hz => by rw [old5 z (by omega), hs3 z (by omega), hup.row z hz]⟩, ?_⟩
                exact (hfw2.same fun z _ hz => old5 z (by omega)).wide (by omega) (by omega)
              | false =>
                try simp (disch := first | omega | (simp only [ints_length, List.length_replicate, List.length_set]; done) | (simp only [ints_length, List.length_replicate, List.length_set]; omega)) only [Sall,evalOp,init,binE,binI,unE,convE,okNil,builtE,gv,TD.isAgg,resV,↓reduceIte,Nat.reduceEqDiff,reduceCtorEq,Nat.reduceAdd,Nat.reduceMul,Nat.reduceLeDiff,quietOp,blindOp,Int.reduceEq,Int.reduceLT,Int.reduceLE,Nat.reduceLT,ti2,ti3,ti4,ti94,ti95,ti22,ti46,ti28,ti37,ti30,ti39,ti36,ti114,ti32,ti41, h5, h4, h0, w64]
                refine ⟨L.length - (i + 1), by omega, i + 1, rfl, by omega, rfl, ⟨by omega, fun z hz => by rw [old5 z (by omega), hs3 z (by omega), hup.row z hz]⟩, by omega, hfu.same fun z _ hz => by rw [old5 z (by omega), hs3 z (by omega)], fun j hj => ?_⟩
                by_cases e : j = i
                · rw [e, ← ey]; exact hb
                · exact hall j (by omega)
        · have hi2 : i = L.length := by omega
          subst hi2
          rw [find_up_none hall]
          try simp (disch := first | omega | (simp only [ints_length, List.length_replicate, List.length_set]; done) | (simp only [ints_length, List.length_replicate, List.length_set]; omega)) only [Sall,evalOp,init,binE,binI,unE,convE,okNil,builtE,gv,TD.isAgg,resV,↓reduceIte,Nat.reduceEqDiff,reduceCtorEq,Nat.reduceAdd,Nat.reduceMul,Nat.reduceLeDiff,quietOp,blindOp,Int.reduceEq,Int.reduceLT,Int.reduceLE,Nat.reduceLT,ti2,ti3,ti4,ti94,ti95,ti22,ti46,ti28,ti37,ti30,ti39,ti36,ti114,ti32,ti41, true_and]
          exact ⟨_, rfl, hup, ⟨rfl, .inl ⟨rfl, rfl⟩⟩⟩
end Go.Proofs.Ythabnjaapickiaa.A
