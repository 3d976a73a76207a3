/- Contracts of the laws' own helpers: equal rounds and schedules are found equal. -/
import Derived.Test.YtbmpkihggipciaaTi
import Derived.Test.YtbmpkihggipciaaAbs9
set_option linter.unusedSimpArgs false
set_option linter.unusedVariables false
set_option maxRecDepth 100000
--LEN ints_length, List.length_replicate
namespace Go.Proofs.Ytbmpkihggipciaa.A
open Go Go.Abs Go.RowKit

theorem eqRound_c (l : List Int) (hl : l.length = 14) (H : AH) : ACalls Try.prog 123 [.agg (ints l).toArray, .agg (ints l).toArray] H (is (.bool true) H) := by
  refine acalls_up rfl (acalls_of_awp [.tmp 4] Try.func123 (by kernel_rfl) rfl rfl (Nat.le_of_ble_eq_true rfl) (by kernel_rfl) ?_)
  try simp (disch := first | omega | (simp only [ints_length, List.length_replicate]; done) | (simp only [ints_length, List.length_replicate]; omega)) only [Sall,evalOp,init,binE,binI,unE,convE,okNil,builtE,gv,TD.isAgg,resV,↓reduceIte,Nat.reduceEqDiff,reduceCtorEq,Nat.reduceAdd,Nat.reduceMul,Nat.reduceLeDiff,quietOp,blindOp,Int.reduceEq,Int.reduceLT,Int.reduceLE,Nat.reduceLT,ti2,ti3,ti4,ti79,ti80,ti28,ti25,ti31,ti22,ti33,ti24,ti67,ti111,ti145,ti136,ti137,ti117,ti100, true_and]
  refine awp_loop (fun m t H' => ∃ a : Int, m = (14 - a).toNat ∧ 0 ≤ a ∧ a ≤ 14 ∧ t 5 = .int .i64 a ∧ t 2 = .pointer (some ⟨H.next, 0, none⟩) ∧ t 3 = .pointer (some ⟨H.next + 1, 0, none⟩) ∧ Up H.next H H' ∧
    H'.row H.next = some ⟨80, true, ints l⟩ ∧ H'.row (H.next + 1) = some ⟨80, true, ints l⟩) 14 ?_ ?_
  · refine ⟨0, by omega, by omega, by omega, ?_⟩
    try simp (disch := first | omega | (simp only [ints_length, List.length_replicate]; done) | (simp only [ints_length, List.length_replicate]; omega)) only [Sall,evalOp,init,binE,binI,unE,convE,okNil,builtE,gv,TD.isAgg,resV,↓reduceIte,Nat.reduceEqDiff,reduceCtorEq,Nat.reduceAdd,Nat.reduceMul,Nat.reduceLeDiff,quietOp,blindOp,Int.reduceEq,Int.reduceLT,Int.reduceLE,Nat.reduceLT,ti2,ti3,ti4,ti79,ti80,ti28,ti25,ti31,ti22,ti33,ti24,ti67,ti111,ti145,ti136,ti137,ti117,ti100, true_and]
    exact ((Up.refl _ H).push (by omega) _).push (Nat.le_succ _) _
  · rintro m t H' ⟨a, hm, h0, h14, h5, h2, h3, hup, hr0, hr1⟩
    try simp (disch := first | omega | (simp only [ints_length, List.length_replicate]; done) | (simp only [ints_length, List.length_replicate]; omega)) only [Sall,evalOp,init,binE,binI,unE,convE,okNil,builtE,gv,TD.isAgg,resV,↓reduceIte,Nat.reduceEqDiff,reduceCtorEq,Nat.reduceAdd,Nat.reduceMul,Nat.reduceLeDiff,quietOp,blindOp,Int.reduceEq,Int.reduceLT,Int.reduceLE,Nat.reduceLT,ti2,ti3,ti4,ti79,ti80,ti28,ti25,ti31,ti22,ti33,ti24,ti67,ti111,ti145,ti136,ti137,ti117,ti100, h5]
    refine condC_dec (fun h => ?_) (fun h => ?_)
    · skip
      try simp (disch := first | omega | (simp only [ints_length, List.length_replicate]; done) | (simp only [ints_length, List.length_replicate]; omega)) only [Sall,evalOp,init,binE,binI,unE,convE,okNil,builtE,gv,TD.isAgg,resV,↓reduceIte,Nat.reduceEqDiff,reduceCtorEq,Nat.reduceAdd,Nat.reduceMul,Nat.reduceLeDiff,quietOp,blindOp,Int.reduceEq,Int.reduceLT,Int.reduceLE,Nat.reduceLT,ti2,ti3,ti4,ti79,ti80,ti28,ti25,ti31,ti22,ti33,ti24,ti67,ti111,ti145,ti136,ti137,ti117,ti100, h5]
      refine draw_id (by kernel_rfl) (by kernel_rfl) ?_
      try simp (disch := first | omega | (simp only [ints_length, List.length_replicate]; done) | (simp only [ints_length, List.length_replicate]; omega)) only [Sall,evalOp,init,binE,binI,unE,convE,okNil,builtE,gv,TD.isAgg,resV,↓reduceIte,Nat.reduceEqDiff,reduceCtorEq,Nat.reduceAdd,Nat.reduceMul,Nat.reduceLeDiff,quietOp,blindOp,Int.reduceEq,Int.reduceLT,Int.reduceLE,Nat.reduceLT,ti2,ti3,ti4,ti79,ti80,ti28,ti25,ti31,ti22,ti33,ti24,ti67,ti111,ti145,ti136,ti137,ti117,ti100, h5, h2, h3, hr0, hr1, ints_get?, bne_self_eq_false, w64]
      refine ⟨⟨h0, by omega⟩, ⟨h0, by omega⟩, (14 - (a + 1)).toNat, by omega, a + 1, rfl, by omega, by omega, rfl, hup⟩
    · try simp (disch := first | omega | (simp only [ints_length, List.length_replicate]; done) | (simp only [ints_length, List.length_replicate]; omega)) only [Sall,evalOp,init,binE,binI,unE,convE,okNil,builtE,gv,TD.isAgg,resV,↓reduceIte,Nat.reduceEqDiff,reduceCtorEq,Nat.reduceAdd,Nat.reduceMul,Nat.reduceLeDiff,quietOp,blindOp,Int.reduceEq,Int.reduceLT,Int.reduceLE,Nat.reduceLT,ti2,ti3,ti4,ti79,ti80,ti28,ti25,ti31,ti22,ti33,ti24,ti67,ti111,ti145,ti136,ti137,ti117,ti100, true_and]
      exact hup

theorem eqRoundS_c (va vb : Value) (n : Nat) (l : List Int) (hn : n ≤ 4294967296) (H : AH) (ha : Rd 14 H va n l) (hb : Rd 14 H vb n l) : ACalls Try.prog 61 [va, vb] H (is (.bool true) H) := by
  refine acalls_up rfl (acalls_of_awp [.tmp 4] Try.func61 (by kernel_rfl) rfl rfl (Nat.le_of_ble_eq_true rfl) (by kernel_rfl) ?_)
  try simp (disch := first | omega | (simp only [ints_length, List.length_replicate]; done) | (simp only [ints_length, List.length_replicate]; omega)) only [Sall,evalOp,init,binE,binI,unE,convE,okNil,builtE,gv,TD.isAgg,resV,↓reduceIte,Nat.reduceEqDiff,reduceCtorEq,Nat.reduceAdd,Nat.reduceMul,Nat.reduceLeDiff,quietOp,blindOp,Int.reduceEq,Int.reduceLT,Int.reduceLE,Nat.reduceLT,ti2,ti3,ti4,ti79,ti80,ti28,ti25,ti31,ti22,ti33,ti24,ti67,ti111,ti145,ti136,ti137,ti117,ti100, builtE, ha.len, hb.len, bne_self_eq_false]
  refine awp_loop (fun m t H' => ∃ a : Int, m = (n - a).toNat ∧ 0 ≤ a ∧ a ≤ n ∧ t 5 = .int .i64 a ∧ t 0 = va ∧ t 1 = vb ∧ H' = H) n ?_ ?_
  · refine ⟨0, by omega, by omega, by omega, ?_⟩
    try simp (disch := first | omega | (simp only [ints_length, List.length_replicate]; done) | (simp only [ints_length, List.length_replicate]; omega)) only [Sall,evalOp,init,binE,binI,unE,convE,okNil,builtE,gv,TD.isAgg,resV,↓reduceIte,Nat.reduceEqDiff,reduceCtorEq,Nat.reduceAdd,Nat.reduceMul,Nat.reduceLeDiff,quietOp,blindOp,Int.reduceEq,Int.reduceLT,Int.reduceLE,Nat.reduceLT,ti2,ti3,ti4,ti79,ti80,ti28,ti25,ti31,ti22,ti33,ti24,ti67,ti111,ti145,ti136,ti137,ti117,ti100, true_and]
  · rintro m t H' ⟨a, hm, h0, h14, h5, h2, h3, rfl⟩
    try simp (disch := first | omega | (simp only [ints_length, List.length_replicate]; done) | (simp only [ints_length, List.length_replicate]; omega)) only [Sall,evalOp,init,binE,binI,unE,convE,okNil,builtE,gv,TD.isAgg,resV,↓reduceIte,Nat.reduceEqDiff,reduceCtorEq,Nat.reduceAdd,Nat.reduceMul,Nat.reduceLeDiff,quietOp,blindOp,Int.reduceEq,Int.reduceLT,Int.reduceLE,Nat.reduceLT,ti2,ti3,ti4,ti79,ti80,ti28,ti25,ti31,ti22,ti33,ti24,ti67,ti111,ti145,ti136,ti137,ti117,ti100, h5, h2, builtE, ha.len]
    refine condC_dec (fun h => ?_) (fun h => ?_)
    · obtain ⟨i, o, u, c, r, rfl, hr, hc, hs, hg⟩ := ha.get (by omega)
      obtain ⟨i', o', u', c', r', rfl, hr', hc', hs', hg'⟩ := hb.get (by omega)
      try simp (disch := first | omega | (simp only [ints_length, List.length_replicate]; done) | (simp only [ints_length, List.length_replicate]; omega)) only [Sall,evalOp,init,binE,binI,unE,convE,okNil,builtE,gv,TD.isAgg,resV,↓reduceIte,Nat.reduceEqDiff,reduceCtorEq,Nat.reduceAdd,Nat.reduceMul,Nat.reduceLeDiff,quietOp,blindOp,Int.reduceEq,Int.reduceLT,Int.reduceLE,Nat.reduceLT,ti2,ti3,ti4,ti79,ti80,ti28,ti25,ti31,ti22,ti33,ti24,ti67,ti111,ti145,ti136,ti137,ti117,ti100, h5]
      refine draw_id (by kernel_rfl) (by kernel_rfl) ?_
      try simp (disch := first | omega | (simp only [ints_length, List.length_replicate]; done) | (simp only [ints_length, List.length_replicate]; omega)) only [Sall,evalOp,init,binE,binI,unE,convE,okNil,builtE,gv,TD.isAgg,resV,↓reduceIte,Nat.reduceEqDiff,reduceCtorEq,Nat.reduceAdd,Nat.reduceMul,Nat.reduceLeDiff,quietOp,blindOp,Int.reduceEq,Int.reduceLT,Int.reduceLE,Nat.reduceLT,ti2,ti3,ti4,ti79,ti80,ti28,ti25,ti31,ti22,ti33,ti24,ti67,ti111,ti145,ti136,ti137,ti117,ti100, h5, h2, h3, hr, hr', hg, hg']
      refine ⟨⟨h0, h⟩, by omega, ⟨h0, h⟩, by omega, (eqRound_c _ ?_ H').to ⟨.inr (.inr (LE.refl _)), ?_⟩⟩
      · rw [List.length_take, List.length_drop, ha.1]; omega
      · try simp (disch := first | omega | (simp only [ints_length, List.length_replicate]; done) | (simp only [ints_length, List.length_replicate]; omega)) only [Sall,evalOp,init,binE,binI,unE,convE,okNil,builtE,gv,TD.isAgg,resV,↓reduceIte,Nat.reduceEqDiff,reduceCtorEq,Nat.reduceAdd,Nat.reduceMul,Nat.reduceLeDiff,quietOp,blindOp,Int.reduceEq,Int.reduceLT,Int.reduceLE,Nat.reduceLT,ti2,ti3,ti4,ti79,ti80,ti28,ti25,ti31,ti22,ti33,ti24,ti67,ti111,ti145,ti136,ti137,ti117,ti100, Bool.not_true, w64, h5, h2, h3]
        refine ⟨(n - (a + 1)).toNat, by omega, a + 1, rfl, by omega, by omega, rfl⟩
    · try simp (disch := first | omega | (simp only [ints_length, List.length_replicate]; done) | (simp only [ints_length, List.length_replicate]; omega)) only [Sall,evalOp,init,binE,binI,unE,convE,okNil,builtE,gv,TD.isAgg,resV,↓reduceIte,Nat.reduceEqDiff,reduceCtorEq,Nat.reduceAdd,Nat.reduceMul,Nat.reduceLeDiff,quietOp,blindOp,Int.reduceEq,Int.reduceLT,Int.reduceLE,Nat.reduceLT,ti2,ti3,ti4,ti79,ti80,ti28,ti25,ti31,ti22,ti33,ti24,ti67,ti111,ti145,ti136,ti137,ti117,ti100, true_and]
      exact Up.refl _ _

/-- A schedule as it is handed on: its teams and its rounds. -/
def schedV (n : Int) (v : Value) : Value := .agg #[.int .i64 n, v]

theorem eqSchedule_c (va vb : Value) (q : Int) (n : Nat) (l : List Int) (hn : n ≤ 4294967296) (H : AH) (ha : Rd 14 H va n l) (hb : Rd 14 H vb n l) (h1 : va.oneCell' = true) (h2 : vb.oneCell' = true) :
    ACalls Try.prog 22 [.agg #[.int .i64 q, va], .agg #[.int .i64 q, vb]] H (is (.bool true) H) := by
  refine ACalls.wf (by kernel_rfl) fun hs => acalls_up rfl (acalls_of_awp [.tmp 4] Try.func22 (by kernel_rfl) rfl rfl (Nat.le_of_ble_eq_true rfl) (by kernel_rfl) ?_)
  try simp (disch := first | omega | (simp only [ints_length, List.length_replicate]; done) | (simp only [ints_length, List.length_replicate]; omega)) only [Sall,evalOp,init,binE,binI,unE,convE,okNil,builtE,gv,TD.isAgg,resV,↓reduceIte,Nat.reduceEqDiff,reduceCtorEq,Nat.reduceAdd,Nat.reduceMul,Nat.reduceLeDiff,quietOp,blindOp,Int.reduceEq,Int.reduceLT,Int.reduceLE,Nat.reduceLT,ti2,ti3,ti4,ti79,ti80,ti28,ti25,ti31,ti22,ti33,ti24,ti67,ti111,ti145,ti136,ti137,ti117,ti100, bne_self_eq_false]
  have up : Up H.next H ((H.push ⟨33, true, [.int .i64 q, va]⟩).push ⟨33, true, [.int .i64 q, vb]⟩) := ((Up.refl _ H).push (Nat.le_refl _) _).push (Nat.le_succ _) _
  refine (eqRoundS_c va vb n l hn _ (ha.same (up.le hs).row) (hb.same (up.le hs).row)).to ?_
  try simp (disch := first | omega | (simp only [ints_length, List.length_replicate]; done) | (simp only [ints_length, List.length_replicate]; omega)) only [Sall,evalOp,init,binE,binI,unE,convE,okNil,builtE,gv,TD.isAgg,resV,↓reduceIte,Nat.reduceEqDiff,reduceCtorEq,Nat.reduceAdd,Nat.reduceMul,Nat.reduceLeDiff,quietOp,blindOp,Int.reduceEq,Int.reduceLT,Int.reduceLE,Nat.reduceLT,ti2,ti3,ti4,ti79,ti80,ti28,ti25,ti31,ti22,ti33,ti24,ti67,ti111,ti145,ti136,ti137,ti117,ti100, Bool.not_true]
  exact up

/-! ### Marks -/
theorem markRoundS_c (ty lo hi : Nat) (v : Value) (n : Nat) (l : List Int) (k0 : Int) (hk : 0 ≤ k0 ∧ k0 ≤ 4294967296) (hn : n ≤ 4294967296) (H : AH) (hv : Fr 14 ty lo hi H v n l) :
    ACalls Try.prog 62 [v, .int .i64 k0] H (fun r H' => r = .int .i64 (k0 + n * 14) ∧ H.next ≤ H'.next ∧ (∀ i, ¬(lo ≤ i ∧ i < hi) → i < H.next → H'.row i = H.row i) ∧ Fr 14 ty lo hi H' v n (seqL k0 (n * 14))) := by
  refine acalls_of_awp [.tmp 4] Try.func62 (by kernel_rfl) rfl rfl (Nat.le_of_ble_eq_true rfl) (by kernel_rfl) ?_
  try simp (disch := first | omega | (simp only [ints_length, List.length_replicate]; done) | (simp only [ints_length, List.length_replicate]; omega)) only [Sall,evalOp,init,binE,binI,unE,convE,okNil,builtE,gv,TD.isAgg,resV,↓reduceIte,Nat.reduceEqDiff,reduceCtorEq,Nat.reduceAdd,Nat.reduceMul,Nat.reduceLeDiff,quietOp,blindOp,Int.reduceEq,Int.reduceLT,Int.reduceLE,Nat.reduceLT,ti2,ti3,ti4,ti79,ti80,ti28,ti25,ti31,ti22,ti33,ti24,ti67,ti111,ti145,ti136,ti137,ti117,ti100, true_and]
  refine awp_loop (fun m t H' => ∃ a : Nat, m = n - a ∧ a ≤ n ∧ t 5 = .int .i64 a ∧ t 1 = .int .i64 (k0 + a * 14) ∧ t 0 = v ∧ H'.next = H.next ∧ (∀ i, ¬(lo ≤ i ∧ i < hi) → H'.row i = H.row i) ∧ Fr 14 ty lo hi H' v n (markL k0 l (a * 14))) n ?_ ?_
  · refine ⟨0, by omega, by omega, ?_⟩
    try simp (disch := first | omega | (simp only [ints_length, List.length_replicate]; done) | (simp only [ints_length, List.length_replicate]; omega)) only [Sall,evalOp,init,binE,binI,unE,convE,okNil,builtE,gv,TD.isAgg,resV,↓reduceIte,Nat.reduceEqDiff,reduceCtorEq,Nat.reduceAdd,Nat.reduceMul,Nat.reduceLeDiff,quietOp,blindOp,Int.reduceEq,Int.reduceLT,Int.reduceLE,Nat.reduceLT,ti2,ti3,ti4,ti79,ti80,ti28,ti25,ti31,ti22,ti33,ti24,ti67,ti111,ti145,ti136,ti137,ti117,ti100, Nat.zero_mul, markL_zero, Int.natCast_zero]
    exact ⟨by omega, hv⟩
  · rintro m t H' ⟨a, hm, h14, h5, h1, h0, hnx, hsm, hfr⟩
    try simp (disch := first | omega | (simp only [ints_length, List.length_replicate]; done) | (simp only [ints_length, List.length_replicate]; omega)) only [Sall,evalOp,init,binE,binI,unE,convE,okNil,builtE,gv,TD.isAgg,resV,↓reduceIte,Nat.reduceEqDiff,reduceCtorEq,Nat.reduceAdd,Nat.reduceMul,Nat.reduceLeDiff,quietOp,blindOp,Int.reduceEq,Int.reduceLT,Int.reduceLE,Nat.reduceLT,ti2,ti3,ti4,ti79,ti80,ti28,ti25,ti31,ti22,ti33,ti24,ti67,ti111,ti145,ti136,ti137,ti117,ti100, h5, h1, h0, builtE, hfr.rd.len]
    refine condC_dec (fun h => ?_) (fun h => ?_)
    · try simp (disch := first | omega | (simp only [ints_length, List.length_replicate]; done) | (simp only [ints_length, List.length_replicate]; omega)) only [Sall,evalOp,init,binE,binI,unE,convE,okNil,builtE,gv,TD.isAgg,resV,↓reduceIte,Nat.reduceEqDiff,reduceCtorEq,Nat.reduceAdd,Nat.reduceMul,Nat.reduceLeDiff,quietOp,blindOp,Int.reduceEq,Int.reduceLT,Int.reduceLE,Nat.reduceLT,ti2,ti3,ti4,ti79,ti80,ti28,ti25,ti31,ti22,ti33,ti24,ti67,ti111,ti145,ti136,ti137,ti117,ti100, h5, h1, h0]
      obtain ⟨i, hi1, hi2, rfl, hr⟩ := hfr.get (by omega)
      have hl := hv.1
      refine awp_loop (fun m' t H' => ∃ b : Nat, m' = 14 - b ∧ b ≤ 14 ∧ t 6 = .int .i64 b ∧ t 5 = .int .i64 a ∧ t 1 = .int .i64 (k0 + a * 14 + b) ∧ t 0 = .slice (some ⟨i, 0, some 14⟩) n n ∧ H'.next = H.next ∧ (∀ i, ¬(lo ≤ i ∧ i < hi) → H'.row i = H.row i) ∧
        H'.row i = some ⟨ty, true, ints (markL k0 l (a * 14 + b))⟩) 14 ?_ ?_
      · refine ⟨0, by omega, by omega, ?_⟩
        try simp (disch := first | omega | (simp only [ints_length, List.length_replicate]; done) | (simp only [ints_length, List.length_replicate]; omega)) only [Sall,evalOp,init,binE,binI,unE,convE,okNil,builtE,gv,TD.isAgg,resV,↓reduceIte,Nat.reduceEqDiff,reduceCtorEq,Nat.reduceAdd,Nat.reduceMul,Nat.reduceLeDiff,quietOp,blindOp,Int.reduceEq,Int.reduceLT,Int.reduceLE,Nat.reduceLT,ti2,ti3,ti4,ti79,ti80,ti28,ti25,ti31,ti22,ti33,ti24,ti67,ti111,ti145,ti136,ti137,ti117,ti100, h5, h1, h0, Int.natCast_zero, Nat.add_zero, hr]
        and_intros <;> first | omega | assumption
      · rintro m' t H' ⟨b, hm', hb14, h6, h5, h1, h0, hnx, hsm, hr⟩
        try simp (disch := first | omega | (simp only [ints_length, List.length_replicate]; done) | (simp only [ints_length, List.length_replicate]; omega)) only [Sall,evalOp,init,binE,binI,unE,convE,okNil,builtE,gv,TD.isAgg,resV,↓reduceIte,Nat.reduceEqDiff,reduceCtorEq,Nat.reduceAdd,Nat.reduceMul,Nat.reduceLeDiff,quietOp,blindOp,Int.reduceEq,Int.reduceLT,Int.reduceLE,Nat.reduceLT,ti2,ti3,ti4,ti79,ti80,ti28,ti25,ti31,ti22,ti33,ti24,ti67,ti111,ti145,ti136,ti137,ti117,ti100, h6, h5]
        refine condC_dec (fun h' => ?_) (fun h' => ?_)
        · have e : k0 + ↑a * 14 + ↑b = k0 + ↑(a * 14 + b) := by omega
          have e2 : (markL k0 l (a * 14 + b)).set (a * 14 + b) (k0 + ↑a * 14 + ↑b) = markL k0 l (a * 14 + (b + 1)) := by rw [e, markL_set _ _ _ (by omega)]; rfl
          have e3 : (markL k0 l (a * 14 + b)).length = n * 14 := by rw [markL_length _ _ _ (by omega), hl]
          try simp (disch := first | omega | (simp only [ints_length, List.length_replicate]; done) | (simp only [ints_length, List.length_replicate]; omega)) only [Sall,evalOp,init,binE,binI,unE,convE,okNil,builtE,gv,TD.isAgg,resV,↓reduceIte,Nat.reduceEqDiff,reduceCtorEq,Nat.reduceAdd,Nat.reduceMul,Nat.reduceLeDiff,quietOp,blindOp,Int.reduceEq,Int.reduceLT,Int.reduceLE,Nat.reduceLT,ti2,ti3,ti4,ti79,ti80,ti28,ti25,ti31,ti22,ti33,ti24,ti67,ti111,ti145,ti136,ti137,ti117,ti100, h6, h5, h1, h0, hr, w64, ints_set, e2, e3]
          refine ⟨⟨by omega, by omega⟩, ⟨by omega, by omega⟩, by omega, 14 - (b + 1), by omega, b + 1, ?_⟩
          try simp (disch := first | omega | (simp only [ints_length, List.length_replicate]; done) | (simp only [ints_length, List.length_replicate]; omega)) only [Sall,evalOp,init,binE,binI,unE,convE,okNil,builtE,gv,TD.isAgg,resV,↓reduceIte,Nat.reduceEqDiff,reduceCtorEq,Nat.reduceAdd,Nat.reduceMul,Nat.reduceLeDiff,quietOp,blindOp,Int.reduceEq,Int.reduceLT,Int.reduceLE,Nat.reduceLT,ti2,ti3,ti4,ti79,ti80,ti28,ti25,ti31,ti22,ti33,ti24,ti67,ti111,ti145,ti136,ti137,ti117,ti100, true_and]
          and_intros <;> first | omega | assumption | skip
          intro x hx
          rw [if_neg (by omega)]; exact hsm x hx
        · try simp (disch := first | omega | (simp only [ints_length, List.length_replicate]; done) | (simp only [ints_length, List.length_replicate]; omega)) only [Sall,evalOp,init,binE,binI,unE,convE,okNil,builtE,gv,TD.isAgg,resV,↓reduceIte,Nat.reduceEqDiff,reduceCtorEq,Nat.reduceAdd,Nat.reduceMul,Nat.reduceLeDiff,quietOp,blindOp,Int.reduceEq,Int.reduceLT,Int.reduceLE,Nat.reduceLT,ti2,ti3,ti4,ti79,ti80,ti28,ti25,ti31,ti22,ti33,ti24,ti67,ti111,ti145,ti136,ti137,ti117,ti100, h6, h5, h1, h0, w64]
          have hb : b = 14 := by omega
          subst hb
          refine ⟨n - (a + 1), by omega, a + 1, rfl, by omega, by omega, by omega, hnx, hsm, ?_⟩
          refine ⟨by rw [markL_length _ _ _ (by omega)]; exact hv.1, .inr ⟨i, hi1, hi2, rfl, ?_⟩⟩
          rw [hr, show (a + 1) * 14 = a * 14 + 14 by omega]
    · try simp (disch := first | omega | (simp only [ints_length, List.length_replicate]; done) | (simp only [ints_length, List.length_replicate]; omega)) only [Sall,evalOp,init,binE,binI,unE,convE,okNil,builtE,gv,TD.isAgg,resV,↓reduceIte,Nat.reduceEqDiff,reduceCtorEq,Nat.reduceAdd,Nat.reduceMul,Nat.reduceLeDiff,quietOp,blindOp,Int.reduceEq,Int.reduceLT,Int.reduceLE,Nat.reduceLT,ti2,ti3,ti4,ti79,ti80,ti28,ti25,ti31,ti22,ti33,ti24,ti67,ti111,ti145,ti136,ti137,ti117,ti100, h1]
      have ha : a = n := by omega
      subst ha
      refine ⟨rfl, by omega, fun i hi _ => hsm i hi, ?_⟩
      rw [← hv.1] at hfr ⊢
      rwa [markL_all] at hfr

theorem markSchedule_c (ty lo hi : Nat) (v : Value) (q : Int) (n : Nat) (l : List Int) (k0 : Int) (hk : 0 ≤ k0 ∧ k0 ≤ 4294967296) (hn : n ≤ 4294967296) (H : AH) (hv : Fr 14 ty lo hi H v n l) (hh : hi ≤ H.next) :
    ACalls Try.prog 24 [.agg #[.int .i64 q, v], .int .i64 k0] H (fun r H' => r = .int .i64 (k0 + n * 14) ∧ H.next ≤ H'.next ∧ (∀ i, ¬(lo ≤ i ∧ i < hi) → i < H.next → H'.row i = H.row i) ∧ Fr 14 ty lo hi H' v n (seqL k0 (n * 14))) := by
  refine acalls_of_awp [.tmp 4] Try.func24 (by kernel_rfl) rfl rfl (Nat.le_of_ble_eq_true rfl) (by kernel_rfl) ?_
  try simp (disch := first | omega | (simp only [ints_length, List.length_replicate]; done) | (simp only [ints_length, List.length_replicate]; omega)) only [Sall,evalOp,init,binE,binI,unE,convE,okNil,builtE,gv,TD.isAgg,resV,↓reduceIte,Nat.reduceEqDiff,reduceCtorEq,Nat.reduceAdd,Nat.reduceMul,Nat.reduceLeDiff,quietOp,blindOp,Int.reduceEq,Int.reduceLT,Int.reduceLE,Nat.reduceLT,ti2,ti3,ti4,ti79,ti80,ti28,ti25,ti31,ti22,ti33,ti24,ti67,ti111,ti145,ti136,ti137,ti117,ti100, true_and]
  have hv' : Fr 14 ty lo hi (H.push ⟨33, true, [.int .i64 q, v]⟩) v n l := hv.same fun i _ h2 => by rw [AH.push_row, if_neg (by omega)]
  refine (markRoundS_c ty lo hi v n l k0 hk hn _ hv').fin ?_
  rintro H' ⟨h1, h2, h3⟩
  try simp (disch := first | omega | (simp only [ints_length, List.length_replicate]; done) | (simp only [ints_length, List.length_replicate]; omega)) only [Sall,evalOp,init,binE,binI,unE,convE,okNil,builtE,gv,TD.isAgg,resV,↓reduceIte,Nat.reduceEqDiff,reduceCtorEq,Nat.reduceAdd,Nat.reduceMul,Nat.reduceLeDiff,quietOp,blindOp,Int.reduceEq,Int.reduceLT,Int.reduceLE,Nat.reduceLT,ti2,ti3,ti4,ti79,ti80,ti28,ti25,ti31,ti22,ti33,ti24,ti67,ti111,ti145,ti136,ti137,ti117,ti100, true_and]
  rw [AH.push_next] at h1
  refine ⟨by omega, fun i hi' hi2 => ?_, h3⟩
  rw [h2 i hi' (by rw [AH.push_next]; omega), AH.push_row, if_neg (by omega)]

/-! ### Marks that are held -/
theorem heldRoundS_c (v : Value) (n : Nat) (k0 : Int) (hk : 0 ≤ k0 ∧ k0 ≤ 4294967296) (hn : n ≤ 4294967296) (H : AH) (hv : Rd 14 H v n (seqL k0 (n * 14))) :
    ACalls Try.prog 106 [v, .int .i64 k0] H (is (.int .i64 (k0 + n * 14)) H) := by
  refine acalls_up rfl (acalls_of_awp [.tmp 4] Try.func106 (by kernel_rfl) rfl rfl (Nat.le_of_ble_eq_true rfl) (by kernel_rfl) ?_)
  try simp (disch := first | omega | (simp only [ints_length, List.length_replicate]; done) | (simp only [ints_length, List.length_replicate]; omega)) only [Sall,evalOp,init,binE,binI,unE,convE,okNil,builtE,gv,TD.isAgg,resV,↓reduceIte,Nat.reduceEqDiff,reduceCtorEq,Nat.reduceAdd,Nat.reduceMul,Nat.reduceLeDiff,quietOp,blindOp,Int.reduceEq,Int.reduceLT,Int.reduceLE,Nat.reduceLT,ti2,ti3,ti4,ti79,ti80,ti28,ti25,ti31,ti22,ti33,ti24,ti67,ti111,ti145,ti136,ti137,ti117,ti100, true_and]
  refine awp_loop (fun m t H' => ∃ a : Nat, m = n - a ∧ a ≤ n ∧ t 5 = .int .i64 a ∧ t 1 = .int .i64 (k0 + a * 14) ∧ t 0 = v ∧ H' = H) n ?_ ?_
  · refine ⟨0, by omega, by omega, ?_⟩
    try simp (disch := first | omega | (simp only [ints_length, List.length_replicate]; done) | (simp only [ints_length, List.length_replicate]; omega)) only [Sall,evalOp,init,binE,binI,unE,convE,okNil,builtE,gv,TD.isAgg,resV,↓reduceIte,Nat.reduceEqDiff,reduceCtorEq,Nat.reduceAdd,Nat.reduceMul,Nat.reduceLeDiff,quietOp,blindOp,Int.reduceEq,Int.reduceLT,Int.reduceLE,Nat.reduceLT,ti2,ti3,ti4,ti79,ti80,ti28,ti25,ti31,ti22,ti33,ti24,ti67,ti111,ti145,ti136,ti137,ti117,ti100, Int.natCast_zero]
    omega
  · rintro m t H' ⟨a, hm, h14, h5, h1, h0, rfl⟩
    try simp (disch := first | omega | (simp only [ints_length, List.length_replicate]; done) | (simp only [ints_length, List.length_replicate]; omega)) only [Sall,evalOp,init,binE,binI,unE,convE,okNil,builtE,gv,TD.isAgg,resV,↓reduceIte,Nat.reduceEqDiff,reduceCtorEq,Nat.reduceAdd,Nat.reduceMul,Nat.reduceLeDiff,quietOp,blindOp,Int.reduceEq,Int.reduceLT,Int.reduceLE,Nat.reduceLT,ti2,ti3,ti4,ti79,ti80,ti28,ti25,ti31,ti22,ti33,ti24,ti67,ti111,ti145,ti136,ti137,ti117,ti100, h5, h1, h0, builtE, hv.len]
    refine condC_dec (fun h => ?_) (fun h => ?_)
    · try simp (disch := first | omega | (simp only [ints_length, List.length_replicate]; done) | (simp only [ints_length, List.length_replicate]; omega)) only [Sall,evalOp,init,binE,binI,unE,convE,okNil,builtE,gv,TD.isAgg,resV,↓reduceIte,Nat.reduceEqDiff,reduceCtorEq,Nat.reduceAdd,Nat.reduceMul,Nat.reduceLeDiff,quietOp,blindOp,Int.reduceEq,Int.reduceLT,Int.reduceLE,Nat.reduceLT,ti2,ti3,ti4,ti79,ti80,ti28,ti25,ti31,ti22,ti33,ti24,ti67,ti111,ti145,ti136,ti137,ti117,ti100, h5, h1, h0]
      obtain ⟨i, o, u, c, r, rfl, hr, hc, hs, _⟩ := hv.get (by omega)
      refine awp_loop (fun m' t H'' => ∃ b : Nat, m' = 14 - b ∧ b ≤ 14 ∧ t 6 = .int .i64 b ∧ t 5 = .int .i64 a ∧ t 1 = .int .i64 (k0 + a * 14 + b) ∧ t 0 = .slice (some ⟨i, o, u⟩) n c ∧ H'' = H') 14 ?_ ?_
      · refine ⟨0, by omega, by omega, ?_⟩
        try simp (disch := first | omega | (simp only [ints_length, List.length_replicate]; done) | (simp only [ints_length, List.length_replicate]; omega)) only [Sall,evalOp,init,binE,binI,unE,convE,okNil,builtE,gv,TD.isAgg,resV,↓reduceIte,Nat.reduceEqDiff,reduceCtorEq,Nat.reduceAdd,Nat.reduceMul,Nat.reduceLeDiff,quietOp,blindOp,Int.reduceEq,Int.reduceLT,Int.reduceLE,Nat.reduceLT,ti2,ti3,ti4,ti79,ti80,ti28,ti25,ti31,ti22,ti33,ti24,ti67,ti111,ti145,ti136,ti137,ti117,ti100, h5, h1, h0, Int.natCast_zero]
        omega
      · rintro m' t H' ⟨b, hm', hb14, h6, h5, h1, h0, rfl⟩
        try simp (disch := first | omega | (simp only [ints_length, List.length_replicate]; done) | (simp only [ints_length, List.length_replicate]; omega)) only [Sall,evalOp,init,binE,binI,unE,convE,okNil,builtE,gv,TD.isAgg,resV,↓reduceIte,Nat.reduceEqDiff,reduceCtorEq,Nat.reduceAdd,Nat.reduceMul,Nat.reduceLeDiff,quietOp,blindOp,Int.reduceEq,Int.reduceLT,Int.reduceLE,Nat.reduceLT,ti2,ti3,ti4,ti79,ti80,ti28,ti25,ti31,ti22,ti33,ti24,ti67,ti111,ti145,ti136,ti137,ti117,ti100, h6, h5]
        refine condC_dec (fun h' => ?_) (fun h' => ?_)
        · have e1 := hs (a * 14 + b) (by omega)
          rw [seqL_getD _ _ _ (by omega), ← Nat.add_assoc] at e1
          have e2 : (k0 + ((a * 14 + b : Nat) : Int) != k0 + (a : Int) * 14 + (b : Int)) = false := by rw [bne_eq_false_iff_eq]; omega
          try simp (disch := first | omega | (simp only [ints_length, List.length_replicate]; done) | (simp only [ints_length, List.length_replicate]; omega)) only [Sall,evalOp,init,binE,binI,unE,convE,okNil,builtE,gv,TD.isAgg,resV,↓reduceIte,Nat.reduceEqDiff,reduceCtorEq,Nat.reduceAdd,Nat.reduceMul,Nat.reduceLeDiff,quietOp,blindOp,Int.reduceEq,Int.reduceLT,Int.reduceLE,Nat.reduceLT,ti2,ti3,ti4,ti79,ti80,ti28,ti25,ti31,ti22,ti33,ti24,ti67,ti111,ti145,ti136,ti137,ti117,ti100, h6, h5, h1, h0, hr, w64, e1, e2]
          refine ⟨⟨by omega, by omega⟩, ⟨by omega, by omega⟩, 14 - (b + 1), by omega, b + 1, ?_⟩
          try simp (disch := first | omega | (simp only [ints_length, List.length_replicate]; done) | (simp only [ints_length, List.length_replicate]; omega)) only [Sall,evalOp,init,binE,binI,unE,convE,okNil,builtE,gv,TD.isAgg,resV,↓reduceIte,Nat.reduceEqDiff,reduceCtorEq,Nat.reduceAdd,Nat.reduceMul,Nat.reduceLeDiff,quietOp,blindOp,Int.reduceEq,Int.reduceLT,Int.reduceLE,Nat.reduceLT,ti2,ti3,ti4,ti79,ti80,ti28,ti25,ti31,ti22,ti33,ti24,ti67,ti111,ti145,ti136,ti137,ti117,ti100, true_and]
          and_intros <;> first | omega | assumption
        · try simp (disch := first | omega | (simp only [ints_length, List.length_replicate]; done) | (simp only [ints_length, List.length_replicate]; omega)) only [Sall,evalOp,init,binE,binI,unE,convE,okNil,builtE,gv,TD.isAgg,resV,↓reduceIte,Nat.reduceEqDiff,reduceCtorEq,Nat.reduceAdd,Nat.reduceMul,Nat.reduceLeDiff,quietOp,blindOp,Int.reduceEq,Int.reduceLT,Int.reduceLE,Nat.reduceLT,ti2,ti3,ti4,ti79,ti80,ti28,ti25,ti31,ti22,ti33,ti24,ti67,ti111,ti145,ti136,ti137,ti117,ti100, h6, h5, h1, h0, w64]
          refine ⟨n - (a + 1), by omega, a + 1, by and_intros <;> first | omega | assumption | rfl⟩
    · try simp (disch := first | omega | (simp only [ints_length, List.length_replicate]; done) | (simp only [ints_length, List.length_replicate]; omega)) only [Sall,evalOp,init,binE,binI,unE,convE,okNil,builtE,gv,TD.isAgg,resV,↓reduceIte,Nat.reduceEqDiff,reduceCtorEq,Nat.reduceAdd,Nat.reduceMul,Nat.reduceLeDiff,quietOp,blindOp,Int.reduceEq,Int.reduceLT,Int.reduceLE,Nat.reduceLT,ti2,ti3,ti4,ti79,ti80,ti28,ti25,ti31,ti22,ti33,ti24,ti67,ti111,ti145,ti136,ti137,ti117,ti100, h1]
      refine ⟨by omega, Up.refl _ _⟩

theorem heldSchedule_c (v : Value) (q : Int) (n : Nat) (k0 : Int) (hk : 0 ≤ k0 ∧ k0 ≤ 4294967296) (hn : n ≤ 4294967296) (H : AH) (hv : Rd 14 H v n (seqL k0 (n * 14))) :
    ACalls Try.prog 48 [.agg #[.int .i64 q, v], .int .i64 k0] H (is (.int .i64 (k0 + n * 14)) H) := by
  refine ACalls.wf (by kernel_rfl) fun hs => acalls_up rfl (acalls_of_awp [.tmp 4] Try.func48 (by kernel_rfl) rfl rfl (Nat.le_of_ble_eq_true rfl) (by kernel_rfl) ?_)
  have up : Up H.next H (H.push ⟨33, true, [.int .i64 q, v]⟩) := (Up.refl _ H).push (Nat.le_refl _) _
  try simp (disch := first | omega | (simp only [ints_length, List.length_replicate]; done) | (simp only [ints_length, List.length_replicate]; omega)) only [Sall,evalOp,init,binE,binI,unE,convE,okNil,builtE,gv,TD.isAgg,resV,↓reduceIte,Nat.reduceEqDiff,reduceCtorEq,Nat.reduceAdd,Nat.reduceMul,Nat.reduceLeDiff,quietOp,blindOp,Int.reduceEq,Int.reduceLT,Int.reduceLE,Nat.reduceLT,ti2,ti3,ti4,ti79,ti80,ti28,ti25,ti31,ti22,ti33,ti24,ti67,ti111,ti145,ti136,ti137,ti117,ti100, true_and]
  refine (heldRoundS_c v n k0 hk hn _ (hv.same (up.le hs).row)).to ?_
  try simp (disch := first | omega | (simp only [ints_length, List.length_replicate]; done) | (simp only [ints_length, List.length_replicate]; omega)) only [Sall,evalOp,init,binE,binI,unE,convE,okNil,builtE,gv,TD.isAgg,resV,↓reduceIte,Nat.reduceEqDiff,reduceCtorEq,Nat.reduceAdd,Nat.reduceMul,Nat.reduceLeDiff,quietOp,blindOp,Int.reduceEq,Int.reduceLT,Int.reduceLE,Nat.reduceLT,ti2,ti3,ti4,ti79,ti80,ti28,ti25,ti31,ti22,ti33,ti24,ti67,ti111,ti145,ti136,ti137,ti117,ti100, true_and]
  rw [decide_eq_false (by omega)]
  try simp (disch := first | omega | (simp only [ints_length, List.length_replicate]; done) | (simp only [ints_length, List.length_replicate]; omega)) only [Sall,evalOp,init,binE,binI,unE,convE,okNil,builtE,gv,TD.isAgg,resV,↓reduceIte,Nat.reduceEqDiff,reduceCtorEq,Nat.reduceAdd,Nat.reduceMul,Nat.reduceLeDiff,quietOp,blindOp,Int.reduceEq,Int.reduceLT,Int.reduceLE,Nat.reduceLT,ti2,ti3,ti4,ti79,ti80,ti28,ti25,ti31,ti22,ti33,ti24,ti67,ti111,ti145,ti136,ti137,ti117,ti100, true_and]
  exact up

end Go.Proofs.Ytbmpkihggipciaa.A
