/- Draws of lists; zigzags, both sides; comparing lists as the laws do. And what follows. -/
import Derived.Test.YtgkmdfjjlghecaaM3
section
set_option linter.unusedSimpArgs false
set_option linter.unusedVariables false
set_option maxRecDepth 100000
set_option maxHeartbeats 2000000
namespace Go.Proofs.Ytgkmdfjjlghecaa.A
open Go Go.Abs Go.RowKit

theorem Ow.rebase {cv : Value} {nb si : Nat} {H H1 B H' : AH} {L : List Th} (o : Ow B H' L) (up : Up H.next H H1) (k : SrcB cv nb si H1 B) (hsi : H.next ≤ si) : Ow H H' L := by
  obtain ⟨w, hw⟩ := o.own
  have h1 := up.next
  have h2 := k.next
  have h3 := o.next
  refine ⟨o.sc, by omega, fun i hi => by rw [o.low i (by omega), k.row i (by omega), up.row i hi], w, fun j q hj => q.loc H' H' _ _ (fun i hi => ⟨by omega, hi.2⟩) (fun _ _ _ h => h) (hw j q hj)⟩
theorem CodeX.of {cv : Value} {nb : Nat} {H H1 : AH} (h : CodeOk H cv nb) (hs : Sc H) (up : Up H.next H H1) : CodeX cv nb H.next H1 := fun H' hk => by
  rcases h with ⟨q1, q2⟩ | ⟨i, o, u, c, r, q1, q2, q3⟩
  · exact .inl ⟨q1, q2⟩
  · have := hs _ _ q2
    exact .inr ⟨i, o, u, c, r, q1, hk _ _ (by omega) (by rw [up.row i this]; exact q2), q3⟩
theorem CodeOk.up {cv : Value} {nb : Nat} {H H1 : AH} (h : CodeOk H cv nb) (hs : ∀ i r, H.row i = some r → H1.row i = some r) : CodeOk H1 cv nb := by
  rcases h with ⟨q1, q2⟩ | ⟨i, o, u, c, r, q1, q2, q3⟩
  · exact .inl ⟨q1, q2⟩
  · exact .inr ⟨i, o, u, c, r, q1, hs _ _ q2, q3⟩

def zigE (n : Int) (k : Nat) : Int := if k % 2 = 0 then (k / 2 : Nat) else n - 1 - (k / 2 : Nat)
def zigL (n : Int) (c : Nat) : List Int := (List.range c).map (zigE n)
theorem zigL_succ (n : Int) (c : Nat) : zigL n (c + 1) = zigL n c ++ [zigE n c] := by simp [zigL, List.range_succ]
theorem zigL_length (n : Int) (c : Nat) : (zigL n c).length = c := by simp [zigL]

theorem l09Zigzag_c (n : Int) (H : AH) (hn : n ≤ 4096) :
    ACalls Try.prog 138 [.int .i64 n] H (fun v H' => Ow H H' [.sl 1 2 v n.toNat (ints (zigL n n.toNat))]) := by
  refine ACalls.wf (by kernel_rfl) fun hsc => acalls_of_awp [.tmp 2] Try.func138 (by kernel_rfl) rfl rfl (Nat.le_of_ble_eq_true rfl) (by kernel_rfl) ?_
  have o1 := (Ow.refl hsc).pushSl (k := 1) (n := 0) (ty := 2) (vs := ints []) rfl
  have zz : zeros 1 [.int .i64 0] = [.int .i64 0] := rfl
  try simp (disch := first | omega | (simp only [ints_length, List.length_replicate, List.length_set]; done) | (simp only [ints_length, List.length_replicate, List.length_set]; omega)) only [Sall,evalOp,init,binE,binI,unE,convE,okNil,builtE,gv,TD.isAgg,resV,↓reduceIte,Nat.reduceEqDiff,reduceCtorEq,Nat.reduceAdd,Nat.reduceMul,Nat.reduceLeDiff,quietOp,blindOp,Int.reduceEq,Int.reduceLT,Int.reduceLE,Nat.reduceLT,ti2,ti3,ti4,ti45,ti46,ti38,ti25,ti30,ti22,ti32,ti24,ti95,ti172,ti169,ti165,ti166,ti65,ti143,ti87,ti110,ti56,ti101,ti5,ti159,ti62,ti161,ti51,ti57,ti9, zeros_zero]
  refine awp_loop (fun z t H' => ∃ (k : Nat) (u : Value), z = n.toNat - k ∧ k ≤ n.toNat ∧ t 4 = .int .i64 k ∧ t 3 = u ∧ t 0 = .int .i64 n ∧ Ow H H' [.sl 1 2 u k (ints (zigL n k))]) n.toNat ?_ ?_
  · refine ⟨0, .slice (some ⟨H.next, 0, some 1⟩) 0 0, by omega, by omega, ?_⟩
    try simp (disch := first | omega | (simp only [ints_length, List.length_replicate, List.length_set]; done) | (simp only [ints_length, List.length_replicate, List.length_set]; omega)) only [Sall,evalOp,init,binE,binI,unE,convE,okNil,builtE,gv,TD.isAgg,resV,↓reduceIte,Nat.reduceEqDiff,reduceCtorEq,Nat.reduceAdd,Nat.reduceMul,Nat.reduceLeDiff,quietOp,blindOp,Int.reduceEq,Int.reduceLT,Int.reduceLE,Nat.reduceLT,ti2,ti3,ti4,ti45,ti46,ti38,ti25,ti30,ti22,ti32,ti24,ti95,ti172,ti169,ti165,ti166,ti65,ti143,ti87,ti110,ti56,ti101,ti5,ti159,ti62,ti161,ti51,ti57,ti9, Int.natCast_zero]
    exact o1
  · rintro z t H' ⟨k, u, hz, hk, h4, h3, h0, o2⟩
    try simp (disch := first | omega | (simp only [ints_length, List.length_replicate, List.length_set]; done) | (simp only [ints_length, List.length_replicate, List.length_set]; omega)) only [Sall,evalOp,init,binE,binI,unE,convE,okNil,builtE,gv,TD.isAgg,resV,↓reduceIte,Nat.reduceEqDiff,reduceCtorEq,Nat.reduceAdd,Nat.reduceMul,Nat.reduceLeDiff,quietOp,blindOp,Int.reduceEq,Int.reduceLT,Int.reduceLE,Nat.reduceLT,ti2,ti3,ti4,ti45,ti46,ti38,ti25,ti30,ti22,ti32,ti24,ti95,ti172,ti169,ti165,ti166,ti65,ti143,ti87,ti110,ti56,ti101,ti5,ti159,ti62,ti161,ti51,ti57,ti9, h4, h0]
    refine condC_dec (fun hh => ?_) (fun hh => ?_)
    · have et : ((k : Int).tdiv 2) = ((k / 2 : Nat) : Int) := by rw [Int.tdiv_eq_ediv_of_nonneg (by omega)]; omega
      have hl := zigL_length n k
      by_cases c0 : k % 2 = 0
      · have e0 : ((k : Int).tmod 2 == 0) = true := by rw [Int.tmod_eq_emod_of_nonneg (by omega)]; exact beq_iff_eq.2 (by omega)
        have es : zigL n (k + 1) = zigL n k ++ [((k / 2 : Nat) : Int)] := by rw [zigL_succ]; unfold zigE; rw [if_pos c0]
        try simp (disch := first | omega | (simp only [ints_length, List.length_replicate, List.length_set]; done) | (simp only [ints_length, List.length_replicate, List.length_set]; omega)) only [Sall,evalOp,init,binE,binI,unE,convE,okNil,builtE,gv,TD.isAgg,resV,↓reduceIte,Nat.reduceEqDiff,reduceCtorEq,Nat.reduceAdd,Nat.reduceMul,Nat.reduceLeDiff,quietOp,blindOp,Int.reduceEq,Int.reduceLT,Int.reduceLE,Nat.reduceLT,ti2,ti3,ti4,ti45,ti46,ti38,ti25,ti30,ti22,ti32,ti24,ti95,ti172,ti169,ti165,ti166,ti65,ti143,ti87,ti110,ti56,ti101,ti5,ti159,ti62,ti161,ti51,ti57,ti9, h4, e0, h3, h0, et, zz, slCells, w64]
        (repeat refine And.intro (by omega) ?_)
        refine (o2.tmp ⟨2, true, [.int .i64 (k / 2 : Nat)]⟩).app 0 (ms := ints [((k / 2 : Nat) : Int)]) rfl rfl (by omega) rfl (by omega) (by decide) (by omega) ?_
        intro v' H4 n4 o4
        rw [ints_append, ← es] at o4
        try simp (disch := first | omega | (simp only [ints_length, List.length_replicate, List.length_set]; done) | (simp only [ints_length, List.length_replicate, List.length_set]; omega)) only [Sall,evalOp,init,binE,binI,unE,convE,okNil,builtE,gv,TD.isAgg,resV,↓reduceIte,Nat.reduceEqDiff,reduceCtorEq,Nat.reduceAdd,Nat.reduceMul,Nat.reduceLeDiff,quietOp,blindOp,Int.reduceEq,Int.reduceLT,Int.reduceLE,Nat.reduceLT,ti2,ti3,ti4,ti45,ti46,ti38,ti25,ti30,ti22,ti32,ti24,ti95,ti172,ti169,ti165,ti166,ti65,ti143,ti87,ti110,ti56,ti101,ti5,ti159,ti62,ti161,ti51,ti57,ti9, h4, h0, w64]
        exact ⟨n.toNat - (k + 1), by omega, k + 1, v', rfl, by omega, by omega, rfl, o4⟩
      · have e0 : ((k : Int).tmod 2 == 0) = false := by rw [Int.tmod_eq_emod_of_nonneg (by omega)]; exact beq_eq_false_iff_ne.2 (by omega)
        have es : zigL n (k + 1) = zigL n k ++ [n - 1 - ((k / 2 : Nat) : Int)] := by rw [zigL_succ]; unfold zigE; rw [if_neg c0]
        try simp (disch := first | omega | (simp only [ints_length, List.length_replicate, List.length_set]; done) | (simp only [ints_length, List.length_replicate, List.length_set]; omega)) only [Sall,evalOp,init,binE,binI,unE,convE,okNil,builtE,gv,TD.isAgg,resV,↓reduceIte,Nat.reduceEqDiff,reduceCtorEq,Nat.reduceAdd,Nat.reduceMul,Nat.reduceLeDiff,quietOp,blindOp,Int.reduceEq,Int.reduceLT,Int.reduceLE,Nat.reduceLT,ti2,ti3,ti4,ti45,ti46,ti38,ti25,ti30,ti22,ti32,ti24,ti95,ti172,ti169,ti165,ti166,ti65,ti143,ti87,ti110,ti56,ti101,ti5,ti159,ti62,ti161,ti51,ti57,ti9, h4, e0, h3, h0, et, zz, slCells, w64]
        (repeat refine And.intro (by omega) ?_)
        refine (o2.tmp ⟨2, true, [.int .i64 (n - 1 - (k / 2 : Nat))]⟩).app 0 (ms := ints [n - 1 - ((k / 2 : Nat) : Int)]) rfl rfl (by omega) rfl (by omega) (by decide) (by omega) ?_
        intro v' H4 n4 o4
        rw [ints_append, ← es] at o4
        try simp (disch := first | omega | (simp only [ints_length, List.length_replicate, List.length_set]; done) | (simp only [ints_length, List.length_replicate, List.length_set]; omega)) only [Sall,evalOp,init,binE,binI,unE,convE,okNil,builtE,gv,TD.isAgg,resV,↓reduceIte,Nat.reduceEqDiff,reduceCtorEq,Nat.reduceAdd,Nat.reduceMul,Nat.reduceLeDiff,quietOp,blindOp,Int.reduceEq,Int.reduceLT,Int.reduceLE,Nat.reduceLT,ti2,ti3,ti4,ti45,ti46,ti38,ti25,ti30,ti22,ti32,ti24,ti95,ti172,ti169,ti165,ti166,ti65,ti143,ti87,ti110,ti56,ti101,ti5,ti159,ti62,ti161,ti51,ti57,ti9, h4, h0, w64]
        exact ⟨n.toNat - (k + 1), by omega, k + 1, v', rfl, by omega, by omega, rfl, o4⟩
    · have hke : k = n.toNat := by omega
      subst hke
      try simp (disch := first | omega | (simp only [ints_length, List.length_replicate, List.length_set]; done) | (simp only [ints_length, List.length_replicate, List.length_set]; omega)) only [Sall,evalOp,init,binE,binI,unE,convE,okNil,builtE,gv,TD.isAgg,resV,↓reduceIte,Nat.reduceEqDiff,reduceCtorEq,Nat.reduceAdd,Nat.reduceMul,Nat.reduceLeDiff,quietOp,blindOp,Int.reduceEq,Int.reduceLT,Int.reduceLE,Nat.reduceLT,ti2,ti3,ti4,ti45,ti46,ti38,ti25,ti30,ti22,ti32,ti24,ti95,ti172,ti169,ti165,ti166,ti65,ti143,ti87,ti110,ti56,ti101,ti5,ti159,ti62,ti161,ti51,ti57,ti9, h3]
      exact o2

def zigR (n : Int) : List Int := if 1 ≤ n ∧ n ≤ 14 then zigL n n.toNat else []
def zigC (n : Int) : Int := if 1 ≤ n ∧ n ≤ 14 then 0 else 2
theorem zigR_length (n : Int) : (zigR n).length ≤ 14 := by
  unfold zigR
  split
  · rw [zigL_length]; omega
  · simp

theorem specZigzagOf_c (n : Int) (H : AH) :
    ACalls Try.prog 62 [.int .i64 n] H (fun r H' => ∃ u, r = .tuple #[u, .int .i64 (zigC n)] ∧ Ow H H' [.sl 1 2 u (zigR n).length (ints (zigR n))]) := by
  refine ACalls.wf (by kernel_rfl) fun hsc => acalls_of_awp [.tmp 2, .tmp 3] Try.func62 (by kernel_rfl) rfl rfl (Nat.le_of_ble_eq_true rfl) (by kernel_rfl) ?_
  try simp (disch := first | omega | (simp only [ints_length, List.length_replicate, List.length_set]; done) | (simp only [ints_length, List.length_replicate, List.length_set]; omega)) only [Sall,evalOp,init,binE,binI,unE,convE,okNil,builtE,gv,TD.isAgg,resV,↓reduceIte,Nat.reduceEqDiff,reduceCtorEq,Nat.reduceAdd,Nat.reduceMul,Nat.reduceLeDiff,quietOp,blindOp,Int.reduceEq,Int.reduceLT,Int.reduceLE,Nat.reduceLT,ti2,ti3,ti4,ti45,ti46,ti38,ti25,ti30,ti22,ti32,ti24,ti95,ti172,ti169,ti165,ti166,ti65,ti143,ti87,ti110,ti56,ti101,ti5,ti159,ti62,ti161,ti51,ti57,ti9, true_and]
  refine (l01In_c n 1 14 H).to ?_
  unfold zigC zigR
  by_cases h : 1 ≤ n ∧ n ≤ 14
  · have e : decide (1 ≤ n ∧ n ≤ 14) = true := decide_eq_true h
    rw [if_pos h, if_pos h]
    refine Holds.mp ?_
    try simp (disch := first | omega | (simp only [ints_length, List.length_replicate, List.length_set]; done) | (simp only [ints_length, List.length_replicate, List.length_set]; omega)) only [Sall,evalOp,init,binE,binI,unE,convE,okNil,builtE,gv,TD.isAgg,resV,↓reduceIte,Nat.reduceEqDiff,reduceCtorEq,Nat.reduceAdd,Nat.reduceMul,Nat.reduceLeDiff,quietOp,blindOp,Int.reduceEq,Int.reduceLT,Int.reduceLE,Nat.reduceLT,ti2,ti3,ti4,ti45,ti46,ti38,ti25,ti30,ti22,ti32,ti24,ti95,ti172,ti169,ti165,ti166,ti65,ti143,ti87,ti110,ti56,ti101,ti5,ti159,ti62,ti161,ti51,ti57,ti9, e]
    refine (l09Zigzag_c n H (by omega)).mono ?_
    rintro u H' o
    have hu := o.one 0 rfl
    refine Holds.mp ?_
    try simp (disch := first | omega | (simp only [ints_length, List.length_replicate, List.length_set]; done) | (simp only [ints_length, List.length_replicate, List.length_set]; omega)) only [Sall,evalOp,init,binE,binI,unE,convE,okNil,builtE,gv,TD.isAgg,resV,↓reduceIte,Nat.reduceEqDiff,reduceCtorEq,Nat.reduceAdd,Nat.reduceMul,Nat.reduceLeDiff,quietOp,blindOp,Int.reduceEq,Int.reduceLT,Int.reduceLE,Nat.reduceLT,ti2,ti3,ti4,ti45,ti46,ti38,ti25,ti30,ti22,ti32,ti24,ti95,ti172,ti169,ti165,ti166,ti65,ti143,ti87,ti110,ti56,ti101,ti5,ti159,ti62,ti161,ti51,ti57,ti9, hu]
    rw [zigL_length]
    exact ⟨u, rfl, o⟩
  · have e : decide (1 ≤ n ∧ n ≤ 14) = false := decide_eq_false h
    rw [if_neg h, if_neg h]
    refine Holds.mp ?_
    try simp (disch := first | omega | (simp only [ints_length, List.length_replicate, List.length_set]; done) | (simp only [ints_length, List.length_replicate, List.length_set]; omega)) only [Sall,evalOp,init,binE,binI,unE,convE,okNil,builtE,gv,TD.isAgg,resV,↓reduceIte,Nat.reduceEqDiff,reduceCtorEq,Nat.reduceAdd,Nat.reduceMul,Nat.reduceLeDiff,quietOp,blindOp,Int.reduceEq,Int.reduceLT,Int.reduceLE,Nat.reduceLT,ti2,ti3,ti4,ti45,ti46,ti38,ti25,ti30,ti22,ti32,ti24,ti95,ti172,ti169,ti165,ti166,ti65,ti143,ti87,ti110,ti56,ti101,ti5,ti159,ti62,ti161,ti51,ti57,ti9, e]
    exact ⟨_, rfl, (Ow.refl hsc).addNil 1 2⟩
theorem ZigzagOf_c (n : Int) (H : AH) :
    ACalls Try.prog 61 [.int .i64 n] H (fun r H' => ∃ u, r = .tuple #[u, .int .i64 (zigC n)] ∧ Ow H H' [.sl 1 2 u (zigR n).length (ints (zigR n))]) := by
  refine ACalls.wf (by kernel_rfl) fun hsc => acalls_of_awp [.tmp 2, .tmp 3] Try.func61 (by kernel_rfl) rfl rfl (Nat.le_of_ble_eq_true rfl) (by kernel_rfl) ?_
  try simp (disch := first | omega | (simp only [ints_length, List.length_replicate, List.length_set]; done) | (simp only [ints_length, List.length_replicate, List.length_set]; omega)) only [Sall,evalOp,init,binE,binI,unE,convE,okNil,builtE,gv,TD.isAgg,resV,↓reduceIte,Nat.reduceEqDiff,reduceCtorEq,Nat.reduceAdd,Nat.reduceMul,Nat.reduceLeDiff,quietOp,blindOp,Int.reduceEq,Int.reduceLT,Int.reduceLE,Nat.reduceLT,ti2,ti3,ti4,ti45,ti46,ti38,ti25,ti30,ti22,ti32,ti24,ti95,ti172,ti169,ti165,ti166,ti65,ti143,ti87,ti110,ti56,ti101,ti5,ti159,ti62,ti161,ti51,ti57,ti9, true_and]
  refine (between_c n 1 14 H).to ?_
  unfold zigC zigR
  by_cases h : 1 ≤ n ∧ n ≤ 14
  · have e : decide (1 ≤ n ∧ n ≤ 14) = true := decide_eq_true h
    rw [if_pos h, if_pos h, zigL_length]
    have o1 := (Ow.refl hsc).pushSl (k := 1) (n := 0) (ty := 2) (vs := ints []) rfl
    have zz : zeros 1 [.int .i64 0] = [.int .i64 0] := rfl
    refine Holds.mp ?_
    try simp (disch := first | omega | (simp only [ints_length, List.length_replicate, List.length_set]; done) | (simp only [ints_length, List.length_replicate, List.length_set]; omega)) only [Sall,evalOp,init,binE,binI,unE,convE,okNil,builtE,gv,TD.isAgg,resV,↓reduceIte,Nat.reduceEqDiff,reduceCtorEq,Nat.reduceAdd,Nat.reduceMul,Nat.reduceLeDiff,quietOp,blindOp,Int.reduceEq,Int.reduceLT,Int.reduceLE,Nat.reduceLT,ti2,ti3,ti4,ti45,ti46,ti38,ti25,ti30,ti22,ti32,ti24,ti95,ti172,ti169,ti165,ti166,ti65,ti143,ti87,ti110,ti56,ti101,ti5,ti159,ti62,ti161,ti51,ti57,ti9, e, zeros_zero]
    refine awp_loop (fun z t H' => ∃ (k : Nat) (u : Value), z = n.toNat - k ∧ k ≤ n.toNat ∧ t 12 = .int .i64 k ∧ t 11 = .int .i64 n ∧ t 4 = u ∧ t 0 = .int .i64 n ∧ Ow H H' [.sl 1 2 u k (ints (zigL n k))]) n.toNat ?_ ?_
    · refine ⟨0, .slice (some ⟨H.next, 0, some 1⟩) 0 0, by omega, by omega, ?_⟩
      try simp (disch := first | omega | (simp only [ints_length, List.length_replicate, List.length_set]; done) | (simp only [ints_length, List.length_replicate, List.length_set]; omega)) only [Sall,evalOp,init,binE,binI,unE,convE,okNil,builtE,gv,TD.isAgg,resV,↓reduceIte,Nat.reduceEqDiff,reduceCtorEq,Nat.reduceAdd,Nat.reduceMul,Nat.reduceLeDiff,quietOp,blindOp,Int.reduceEq,Int.reduceLT,Int.reduceLE,Nat.reduceLT,ti2,ti3,ti4,ti45,ti46,ti38,ti25,ti30,ti22,ti32,ti24,ti95,ti172,ti169,ti165,ti166,ti65,ti143,ti87,ti110,ti56,ti101,ti5,ti159,ti62,ti161,ti51,ti57,ti9, Int.natCast_zero]
      exact o1
    · rintro z t H' ⟨k, u, hz, hk, h12, h11, h4, h0, o2⟩
      try simp (disch := first | omega | (simp only [ints_length, List.length_replicate, List.length_set]; done) | (simp only [ints_length, List.length_replicate, List.length_set]; omega)) only [Sall,evalOp,init,binE,binI,unE,convE,okNil,builtE,gv,TD.isAgg,resV,↓reduceIte,Nat.reduceEqDiff,reduceCtorEq,Nat.reduceAdd,Nat.reduceMul,Nat.reduceLeDiff,quietOp,blindOp,Int.reduceEq,Int.reduceLT,Int.reduceLE,Nat.reduceLT,ti2,ti3,ti4,ti45,ti46,ti38,ti25,ti30,ti22,ti32,ti24,ti95,ti172,ti169,ti165,ti166,ti65,ti143,ti87,ti110,ti56,ti101,ti5,ti159,ti62,ti161,ti51,ti57,ti9, h12, h11]
      refine condC_dec (fun hh => ?_) (fun hh => ?_)
      · have et : ((k : Int).tdiv 2) = ((k / 2 : Nat) : Int) := by rw [Int.tdiv_eq_ediv_of_nonneg (by omega)]; omega
        have hl := zigL_length n k
        by_cases c0 : k % 2 = 0
        · have e0 : ((k : Int).tmod 2 == 1) = false := by rw [Int.tmod_eq_emod_of_nonneg (by omega)]; exact beq_eq_false_iff_ne.2 (by omega)
          have es : zigL n (k + 1) = zigL n k ++ [((k / 2 : Nat) : Int)] := by rw [zigL_succ]; unfold zigE; rw [if_pos c0]
          try simp (disch := first | omega | (simp only [ints_length, List.length_replicate, List.length_set]; done) | (simp only [ints_length, List.length_replicate, List.length_set]; omega)) only [Sall,evalOp,init,binE,binI,unE,convE,okNil,builtE,gv,TD.isAgg,resV,↓reduceIte,Nat.reduceEqDiff,reduceCtorEq,Nat.reduceAdd,Nat.reduceMul,Nat.reduceLeDiff,quietOp,blindOp,Int.reduceEq,Int.reduceLT,Int.reduceLE,Nat.reduceLT,ti2,ti3,ti4,ti45,ti46,ti38,ti25,ti30,ti22,ti32,ti24,ti95,ti172,ti169,ti165,ti166,ti65,ti143,ti87,ti110,ti56,ti101,ti5,ti159,ti62,ti161,ti51,ti57,ti9, h12, h11, e0, h4, h0, et, zz, slCells, w64]
          (repeat refine And.intro (by omega) ?_)
          try simp (disch := first | omega | (simp only [ints_length, List.length_replicate, List.length_set]; done) | (simp only [ints_length, List.length_replicate, List.length_set]; omega)) only [Sall,evalOp,init,binE,binI,unE,convE,okNil,builtE,gv,TD.isAgg,resV,↓reduceIte,Nat.reduceEqDiff,reduceCtorEq,Nat.reduceAdd,Nat.reduceMul,Nat.reduceLeDiff,quietOp,blindOp,Int.reduceEq,Int.reduceLT,Int.reduceLE,Nat.reduceLT,ti2,ti3,ti4,ti45,ti46,ti38,ti25,ti30,ti22,ti32,ti24,ti95,ti172,ti169,ti165,ti166,ti65,ti143,ti87,ti110,ti56,ti101,ti5,ti159,ti62,ti161,ti51,ti57,ti9, h12, h11, e0, h4, h0, et, zz, slCells, w64]
          refine (o2.tmp ⟨2, true, [.int .i64 (k / 2 : Nat)]⟩).app 0 (ms := ints [((k / 2 : Nat) : Int)]) rfl rfl (by omega) rfl (by omega) (by decide) (by omega) ?_
          intro v' H4 n4 o4
          rw [ints_append, ← es] at o4
          try simp (disch := first | omega | (simp only [ints_length, List.length_replicate, List.length_set]; done) | (simp only [ints_length, List.length_replicate, List.length_set]; omega)) only [Sall,evalOp,init,binE,binI,unE,convE,okNil,builtE,gv,TD.isAgg,resV,↓reduceIte,Nat.reduceEqDiff,reduceCtorEq,Nat.reduceAdd,Nat.reduceMul,Nat.reduceLeDiff,quietOp,blindOp,Int.reduceEq,Int.reduceLT,Int.reduceLE,Nat.reduceLT,ti2,ti3,ti4,ti45,ti46,ti38,ti25,ti30,ti22,ti32,ti24,ti95,ti172,ti169,ti165,ti166,ti65,ti143,ti87,ti110,ti56,ti101,ti5,ti159,ti62,ti161,ti51,ti57,ti9, h12, h11, h0, w64]
          exact ⟨n.toNat - (k + 1), by omega, k + 1, v', rfl, by omega, by omega, rfl, o4⟩
        · have e0 : ((k : Int).tmod 2 == 1) = true := by rw [Int.tmod_eq_emod_of_nonneg (by omega)]; exact beq_iff_eq.2 (by omega)
          have es : zigL n (k + 1) = zigL n k ++ [n - 1 - ((k / 2 : Nat) : Int)] := by rw [zigL_succ]; unfold zigE; rw [if_neg c0]
          try simp (disch := first | omega | (simp only [ints_length, List.length_replicate, List.length_set]; done) | (simp only [ints_length, List.length_replicate, List.length_set]; omega)) only [Sall,evalOp,init,binE,binI,unE,convE,okNil,builtE,gv,TD.isAgg,resV,↓reduceIte,Nat.reduceEqDiff,reduceCtorEq,Nat.reduceAdd,Nat.reduceMul,Nat.reduceLeDiff,quietOp,blindOp,Int.reduceEq,Int.reduceLT,Int.reduceLE,Nat.reduceLT,ti2,ti3,ti4,ti45,ti46,ti38,ti25,ti30,ti22,ti32,ti24,ti95,ti172,ti169,ti165,ti166,ti65,ti143,ti87,ti110,ti56,ti101,ti5,ti159,ti62,ti161,ti51,ti57,ti9, h12, h11, e0, h4, h0, et, zz, slCells, w64]
          (repeat refine And.intro (by omega) ?_)
          try simp (disch := first | omega | (simp only [ints_length, List.length_replicate, List.length_set]; done) | (simp only [ints_length, List.length_replicate, List.length_set]; omega)) only [Sall,evalOp,init,binE,binI,unE,convE,okNil,builtE,gv,TD.isAgg,resV,↓reduceIte,Nat.reduceEqDiff,reduceCtorEq,Nat.reduceAdd,Nat.reduceMul,Nat.reduceLeDiff,quietOp,blindOp,Int.reduceEq,Int.reduceLT,Int.reduceLE,Nat.reduceLT,ti2,ti3,ti4,ti45,ti46,ti38,ti25,ti30,ti22,ti32,ti24,ti95,ti172,ti169,ti165,ti166,ti65,ti143,ti87,ti110,ti56,ti101,ti5,ti159,ti62,ti161,ti51,ti57,ti9, h12, h11, e0, h4, h0, et, zz, slCells, w64]
          refine (o2.tmp ⟨2, true, [.int .i64 (n - 1 - (k / 2 : Nat))]⟩).app 0 (ms := ints [n - 1 - ((k / 2 : Nat) : Int)]) rfl rfl (by omega) rfl (by omega) (by decide) (by omega) ?_
          intro v' H4 n4 o4
          rw [ints_append, ← es] at o4
          try simp (disch := first | omega | (simp only [ints_length, List.length_replicate, List.length_set]; done) | (simp only [ints_length, List.length_replicate, List.length_set]; omega)) only [Sall,evalOp,init,binE,binI,unE,convE,okNil,builtE,gv,TD.isAgg,resV,↓reduceIte,Nat.reduceEqDiff,reduceCtorEq,Nat.reduceAdd,Nat.reduceMul,Nat.reduceLeDiff,quietOp,blindOp,Int.reduceEq,Int.reduceLT,Int.reduceLE,Nat.reduceLT,ti2,ti3,ti4,ti45,ti46,ti38,ti25,ti30,ti22,ti32,ti24,ti95,ti172,ti169,ti165,ti166,ti65,ti143,ti87,ti110,ti56,ti101,ti5,ti159,ti62,ti161,ti51,ti57,ti9, h12, h11, h0, w64]
          exact ⟨n.toNat - (k + 1), by omega, k + 1, v', rfl, by omega, by omega, rfl, o4⟩
      · have hke : k = n.toNat := by omega
        subst hke
        have hu := o2.one 0 rfl
        try simp (disch := first | omega | (simp only [ints_length, List.length_replicate, List.length_set]; done) | (simp only [ints_length, List.length_replicate, List.length_set]; omega)) only [Sall,evalOp,init,binE,binI,unE,convE,okNil,builtE,gv,TD.isAgg,resV,↓reduceIte,Nat.reduceEqDiff,reduceCtorEq,Nat.reduceAdd,Nat.reduceMul,Nat.reduceLeDiff,quietOp,blindOp,Int.reduceEq,Int.reduceLT,Int.reduceLE,Nat.reduceLT,ti2,ti3,ti4,ti45,ti46,ti38,ti25,ti30,ti22,ti32,ti24,ti95,ti172,ti169,ti165,ti166,ti65,ti143,ti87,ti110,ti56,ti101,ti5,ti159,ti62,ti161,ti51,ti57,ti9, h4, hu]
        exact ⟨u, rfl, o2⟩
  · have e : decide (1 ≤ n ∧ n ≤ 14) = false := decide_eq_false h
    rw [if_neg h, if_neg h]
    refine Holds.mp ?_
    try simp (disch := first | omega | (simp only [ints_length, List.length_replicate, List.length_set]; done) | (simp only [ints_length, List.length_replicate, List.length_set]; omega)) only [Sall,evalOp,init,binE,binI,unE,convE,okNil,builtE,gv,TD.isAgg,resV,↓reduceIte,Nat.reduceEqDiff,reduceCtorEq,Nat.reduceAdd,Nat.reduceMul,Nat.reduceLeDiff,quietOp,blindOp,Int.reduceEq,Int.reduceLT,Int.reduceLE,Nat.reduceLT,ti2,ti3,ti4,ti45,ti46,ti38,ti25,ti30,ti22,ti32,ti24,ti95,ti172,ti169,ti165,ti166,ti65,ti143,ti87,ti110,ti56,ti101,ti5,ti159,ti62,ti161,ti51,ti57,ti9, e]
    exact ⟨_, rfl, (Ow.refl hsc).addNil 1 2⟩
end Go.Proofs.Ytgkmdfjjlghecaa.A
end

section
set_option linter.unusedSimpArgs false
set_option linter.unusedVariables false
set_option maxRecDepth 100000
set_option maxHeartbeats 2000000
namespace Go.Proofs.Ytgkmdfjjlghecaa.A
open Go Go.Abs Go.RowKit

theorem big_c (cv : Value) (nb : Nat) (H : AH) (hc : CodeOk H cv nb) : ACalls Try.prog 38 [cv] H (is (.bool (decide (4096 < (nb : Int)))) H) := by
  refine acalls_of_awp [.tmp 2] Try.func38 (by kernel_rfl) rfl rfl (Nat.le_of_ble_eq_true rfl) (by kernel_rfl) ?_
  have hln := hc.len
  try simp (disch := first | omega | (simp only [ints_length, List.length_replicate, List.length_set]; done) | (simp only [ints_length, List.length_replicate, List.length_set]; omega)) only [Sall,evalOp,init,binE,binI,unE,convE,okNil,builtE,gv,TD.isAgg,resV,↓reduceIte,Nat.reduceEqDiff,reduceCtorEq,Nat.reduceAdd,Nat.reduceMul,Nat.reduceLeDiff,quietOp,blindOp,Int.reduceEq,Int.reduceLT,Int.reduceLE,Nat.reduceLT,ti2,ti3,ti4,ti45,ti46,ti38,ti25,ti30,ti22,ti32,ti24,ti95,ti172,ti169,ti165,ti166,ti65,ti143,ti87,ti110,ti56,ti101,ti5,ti159,ti62,ti161,ti51,ti57,ti9, hln, builtE]
  exact ⟨rfl, rfl⟩

theorem likeInts_c (a b : Value) (n : Nat) (l : List Int) (H : AH) (hn : n ≤ 4294967296) (ha : Rd 1 H a n l) (hb : Rd 1 H b n l) : ACalls Try.prog 48 [a, b] H (is (.bool true) H) := by
  refine acalls_of_awp [.tmp 4] Try.func48 (by kernel_rfl) rfl rfl (Nat.le_of_ble_eq_true rfl) (by kernel_rfl) ?_
  have la := ha.len
  have lb := hb.len
  try simp (disch := first | omega | (simp only [ints_length, List.length_replicate, List.length_set]; done) | (simp only [ints_length, List.length_replicate, List.length_set]; omega)) only [Sall,evalOp,init,binE,binI,unE,convE,okNil,builtE,gv,TD.isAgg,resV,↓reduceIte,Nat.reduceEqDiff,reduceCtorEq,Nat.reduceAdd,Nat.reduceMul,Nat.reduceLeDiff,quietOp,blindOp,Int.reduceEq,Int.reduceLT,Int.reduceLE,Nat.reduceLT,ti2,ti3,ti4,ti45,ti46,ti38,ti25,ti30,ti22,ti32,ti24,ti95,ti172,ti169,ti165,ti166,ti65,ti143,ti87,ti110,ti56,ti101,ti5,ti159,ti62,ti161,ti51,ti57,ti9, la, lb, builtE, bne_self_eq_false]
  refine awp_loop (fun z t H' => H' = H ∧ ∃ j : Nat, z = n - j ∧ j ≤ n ∧ t 5 = .int .i64 j ∧ t 0 = a ∧ t 1 = b) n ?_ ?_
  · refine ⟨rfl, 0, by omega, by omega, ?_⟩
    try simp (disch := first | omega | (simp only [ints_length, List.length_replicate, List.length_set]; done) | (simp only [ints_length, List.length_replicate, List.length_set]; omega)) only [Sall,evalOp,init,binE,binI,unE,convE,okNil,builtE,gv,TD.isAgg,resV,↓reduceIte,Nat.reduceEqDiff,reduceCtorEq,Nat.reduceAdd,Nat.reduceMul,Nat.reduceLeDiff,quietOp,blindOp,Int.reduceEq,Int.reduceLT,Int.reduceLE,Nat.reduceLT,ti2,ti3,ti4,ti45,ti46,ti38,ti25,ti30,ti22,ti32,ti24,ti95,ti172,ti169,ti165,ti166,ti65,ti143,ti87,ti110,ti56,ti101,ti5,ti159,ti62,ti161,ti51,ti57,ti9, Int.natCast_zero]
  · rintro z t H' ⟨rfl, j, hz, hj, h5, h0, h1⟩
    try simp (disch := first | omega | (simp only [ints_length, List.length_replicate, List.length_set]; done) | (simp only [ints_length, List.length_replicate, List.length_set]; omega)) only [Sall,evalOp,init,binE,binI,unE,convE,okNil,builtE,gv,TD.isAgg,resV,↓reduceIte,Nat.reduceEqDiff,reduceCtorEq,Nat.reduceAdd,Nat.reduceMul,Nat.reduceLeDiff,quietOp,blindOp,Int.reduceEq,Int.reduceLT,Int.reduceLE,Nat.reduceLT,ti2,ti3,ti4,ti45,ti46,ti38,ti25,ti30,ti22,ti32,ti24,ti95,ti172,ti169,ti165,ti166,ti65,ti143,ti87,ti110,ti56,ti101,ti5,ti159,ti62,ti161,ti51,ti57,ti9, h5, h0, la, builtE]
    refine condC_dec (fun hh => ?_) (fun hh => ?_)
    · obtain ⟨ai, ao, au, ac, ar, rfl, a1, a2, a3, a4⟩ := ha.get (by omega)
      obtain ⟨bi, bo, bu, bc, br, rfl, b1, b2, b3, b4⟩ := hb.get (by omega)
      have a5 := a3 j (by omega)
      have b5 := b3 j (by omega)
      try simp (disch := first | omega | (simp only [ints_length, List.length_replicate, List.length_set]; done) | (simp only [ints_length, List.length_replicate, List.length_set]; omega)) only [Sall,evalOp,init,binE,binI,unE,convE,okNil,builtE,gv,TD.isAgg,resV,↓reduceIte,Nat.reduceEqDiff,reduceCtorEq,Nat.reduceAdd,Nat.reduceMul,Nat.reduceLeDiff,quietOp,blindOp,Int.reduceEq,Int.reduceLT,Int.reduceLE,Nat.reduceLT,ti2,ti3,ti4,ti45,ti46,ti38,ti25,ti30,ti22,ti32,ti24,ti95,ti172,ti169,ti165,ti166,ti65,ti143,ti87,ti110,ti56,ti101,ti5,ti159,ti62,ti161,ti51,ti57,ti9, h5, h0, h1]
      refine draw_id (by kernel_rfl) (by kernel_rfl) ?_
      try simp (disch := first | omega | (simp only [ints_length, List.length_replicate, List.length_set]; done) | (simp only [ints_length, List.length_replicate, List.length_set]; omega)) only [Sall,evalOp,init,binE,binI,unE,convE,okNil,builtE,gv,TD.isAgg,resV,↓reduceIte,Nat.reduceEqDiff,reduceCtorEq,Nat.reduceAdd,Nat.reduceMul,Nat.reduceLeDiff,quietOp,blindOp,Int.reduceEq,Int.reduceLT,Int.reduceLE,Nat.reduceLT,ti2,ti3,ti4,ti45,ti46,ti38,ti25,ti30,ti22,ti32,ti24,ti95,ti172,ti169,ti165,ti166,ti65,ti143,ti87,ti110,ti56,ti101,ti5,ti159,ti62,ti161,ti51,ti57,ti9, h5, h0, h1, a1, a5, b1, b5, bne_self_eq_false, w64]
      (repeat refine And.intro (by omega) ?_)
      try simp (disch := first | omega | (simp only [ints_length, List.length_replicate, List.length_set]; done) | (simp only [ints_length, List.length_replicate, List.length_set]; omega)) only [Sall,evalOp,init,binE,binI,unE,convE,okNil,builtE,gv,TD.isAgg,resV,↓reduceIte,Nat.reduceEqDiff,reduceCtorEq,Nat.reduceAdd,Nat.reduceMul,Nat.reduceLeDiff,quietOp,blindOp,Int.reduceEq,Int.reduceLT,Int.reduceLE,Nat.reduceLT,ti2,ti3,ti4,ti45,ti46,ti38,ti25,ti30,ti22,ti32,ti24,ti95,ti172,ti169,ti165,ti166,ti65,ti143,ti87,ti110,ti56,ti101,ti5,ti159,ti62,ti161,ti51,ti57,ti9, h5, h0, h1, a1, a5, b1, b5, bne_self_eq_false, w64]
      exact ⟨n - (j + 1), by omega, j + 1, rfl, by omega, rfl⟩
    · try simp (disch := first | omega | (simp only [ints_length, List.length_replicate, List.length_set]; done) | (simp only [ints_length, List.length_replicate, List.length_set]; omega)) only [Sall,evalOp,init,binE,binI,unE,convE,okNil,builtE,gv,TD.isAgg,resV,↓reduceIte,Nat.reduceEqDiff,reduceCtorEq,Nat.reduceAdd,Nat.reduceMul,Nat.reduceLeDiff,quietOp,blindOp,Int.reduceEq,Int.reduceLT,Int.reduceLE,Nat.reduceLT,ti2,ti3,ti4,ti45,ti46,ti38,ti25,ti30,ti22,ti32,ti24,ti95,ti172,ti169,ti165,ti166,ti65,ti143,ti87,ti110,ti56,ti101,ti5,ti159,ti62,ti161,ti51,ti57,ti9, true_and]
      exact ⟨rfl, rfl⟩

theorem rows5_c (a b : Value) (ll : List (List Int)) (H : AH) (hn : ll.length ≤ 4294967296) (hr : ∀ j, j < ll.length → (ll.getD j []).length ≤ 4294967296) (ha : Rd2 1 H a ll) (hb : Rd2 1 H b ll) : ACalls Try.prog 57 [a, b] H (is (.bool true) H) := by
  refine acalls_of_awp [.tmp 4] Try.func57 (by kernel_rfl) rfl rfl (Nat.le_of_ble_eq_true rfl) (by kernel_rfl) ?_
  have la := ha.len
  have lb := hb.len
  try simp (disch := first | omega | (simp only [ints_length, List.length_replicate, List.length_set]; done) | (simp only [ints_length, List.length_replicate, List.length_set]; omega)) only [Sall,evalOp,init,binE,binI,unE,convE,okNil,builtE,gv,TD.isAgg,resV,↓reduceIte,Nat.reduceEqDiff,reduceCtorEq,Nat.reduceAdd,Nat.reduceMul,Nat.reduceLeDiff,quietOp,blindOp,Int.reduceEq,Int.reduceLT,Int.reduceLE,Nat.reduceLT,ti2,ti3,ti4,ti45,ti46,ti38,ti25,ti30,ti22,ti32,ti24,ti95,ti172,ti169,ti165,ti166,ti65,ti143,ti87,ti110,ti56,ti101,ti5,ti159,ti62,ti161,ti51,ti57,ti9, la, lb, builtE, bne_self_eq_false]
  refine awp_loop (fun z t H' => H' = H ∧ ∃ j : Nat, z = ll.length - j ∧ j ≤ ll.length ∧ t 5 = .int .i64 j ∧ t 0 = a ∧ t 1 = b) ll.length ?_ ?_
  · refine ⟨rfl, 0, by omega, by omega, ?_⟩
    try simp (disch := first | omega | (simp only [ints_length, List.length_replicate, List.length_set]; done) | (simp only [ints_length, List.length_replicate, List.length_set]; omega)) only [Sall,evalOp,init,binE,binI,unE,convE,okNil,builtE,gv,TD.isAgg,resV,↓reduceIte,Nat.reduceEqDiff,reduceCtorEq,Nat.reduceAdd,Nat.reduceMul,Nat.reduceLeDiff,quietOp,blindOp,Int.reduceEq,Int.reduceLT,Int.reduceLE,Nat.reduceLT,ti2,ti3,ti4,ti45,ti46,ti38,ti25,ti30,ti22,ti32,ti24,ti95,ti172,ti169,ti165,ti166,ti65,ti143,ti87,ti110,ti56,ti101,ti5,ti159,ti62,ti161,ti51,ti57,ti9, Int.natCast_zero]
  · rintro z t H' ⟨rfl, j, hz, hj, h5, h0, h1⟩
    try simp (disch := first | omega | (simp only [ints_length, List.length_replicate, List.length_set]; done) | (simp only [ints_length, List.length_replicate, List.length_set]; omega)) only [Sall,evalOp,init,binE,binI,unE,convE,okNil,builtE,gv,TD.isAgg,resV,↓reduceIte,Nat.reduceEqDiff,reduceCtorEq,Nat.reduceAdd,Nat.reduceMul,Nat.reduceLeDiff,quietOp,blindOp,Int.reduceEq,Int.reduceLT,Int.reduceLE,Nat.reduceLT,ti2,ti3,ti4,ti45,ti46,ti38,ti25,ti30,ti22,ti32,ti24,ti95,ti172,ti169,ti165,ti166,ti65,ti143,ti87,ti110,ti56,ti101,ti5,ti159,ti62,ti161,ti51,ti57,ti9, h5, h0, la, builtE]
    refine condC_dec (fun hh => ?_) (fun hh => ?_)
    · obtain ⟨ai, ao, au, ac, ar, ax, am, rfl, a1, a2, a3, a4⟩ := ha.get (j := j) (by omega)
      obtain ⟨bi, bo, bu, bc, br, bx, bm, rfl, b1, b2, b3, b4⟩ := hb.get (j := j) (by omega)
      have a5 := a3.lenK1
      have b5 := b3.lenK1
      rw [a5] at a3
      rw [b5] at b3
      have hj2 := hr j (by omega)
      try simp (disch := first | omega | (simp only [ints_length, List.length_replicate, List.length_set]; done) | (simp only [ints_length, List.length_replicate, List.length_set]; omega)) only [Sall,evalOp,init,binE,binI,unE,convE,okNil,builtE,gv,TD.isAgg,resV,↓reduceIte,Nat.reduceEqDiff,reduceCtorEq,Nat.reduceAdd,Nat.reduceMul,Nat.reduceLeDiff,quietOp,blindOp,Int.reduceEq,Int.reduceLT,Int.reduceLE,Nat.reduceLT,ti2,ti3,ti4,ti45,ti46,ti38,ti25,ti30,ti22,ti32,ti24,ti95,ti172,ti169,ti165,ti166,ti65,ti143,ti87,ti110,ti56,ti101,ti5,ti159,ti62,ti161,ti51,ti57,ti9, h5, h0, h1]
      refine draw_id (by kernel_rfl) (by kernel_rfl) ?_
      try simp (disch := first | omega | (simp only [ints_length, List.length_replicate, List.length_set]; done) | (simp only [ints_length, List.length_replicate, List.length_set]; omega)) only [Sall,evalOp,init,binE,binI,unE,convE,okNil,builtE,gv,TD.isAgg,resV,↓reduceIte,Nat.reduceEqDiff,reduceCtorEq,Nat.reduceAdd,Nat.reduceMul,Nat.reduceLeDiff,quietOp,blindOp,Int.reduceEq,Int.reduceLT,Int.reduceLE,Nat.reduceLT,ti2,ti3,ti4,ti45,ti46,ti38,ti25,ti30,ti22,ti32,ti24,ti95,ti172,ti169,ti165,ti166,ti65,ti143,ti87,ti110,ti56,ti101,ti5,ti159,ti62,ti161,ti51,ti57,ti9, h5, h0, h1, a1, a2, a4, b1, b2, b4]
      (repeat refine And.intro (by omega) ?_)
      try simp (disch := first | omega | (simp only [ints_length, List.length_replicate, List.length_set]; done) | (simp only [ints_length, List.length_replicate, List.length_set]; omega)) only [Sall,evalOp,init,binE,binI,unE,convE,okNil,builtE,gv,TD.isAgg,resV,↓reduceIte,Nat.reduceEqDiff,reduceCtorEq,Nat.reduceAdd,Nat.reduceMul,Nat.reduceLeDiff,quietOp,blindOp,Int.reduceEq,Int.reduceLT,Int.reduceLE,Nat.reduceLT,ti2,ti3,ti4,ti45,ti46,ti38,ti25,ti30,ti22,ti32,ti24,ti95,ti172,ti169,ti165,ti166,ti65,ti143,ti87,ti110,ti56,ti101,ti5,ti159,ti62,ti161,ti51,ti57,ti9, h5, h0, h1, a1, a2, a4, b1, b2, b4]
      refine (likeInts_c ax bx _ _ H' hj2 a3 b3).to ?_
      refine ⟨.inr (.inr (LE.refl _)), ?_⟩
      try simp (disch := first | omega | (simp only [ints_length, List.length_replicate, List.length_set]; done) | (simp only [ints_length, List.length_replicate, List.length_set]; omega)) only [Sall,evalOp,init,binE,binI,unE,convE,okNil,builtE,gv,TD.isAgg,resV,↓reduceIte,Nat.reduceEqDiff,reduceCtorEq,Nat.reduceAdd,Nat.reduceMul,Nat.reduceLeDiff,quietOp,blindOp,Int.reduceEq,Int.reduceLT,Int.reduceLE,Nat.reduceLT,ti2,ti3,ti4,ti45,ti46,ti38,ti25,ti30,ti22,ti32,ti24,ti95,ti172,ti169,ti165,ti166,ti65,ti143,ti87,ti110,ti56,ti101,ti5,ti159,ti62,ti161,ti51,ti57,ti9, h5, h0, h1, w64]
      exact ⟨ll.length - (j + 1), by omega, j + 1, rfl, by omega, rfl⟩
    · try simp (disch := first | omega | (simp only [ints_length, List.length_replicate, List.length_set]; done) | (simp only [ints_length, List.length_replicate, List.length_set]; omega)) only [Sall,evalOp,init,binE,binI,unE,convE,okNil,builtE,gv,TD.isAgg,resV,↓reduceIte,Nat.reduceEqDiff,reduceCtorEq,Nat.reduceAdd,Nat.reduceMul,Nat.reduceLeDiff,quietOp,blindOp,Int.reduceEq,Int.reduceLT,Int.reduceLE,Nat.reduceLT,ti2,ti3,ti4,ti45,ti46,ti38,ti25,ti30,ti22,ti32,ti24,ti95,ti172,ti169,ti165,ti166,ti65,ti143,ti87,ti110,ti56,ti101,ti5,ti159,ti62,ti161,ti51,ti57,ti9, true_and]
      exact ⟨rfl, rfl⟩

theorem drawZig_c (cv : Value) (nb : Nat) (H : AH) (hnb : nb ≤ 4611686018427387904) (hc : CodeOk H cv nb) :
    ACalls Try.prog 60 [cv] H (fun v H' => ∃ x : Int, v = .int .i64 x ∧ -4611686018427387904 ≤ x ∧ x ≤ 2199023255552 ∧ Ow H H' []) := by
  refine ACalls.wf (by kernel_rfl) fun hsc => acalls_of_awp [.tmp 2] Try.func60 (by kernel_rfl) rfl rfl (Nat.le_of_ble_eq_true rfl) (by kernel_rfl) ?_
  try simp (disch := first | omega | (simp only [ints_length, List.length_replicate, List.length_set]; done) | (simp only [ints_length, List.length_replicate, List.length_set]; omega)) only [Sall,evalOp,init,binE,binI,unE,convE,okNil,builtE,gv,TD.isAgg,resV,↓reduceIte,Nat.reduceEqDiff,reduceCtorEq,Nat.reduceAdd,Nat.reduceMul,Nat.reduceLeDiff,quietOp,blindOp,Int.reduceEq,Int.reduceLT,Int.reduceLE,Nat.reduceLT,ti2,ti3,ti4,ti45,ti46,ti38,ti25,ti30,ti22,ti32,ti24,ti95,ti172,ti169,ti165,ti166,ti65,ti143,ti87,ti110,ti56,ti101,ti5,ti159,ti62,ti161,ti51,ti57,ti9, true_and]
  refine (l01From_c cv nb H hnb hc).fin ?_
  rintro H1 ⟨up1, sc1, n1, s1⟩
  have hx := CodeX.of hc hsc up1
  refine Holds.mp ?_
  try simp (disch := first | omega | (simp only [ints_length, List.length_replicate, List.length_set]; done) | (simp only [ints_length, List.length_replicate, List.length_set]; omega)) only [Sall,evalOp,init,binE,binI,unE,convE,okNil,builtE,gv,TD.isAgg,resV,↓reduceIte,Nat.reduceEqDiff,reduceCtorEq,Nat.reduceAdd,Nat.reduceMul,Nat.reduceLeDiff,quietOp,blindOp,Int.reduceEq,Int.reduceLT,Int.reduceLE,Nat.reduceLT,ti2,ti3,ti4,ti45,ti46,ti38,ti25,ti30,ti22,ti32,ti24,ti95,ti172,ti169,ti165,ti166,ti65,ti143,ti87,ti110,ti56,ti101,ti5,ti159,ti62,ti161,ti51,ti57,ti9, true_and]
  refine (l01Near_c cv nb H.next 13 H1 (by omega) hnb s1 hx sc1).ex ?_
  rintro x H2 ⟨h1, h2, H3, h3, h4⟩
  refine Holds.mp ?_
  try simp (disch := first | omega | (simp only [ints_length, List.length_replicate, List.length_set]; done) | (simp only [ints_length, List.length_replicate, List.length_set]; omega)) only [Sall,evalOp,init,binE,binI,unE,convE,okNil,builtE,gv,TD.isAgg,resV,↓reduceIte,Nat.reduceEqDiff,reduceCtorEq,Nat.reduceAdd,Nat.reduceMul,Nat.reduceLeDiff,quietOp,blindOp,Int.reduceEq,Int.reduceLT,Int.reduceLE,Nat.reduceLT,ti2,ti3,ti4,ti45,ti46,ti38,ti25,ti30,ti22,ti32,ti24,ti95,ti172,ti169,ti165,ti166,ti65,ti143,ti87,ti110,ti56,ti101,ti5,ti159,ti62,ti161,ti51,ti57,ti9, w64]
  exact ⟨by omega, by omega, Ow.rebase h4 up1 h3 (Nat.le_refl _)⟩
theorem drawCount_c (cv : Value) (nb : Nat) (H : AH) (hnb : nb ≤ 4611686018427387904) (hc : CodeOk H cv nb) :
    ACalls Try.prog 66 [cv] H (fun v H' => ∃ x : Int, v = .int .i64 x ∧ -4611686018427387904 ≤ x ∧ x ≤ 2199023255552 ∧ Ow H H' []) := by
  refine ACalls.wf (by kernel_rfl) fun hsc => acalls_of_awp [.tmp 2] Try.func66 (by kernel_rfl) rfl rfl (Nat.le_of_ble_eq_true rfl) (by kernel_rfl) ?_
  try simp (disch := first | omega | (simp only [ints_length, List.length_replicate, List.length_set]; done) | (simp only [ints_length, List.length_replicate, List.length_set]; omega)) only [Sall,evalOp,init,binE,binI,unE,convE,okNil,builtE,gv,TD.isAgg,resV,↓reduceIte,Nat.reduceEqDiff,reduceCtorEq,Nat.reduceAdd,Nat.reduceMul,Nat.reduceLeDiff,quietOp,blindOp,Int.reduceEq,Int.reduceLT,Int.reduceLE,Nat.reduceLT,ti2,ti3,ti4,ti45,ti46,ti38,ti25,ti30,ti22,ti32,ti24,ti95,ti172,ti169,ti165,ti166,ti65,ti143,ti87,ti110,ti56,ti101,ti5,ti159,ti62,ti161,ti51,ti57,ti9, true_and]
  refine (l01From_c cv nb H hnb hc).fin ?_
  rintro H1 ⟨up1, sc1, n1, s1⟩
  have hx := CodeX.of hc hsc up1
  refine Holds.mp ?_
  try simp (disch := first | omega | (simp only [ints_length, List.length_replicate, List.length_set]; done) | (simp only [ints_length, List.length_replicate, List.length_set]; omega)) only [Sall,evalOp,init,binE,binI,unE,convE,okNil,builtE,gv,TD.isAgg,resV,↓reduceIte,Nat.reduceEqDiff,reduceCtorEq,Nat.reduceAdd,Nat.reduceMul,Nat.reduceLeDiff,quietOp,blindOp,Int.reduceEq,Int.reduceLT,Int.reduceLE,Nat.reduceLT,ti2,ti3,ti4,ti45,ti46,ti38,ti25,ti30,ti22,ti32,ti24,ti95,ti172,ti169,ti165,ti166,ti65,ti143,ti87,ti110,ti56,ti101,ti5,ti159,ti62,ti161,ti51,ti57,ti9, true_and]
  refine (l01Near_c cv nb H.next 7 H1 (by omega) hnb s1 hx sc1).ex ?_
  rintro x H2 ⟨h1, h2, H3, h3, h4⟩
  refine Holds.mp ?_
  try simp (disch := first | omega | (simp only [ints_length, List.length_replicate, List.length_set]; done) | (simp only [ints_length, List.length_replicate, List.length_set]; omega)) only [Sall,evalOp,init,binE,binI,unE,convE,okNil,builtE,gv,TD.isAgg,resV,↓reduceIte,Nat.reduceEqDiff,reduceCtorEq,Nat.reduceAdd,Nat.reduceMul,Nat.reduceLeDiff,quietOp,blindOp,Int.reduceEq,Int.reduceLT,Int.reduceLE,Nat.reduceLT,ti2,ti3,ti4,ti45,ti46,ti38,ti25,ti30,ti22,ti32,ti24,ti95,ti172,ti169,ti165,ti166,ti65,ti143,ti87,ti110,ti56,ti101,ti5,ti159,ti62,ti161,ti51,ti57,ti9, w64]
  exact ⟨by omega, by omega, Ow.rebase h4 up1 h3 (Nat.le_refl _)⟩

/-- Where a draw stands: its source has moved on, its things lie apart. -/
structure Dr (cv : Value) (nb : Nat) (H H1 H' : AH) (L : List Th) : Prop where
  ex : ∃ B, SrcB cv nb H.next H1 B ∧ Ow B H' L
section
variable {cv : Value} {nb : Nat} {H H1 H' : AH} {L : List Th}
theorem Dr.src (h : Dr cv nb H H1 H' L) (hn : H.next < H1.next) : Src cv nb H.next H' := by
  obtain ⟨B, b, o⟩ := h.ex; exact Ow.srcAt o b hn
theorem Dr.code (h : Dr cv nb H H1 H' L) (hx : CodeX cv nb H.next H1) (sc : Sc H1) : CodeX cv nb H.next H' := by
  obtain ⟨B, b, o⟩ := h.ex; exact hx.later fun i r hi hr => Ow.oldX o b sc i r hi hr
theorem Dr.sc (h : Dr cv nb H H1 H' L) : Sc H' := by obtain ⟨B, b, o⟩ := h.ex; exact o.sc
/-- A step of the source. -/
theorem Dr.next (h : Dr cv nb H H1 H' L) (hn : H.next < H1.next) {H2 : AH} (k : SrcB cv nb H.next H' H2) : Dr cv nb H H1 H2 L := by
  obtain ⟨B, b, o⟩ := h.ex
  obtain ⟨B2, b2, o2⟩ := Ow.src o (by rw [b.next]; exact hn) k
  exact ⟨B2, b.trans b2, o2⟩
/-- A callee that moves the source on and builds. -/
theorem Dr.call (h : Dr cv nb H H1 H' L) (hn : H.next < H1.next) {H2 H3 : AH} {M : List Th} (k : SrcB cv nb H.next H' H2) (o3 : Ow H2 H3 M) : Dr cv nb H H1 H3 (L ++ M) := by
  obtain ⟨B, b, o⟩ := h.ex
  obtain ⟨B2, b2, o2⟩ := Ow.srcCall o (by rw [b.next]; exact hn) k o3
  exact ⟨B2, b.trans b2, o2⟩
/-- A callee that does not know the source. -/
theorem Dr.calls (h : Dr cv nb H H1 H' L) {H3 : AH} {M : List Th} (o3 : Ow H' H3 M) : Dr cv nb H H1 H3 (L ++ M) := by
  obtain ⟨B, b, o⟩ := h.ex
  exact ⟨B, b, o.call o3⟩
theorem Dr.map (h : Dr cv nb H H1 H' L) {H2 : AH} {M : List Th} (f : ∀ B, Ow B H' L → Ow B H2 M) : Dr cv nb H H1 H2 M := by
  obtain ⟨B, b, o⟩ := h.ex
  exact ⟨B, b, f B o⟩
theorem Dr.fin (h : Dr cv nb H H1 H' L) (up : Up H.next H H1) : Ow H H' L := by
  obtain ⟨B, b, o⟩ := h.ex
  exact Ow.rebase o up b (Nat.le_refl _)
end
end Go.Proofs.Ytgkmdfjjlghecaa.A
end

section
set_option linter.unusedSimpArgs false
set_option linter.unusedVariables false
set_option maxRecDepth 100000
set_option maxHeartbeats 2000000
namespace Go.Proofs.Ytgkmdfjjlghecaa.A
open Go Go.Abs Go.RowKit

/-- A test with one arm that goes on where the other begins. -/
theorem condC_cut {P : Program} {A : Code} {Q : Exit → T → AH → Prop} {N : T → AH → Prop} {t : T} {H : AH} {b : Bool} (M : T → AH → Prop) (hf : b = false → M t H) (ht : b = true → awp P A (seqQ M Q) t H) (hN : ∀ t H, M t H → N t H) :
    condC (some (.bool b)) (awp P A (seqQ N Q) t H) (N t H) := by
  cases b with
  | false => exact hN _ _ (hf rfl)
  | true => exact awp_mono A _ _ t H (seqQ_mono hN fun _ _ _ h => h) (ht rfl)

theorem l09DrawList_c (cv : Value) (nb : Nat) (H : AH) (hnb : nb ≤ 4611686018427387904) (hc : CodeOk H cv nb) :
    ACalls Try.prog 127 [cv] H (fun v H' => ∃ l : List Int, l.length ≤ 15 ∧ Ow H H' [.sl 1 2 v l.length (ints l)]) := by
  refine ACalls.wf (by kernel_rfl) fun hsc => acalls_of_awp [.tmp 2] Try.func127 (by kernel_rfl) rfl rfl (Nat.le_of_ble_eq_true rfl) (by kernel_rfl) ?_
  try simp (disch := first | omega | (simp only [ints_length, List.length_replicate, List.length_set]; done) | (simp only [ints_length, List.length_replicate, List.length_set]; omega)) only [Sall,evalOp,init,binE,binI,unE,convE,okNil,builtE,gv,TD.isAgg,resV,↓reduceIte,Nat.reduceEqDiff,reduceCtorEq,Nat.reduceAdd,Nat.reduceMul,Nat.reduceLeDiff,quietOp,blindOp,Int.reduceEq,Int.reduceLT,Int.reduceLE,Nat.reduceLT,ti2,ti3,ti4,ti45,ti46,ti38,ti25,ti30,ti22,ti32,ti24,ti95,ti172,ti169,ti165,ti166,ti65,ti143,ti87,ti110,ti56,ti101,ti5,ti159,ti62,ti161,ti51,ti57,ti9, true_and]
  refine (l01From_c cv nb H hnb hc).fin ?_
  rintro H1 ⟨up1, sc1, n1, s1⟩
  have hx := CodeX.of hc hsc up1
  have d0 : Dr cv nb H H1 H1 [] := ⟨⟨H1, SrcB.refl s1, Ow.refl sc1⟩⟩
  refine Holds.mp ?_
  try simp (disch := first | omega | (simp only [ints_length, List.length_replicate, List.length_set]; done) | (simp only [ints_length, List.length_replicate, List.length_set]; omega)) only [Sall,evalOp,init,binE,binI,unE,convE,okNil,builtE,gv,TD.isAgg,resV,↓reduceIte,Nat.reduceEqDiff,reduceCtorEq,Nat.reduceAdd,Nat.reduceMul,Nat.reduceLeDiff,quietOp,blindOp,Int.reduceEq,Int.reduceLT,Int.reduceLE,Nat.reduceLT,ti2,ti3,ti4,ti45,ti46,ti38,ti25,ti30,ti22,ti32,ti24,ti95,ti172,ti169,ti165,ti166,ti65,ti143,ti87,ti110,ti56,ti101,ti5,ti159,ti62,ti161,ti51,ti57,ti9, true_and]
  refine (l01Next_c cv nb H.next 14 H1 (by omega) hnb (d0.src n1) (d0.code hx sc1)).ex ?_
  rintro x H2 ⟨hxb, hS⟩
  have d1 := d0.next n1 hS
  obtain ⟨n, hn⟩ : ∃ n : Nat, n = x + 1 := ⟨_, rfl⟩
  have en : (1 : Int) + (x : Int) = (n : Int) := by omega
  have hn14 : n ≤ 14 := by omega
  refine Holds.mp ?_
  try simp (disch := first | omega | (simp only [ints_length, List.length_replicate, List.length_set]; done) | (simp only [ints_length, List.length_replicate, List.length_set]; omega)) only [Sall,evalOp,init,binE,binI,unE,convE,okNil,builtE,gv,TD.isAgg,resV,↓reduceIte,Nat.reduceEqDiff,reduceCtorEq,Nat.reduceAdd,Nat.reduceMul,Nat.reduceLeDiff,quietOp,blindOp,Int.reduceEq,Int.reduceLT,Int.reduceLE,Nat.reduceLT,ti2,ti3,ti4,ti45,ti46,ti38,ti25,ti30,ti22,ti32,ti24,ti95,ti172,ti169,ti165,ti166,ti65,ti143,ti87,ti110,ti56,ti101,ti5,ti159,ti62,ti161,ti51,ti57,ti9, w64, en]
  refine (l01DrawOrder_c cv nb H.next n H2 (by omega) hnb (d1.src n1) (d1.code hx sc1)).mono ?_
  rintro u H3 ⟨l, H4, k4, o4, hp⟩
  rw [Int.toNat_natCast] at o4 hp
  have d2 := d1.call n1 k4 o4
  have hu := o4.one 0 rfl
  refine Holds.mp ?_
  try simp (disch := first | omega | (simp only [ints_length, List.length_replicate, List.length_set]; done) | (simp only [ints_length, List.length_replicate, List.length_set]; omega)) only [Sall,evalOp,init,binE,binI,unE,convE,okNil,builtE,gv,TD.isAgg,resV,↓reduceIte,Nat.reduceEqDiff,reduceCtorEq,Nat.reduceAdd,Nat.reduceMul,Nat.reduceLeDiff,quietOp,blindOp,Int.reduceEq,Int.reduceLT,Int.reduceLE,Nat.reduceLT,ti2,ti3,ti4,ti45,ti46,ti38,ti25,ti30,ti22,ti32,ti24,ti95,ti172,ti169,ti165,ti166,ti65,ti143,ti87,ti110,ti56,ti101,ti5,ti159,ti62,ti161,ti51,ti57,ti9, hu]
  refine (l01Next_c cv nb H.next 2 H3 (by omega) hnb (d2.src n1) (d2.code hx sc1)).ex ?_
  rintro y H5 ⟨hyb, hS5⟩
  have d3 : Dr cv nb H H1 H5 [.sl 1 2 u n (ints l)] := d2.next n1 hS5
  refine Holds.mp ?_
  try simp (disch := first | omega | (simp only [ints_length, List.length_replicate, List.length_set]; done) | (simp only [ints_length, List.length_replicate, List.length_set]; omega)) only [Sall,evalOp,init,binE,binI,unE,convE,okNil,builtE,gv,TD.isAgg,resV,↓reduceIte,Nat.reduceEqDiff,reduceCtorEq,Nat.reduceAdd,Nat.reduceMul,Nat.reduceLeDiff,quietOp,blindOp,Int.reduceEq,Int.reduceLT,Int.reduceLE,Nat.reduceLT,ti2,ti3,ti4,ti45,ti46,ti38,ti25,ti30,ti22,ti32,ti24,ti95,ti172,ti169,ti165,ti166,ti65,ti143,ti87,ti110,ti56,ti101,ti5,ti159,ti62,ti161,ti51,ti57,ti9, true_and]
  refine condC_cut (fun t H' => ∃ (w : Value) (l : List Int), t 3 = .pointer (some ⟨H.next, 0, none⟩) ∧ t 4 = .int .i64 n ∧ t 5 = w ∧ l.length = n ∧ Dr cv nb H H1 H' [.sl 1 2 w n (ints l)]) (fun _ => ?_) (fun _ => ?_) ?_
  · refine ⟨u, l, ?_⟩
    try simp (disch := first | omega | (simp only [ints_length, List.length_replicate, List.length_set]; done) | (simp only [ints_length, List.length_replicate, List.length_set]; omega)) only [Sall,evalOp,init,binE,binI,unE,convE,okNil,builtE,gv,TD.isAgg,resV,↓reduceIte,Nat.reduceEqDiff,reduceCtorEq,Nat.reduceAdd,Nat.reduceMul,Nat.reduceLeDiff,quietOp,blindOp,Int.reduceEq,Int.reduceLT,Int.reduceLE,Nat.reduceLT,ti2,ti3,ti4,ti45,ti46,ti38,ti25,ti30,ti22,ti32,ti24,ti95,ti172,ti169,ti165,ti166,ti65,ti143,ti87,ti110,ti56,ti101,ti5,ti159,ti62,ti161,ti51,ti57,ti9, true_and]
    exact ⟨hp.len, d3⟩
  · try simp (disch := first | omega | (simp only [ints_length, List.length_replicate, List.length_set]; done) | (simp only [ints_length, List.length_replicate, List.length_set]; omega)) only [Sall,evalOp,init,binE,binI,unE,convE,okNil,builtE,gv,TD.isAgg,resV,↓reduceIte,Nat.reduceEqDiff,reduceCtorEq,Nat.reduceAdd,Nat.reduceMul,Nat.reduceLeDiff,quietOp,blindOp,Int.reduceEq,Int.reduceLT,Int.reduceLE,Nat.reduceLT,ti2,ti3,ti4,ti45,ti46,ti38,ti25,ti30,ti22,ti32,ti24,ti95,ti172,ti169,ti165,ti166,ti65,ti143,ti87,ti110,ti56,ti101,ti5,ti159,ti62,ti161,ti51,ti57,ti9, true_and]
    refine (l09Zigzag_c n H5 (by omega)).mono ?_
    rintro w H6 o6
    rw [Int.toNat_natCast] at o6
    have d4 := d3.calls o6
    have hw := o6.one 0 rfl
    refine Holds.mp ?_
    try simp (disch := first | omega | (simp only [ints_length, List.length_replicate, List.length_set]; done) | (simp only [ints_length, List.length_replicate, List.length_set]; omega)) only [Sall,evalOp,init,binE,binI,unE,convE,okNil,builtE,gv,TD.isAgg,resV,↓reduceIte,Nat.reduceEqDiff,reduceCtorEq,Nat.reduceAdd,Nat.reduceMul,Nat.reduceLeDiff,quietOp,blindOp,Int.reduceEq,Int.reduceLT,Int.reduceLE,Nat.reduceLT,ti2,ti3,ti4,ti45,ti46,ti38,ti25,ti30,ti22,ti32,ti24,ti95,ti172,ti169,ti165,ti166,ti65,ti143,ti87,ti110,ti56,ti101,ti5,ti159,ti62,ti161,ti51,ti57,ti9, hw]
    refine (l01Next_c cv nb H.next n H6 (by omega) hnb (d4.src n1) (d4.code hx sc1)).ex ?_
    rintro by_ H7 ⟨hbb, hS7⟩
    have d5 := d4.next n1 hS7
    have hzl := zigL_length (n : Int) n
    obtain ⟨wi, _, _, rfl, _⟩ := o6.get 0 rfl (by omega)
    refine Holds.mp ?_
    try simp (disch := first | omega | (simp only [ints_length, List.length_replicate, List.length_set]; done) | (simp only [ints_length, List.length_replicate, List.length_set]; omega)) only [Sall,evalOp,init,binE,binI,unE,convE,okNil,builtE,gv,TD.isAgg,resV,↓reduceIte,Nat.reduceEqDiff,reduceCtorEq,Nat.reduceAdd,Nat.reduceMul,Nat.reduceLeDiff,quietOp,blindOp,Int.reduceEq,Int.reduceLT,Int.reduceLE,Nat.reduceLT,ti2,ti3,ti4,ti45,ti46,ti38,ti25,ti30,ti22,ti32,ti24,ti95,ti172,ti169,ti165,ti166,ti65,ti143,ti87,ti110,ti56,ti101,ti5,ti159,ti62,ti161,ti51,ti57,ti9, builtE]
    refine awp_loop (fun z t H' => ∃ (j : Nat) (l : List Int), z = n - j ∧ j ≤ n ∧ t 26 = .int .i64 j ∧ t 25 = .int .i64 n ∧ t 5 = .slice (some ⟨wi, 0, some 1⟩) n n ∧ t 6 = .int .i64 by_ ∧ t 3 = .pointer (some ⟨H.next, 0, none⟩) ∧ t 4 = .int .i64 n ∧ l.length = n ∧ Dr cv nb H H1 H' [.sl 1 2 (.slice (some ⟨wi, 0, some 1⟩) n n) n (ints l)]) n ?_ ?_
    · refine ⟨0, zigL n n, by omega, by omega, ?_⟩
      try simp (disch := first | omega | (simp only [ints_length, List.length_replicate, List.length_set]; done) | (simp only [ints_length, List.length_replicate, List.length_set]; omega)) only [Sall,evalOp,init,binE,binI,unE,convE,okNil,builtE,gv,TD.isAgg,resV,↓reduceIte,Nat.reduceEqDiff,reduceCtorEq,Nat.reduceAdd,Nat.reduceMul,Nat.reduceLeDiff,quietOp,blindOp,Int.reduceEq,Int.reduceLT,Int.reduceLE,Nat.reduceLT,ti2,ti3,ti4,ti45,ti46,ti38,ti25,ti30,ti22,ti32,ti24,ti95,ti172,ti169,ti165,ti166,ti65,ti143,ti87,ti110,ti56,ti101,ti5,ti159,ti62,ti161,ti51,ti57,ti9, Int.natCast_zero]
      exact ⟨hzl, d5.map fun B o => o.sub (fun _ => 1) (fun j hj => by
          obtain rfl : j = 0 := by simp at hj; omega
          rfl) (fun x y hx hy _ => by simp at hx hy; omega)⟩
    · rintro z t H' ⟨j, l', hz, hj, h26, h25, h5, h6, h3, h4, hl', d6⟩
      try simp (disch := first | omega | (simp only [ints_length, List.length_replicate, List.length_set]; done) | (simp only [ints_length, List.length_replicate, List.length_set]; omega)) only [Sall,evalOp,init,binE,binI,unE,convE,okNil,builtE,gv,TD.isAgg,resV,↓reduceIte,Nat.reduceEqDiff,reduceCtorEq,Nat.reduceAdd,Nat.reduceMul,Nat.reduceLeDiff,quietOp,blindOp,Int.reduceEq,Int.reduceLT,Int.reduceLE,Nat.reduceLT,ti2,ti3,ti4,ti45,ti46,ti38,ti25,ti30,ti22,ti32,ti24,ti95,ti172,ti169,ti165,ti166,ti65,ti143,ti87,ti110,ti56,ti101,ti5,ti159,ti62,ti161,ti51,ti57,ti9, h26, h25]
      refine condC_dec (fun hh => ?_) (fun hh => ?_)
      · obtain ⟨B, hB, o6⟩ := d6.ex
        have rw6 := (o6.getV 0 rfl).2.2
        have k1 := ints_get? l' j (by omega)
        try simp (disch := first | omega | (simp only [ints_length, List.length_replicate, List.length_set]; done) | (simp only [ints_length, List.length_replicate, List.length_set]; omega)) only [Sall,evalOp,init,binE,binI,unE,convE,okNil,builtE,gv,TD.isAgg,resV,↓reduceIte,Nat.reduceEqDiff,reduceCtorEq,Nat.reduceAdd,Nat.reduceMul,Nat.reduceLeDiff,quietOp,blindOp,Int.reduceEq,Int.reduceLT,Int.reduceLE,Nat.reduceLT,ti2,ti3,ti4,ti45,ti46,ti38,ti25,ti30,ti22,ti32,ti24,ti95,ti172,ti169,ti165,ti166,ti65,ti143,ti87,ti110,ti56,ti101,ti5,ti159,ti62,ti161,ti51,ti57,ti9, h26, h5, h6, h4, rw6, k1, hl', ints_set]
        (repeat refine And.intro (by omega) ?_)
        try simp (disch := first | omega | (simp only [ints_length, List.length_replicate, List.length_set]; done) | (simp only [ints_length, List.length_replicate, List.length_set]; omega)) only [Sall,evalOp,init,binE,binI,unE,convE,okNil,builtE,gv,TD.isAgg,resV,↓reduceIte,Nat.reduceEqDiff,reduceCtorEq,Nat.reduceAdd,Nat.reduceMul,Nat.reduceLeDiff,quietOp,blindOp,Int.reduceEq,Int.reduceLT,Int.reduceLE,Nat.reduceLT,ti2,ti3,ti4,ti45,ti46,ti38,ti25,ti30,ti22,ti32,ti24,ti95,ti172,ti169,ti165,ti166,ti65,ti143,ti87,ti110,ti56,ti101,ti5,ti159,ti62,ti161,ti51,ti57,ti9, h26, h25, h5, h6, h4, h3, rw6, k1, hl', ints_set, w64]
        exact ⟨n - (j + 1), by omega, j + 1, _, rfl, by omega, rfl, by rw [List.length_set]; exact hl', d6.map fun B o => o.put 0 rfl (by rw [ints_length, ints_length, List.length_set])⟩
      · try simp (disch := first | omega | (simp only [ints_length, List.length_replicate, List.length_set]; done) | (simp only [ints_length, List.length_replicate, List.length_set]; omega)) only [Sall,evalOp,init,binE,binI,unE,convE,okNil,builtE,gv,TD.isAgg,resV,↓reduceIte,Nat.reduceEqDiff,reduceCtorEq,Nat.reduceAdd,Nat.reduceMul,Nat.reduceLeDiff,quietOp,blindOp,Int.reduceEq,Int.reduceLT,Int.reduceLE,Nat.reduceLT,ti2,ti3,ti4,ti45,ti46,ti38,ti25,ti30,ti22,ti32,ti24,ti95,ti172,ti169,ti165,ti166,ti65,ti143,ti87,ti110,ti56,ti101,ti5,ti159,ti62,ti161,ti51,ti57,ti9, h5, h3, h4]
        exact ⟨_, l', rfl, hl', d6⟩
  · rintro t H6 ⟨w, l', h3, h4, h5, hl', d4⟩
    try simp (disch := first | omega | (simp only [ints_length, List.length_replicate, List.length_set]; done) | (simp only [ints_length, List.length_replicate, List.length_set]; omega)) only [Sall,evalOp,init,binE,binI,unE,convE,okNil,builtE,gv,TD.isAgg,resV,↓reduceIte,Nat.reduceEqDiff,reduceCtorEq,Nat.reduceAdd,Nat.reduceMul,Nat.reduceLeDiff,quietOp,blindOp,Int.reduceEq,Int.reduceLT,Int.reduceLE,Nat.reduceLT,ti2,ti3,ti4,ti45,ti46,ti38,ti25,ti30,ti22,ti32,ti24,ti95,ti172,ti169,ti165,ti166,ti65,ti143,ti87,ti110,ti56,ti101,ti5,ti159,ti62,ti161,ti51,ti57,ti9, h3]
    refine (l01Next_c cv nb H.next 16 H6 (by omega) hnb (d4.src n1) (d4.code hx sc1)).ex ?_
    rintro y2 H7 ⟨hy2, hS7⟩
    have d5 := d4.next n1 hS7
    obtain ⟨B5, hB5, o5⟩ := id d5.ex
    have hw := o5.one 0 rfl
    refine Holds.mp ?_
    have zz1 : zeros 1 [.int .i64 0] = [.int .i64 0] := rfl
    have zz2 : zeros 2 [.int .i64 0] = [.int .i64 0, .int .i64 0] := rfl
    by_cases c0 : (y2 : Int) = 0
    · have e0 : ((y2 : Int) == 0) = true := beq_iff_eq.2 c0
      try simp (disch := first | omega | (simp only [ints_length, List.length_replicate, List.length_set]; done) | (simp only [ints_length, List.length_replicate, List.length_set]; omega)) only [Sall,evalOp,init,binE,binI,unE,convE,okNil,builtE,gv,TD.isAgg,resV,↓reduceIte,Nat.reduceEqDiff,reduceCtorEq,Nat.reduceAdd,Nat.reduceMul,Nat.reduceLeDiff,quietOp,blindOp,Int.reduceEq,Int.reduceLT,Int.reduceLE,Nat.reduceLT,ti2,ti3,ti4,ti45,ti46,ti38,ti25,ti30,ti22,ti32,ti24,ti95,ti172,ti169,ti165,ti166,ti65,ti143,ti87,ti110,ti56,ti101,ti5,ti159,ti62,ti161,ti51,ti57,ti9, e0, h5, zz1, slCells]
      (repeat refine And.intro (by omega) ?_)
      have o5t := o5.tmp ⟨2, true, [.int .i64 0]⟩
      refine o5t.app 0 (ms := ints [0]) rfl rfl (by omega) rfl (by omega) (by decide) (by omega) ?_
      intro v' H8 n8 o8
      rw [ints_append] at o8
      have hv' := o8.one 0 rfl
      try simp (disch := first | omega | (simp only [ints_length, List.length_replicate, List.length_set]; done) | (simp only [ints_length, List.length_replicate, List.length_set]; omega)) only [Sall,evalOp,init,binE,binI,unE,convE,okNil,builtE,gv,TD.isAgg,resV,↓reduceIte,Nat.reduceEqDiff,reduceCtorEq,Nat.reduceAdd,Nat.reduceMul,Nat.reduceLeDiff,quietOp,blindOp,Int.reduceEq,Int.reduceLT,Int.reduceLE,Nat.reduceLT,ti2,ti3,ti4,ti45,ti46,ti38,ti25,ti30,ti22,ti32,ti24,ti95,ti172,ti169,ti165,ti166,ti65,ti143,ti87,ti110,ti56,ti101,ti5,ti159,ti62,ti161,ti51,ti57,ti9, hv']
      refine ⟨l' ++ [0], by simp [hl']; omega, ?_⟩
      have : (l' ++ [(0 : Int)]).length = n + 1 := by simp [hl']
      rw [this]
      exact Dr.fin ⟨⟨B5, hB5, o8⟩⟩ up1
    · have e0 : ((y2 : Int) == 0) = false := beq_eq_false_iff_ne.2 c0
      by_cases c1 : (y2 : Int) = 1
      · have e1 : ((y2 : Int) == 1) = true := beq_iff_eq.2 c1
        try simp (disch := first | omega | (simp only [ints_length, List.length_replicate, List.length_set]; done) | (simp only [ints_length, List.length_replicate, List.length_set]; omega)) only [Sall,evalOp,init,binE,binI,unE,convE,okNil,builtE,gv,TD.isAgg,resV,↓reduceIte,Nat.reduceEqDiff,reduceCtorEq,Nat.reduceAdd,Nat.reduceMul,Nat.reduceLeDiff,quietOp,blindOp,Int.reduceEq,Int.reduceLT,Int.reduceLE,Nat.reduceLT,ti2,ti3,ti4,ti45,ti46,ti38,ti25,ti30,ti22,ti32,ti24,ti95,ti172,ti169,ti165,ti166,ti65,ti143,ti87,ti110,ti56,ti101,ti5,ti159,ti62,ti161,ti51,ti57,ti9, e0, e1, h5, h3, h4, zz2]
        have d6 : Dr cv nb H H1 (H7.push ⟨2, true, ints [-1, (n : Int)]⟩) [.sl 1 2 w n (ints l'), .sl 1 2 (.slice (some ⟨H7.next, 0, some 1⟩) 2 2) 2 (ints [-1, (n : Int)])] := d5.map fun B o => o.pushSl rfl
        obtain ⟨H8, e8⟩ : ∃ H8, H8 = H7.push ⟨2, true, ints [-1, (n : Int)]⟩ := ⟨_, rfl⟩
        have e8' : H7.push ⟨2, true, [.int .i64 (-1), .int .i64 n]⟩ = H8 := e8.symm
        rw [← e8] at d6
        rw [e8']
        clear e8 e8'
        obtain ⟨B6, hB6, o6⟩ := id d6.ex
        have hq := (o6.getV 1 rfl)
        refine (l01Pick_c cv nb H.next _ 2 [-1, (n : Int)] H8 (by omega) (by omega) hnb (d6.src n1) (d6.code hx sc1) fun H' hS' => Fr.rd (ty := 2) (lo := 0) (hi := H7.next + 1) ⟨rfl, .inr ⟨H7.next, Nat.zero_le _, Nat.lt_succ_self _, rfl, by rw [hS'.row _ (by have := hB6.next; omega)]; exact hq.2.2⟩⟩).ex ?_
        rintro p H9 ⟨hp9, hS9⟩
        have d7 := d6.next n1 hS9
        obtain ⟨B7, hB7, o7⟩ := id d7.ex
        obtain ⟨wi, _, _, rfl, rw7⟩ := o7.get 0 rfl (by omega)
        refine Holds.mp ?_
        try simp (disch := first | omega | (simp only [ints_length, List.length_replicate, List.length_set]; done) | (simp only [ints_length, List.length_replicate, List.length_set]; omega)) only [Sall,evalOp,init,binE,binI,unE,convE,okNil,builtE,gv,TD.isAgg,resV,↓reduceIte,Nat.reduceEqDiff,reduceCtorEq,Nat.reduceAdd,Nat.reduceMul,Nat.reduceLeDiff,quietOp,blindOp,Int.reduceEq,Int.reduceLT,Int.reduceLE,Nat.reduceLT,ti2,ti3,ti4,ti45,ti46,ti38,ti25,ti30,ti22,ti32,ti24,ti95,ti172,ti169,ti165,ti166,ti65,ti143,ti87,ti110,ti56,ti101,ti5,ti159,ti62,ti161,ti51,ti57,ti9, h5, rw7, hl', ints_set]
        (repeat refine And.intro (by omega) ?_)
        try simp (disch := first | omega | (simp only [ints_length, List.length_replicate, List.length_set]; done) | (simp only [ints_length, List.length_replicate, List.length_set]; omega)) only [Sall,evalOp,init,binE,binI,unE,convE,okNil,builtE,gv,TD.isAgg,resV,↓reduceIte,Nat.reduceEqDiff,reduceCtorEq,Nat.reduceAdd,Nat.reduceMul,Nat.reduceLeDiff,quietOp,blindOp,Int.reduceEq,Int.reduceLT,Int.reduceLE,Nat.reduceLT,ti2,ti3,ti4,ti45,ti46,ti38,ti25,ti30,ti22,ti32,ti24,ti95,ti172,ti169,ti165,ti166,ti65,ti143,ti87,ti110,ti56,ti101,ti5,ti159,ti62,ti161,ti51,ti57,ti9, h5, rw7, hl', ints_set]
        refine ⟨l'.set 0 p, by simp [hl']; omega, ?_⟩
        have : (l'.set 0 p).length = n := by simp [hl']
        rw [this]
        have o8 := o7.put 0 rfl (vs' := ints (l'.set 0 p)) (vs := ints l') (by rw [ints_length, ints_length, List.length_set])
        have o9 : Ow B7 _ ([.sl 1 2 (.slice (some ⟨wi, 0, some 1⟩) n n) n (ints (l'.set 0 p))] ++ [.sl 1 2 (.slice (some ⟨H7.next, 0, some 1⟩) 2 2) 2 (ints [-1, (n : Int)])]) := o8
        exact Dr.fin ⟨⟨B7, hB7, o9.left⟩⟩ up1
      · have e1 : ((y2 : Int) == 1) = false := beq_eq_false_iff_ne.2 c1
        try simp (disch := first | omega | (simp only [ints_length, List.length_replicate, List.length_set]; done) | (simp only [ints_length, List.length_replicate, List.length_set]; omega)) only [Sall,evalOp,init,binE,binI,unE,convE,okNil,builtE,gv,TD.isAgg,resV,↓reduceIte,Nat.reduceEqDiff,reduceCtorEq,Nat.reduceAdd,Nat.reduceMul,Nat.reduceLeDiff,quietOp,blindOp,Int.reduceEq,Int.reduceLT,Int.reduceLE,Nat.reduceLT,ti2,ti3,ti4,ti45,ti46,ti38,ti25,ti30,ti22,ti32,ti24,ti95,ti172,ti169,ti165,ti166,ti65,ti143,ti87,ti110,ti56,ti101,ti5,ti159,ti62,ti161,ti51,ti57,ti9, e0, e1, h5, hw]
        refine ⟨l', by omega, ?_⟩
        rw [hl']
        exact d5.fin up1

theorem drawSquareOfList_c (cv : Value) (nb : Nat) (H : AH) (hnb : nb ≤ 4611686018427387904) (hc : CodeOk H cv nb) :
    ACalls Try.prog 52 [cv] H (fun v H' => ∃ l : List Int, l.length ≤ 15 ∧ Ow H H' [.sl 1 2 v l.length (ints l)]) := by
  refine acalls_of_awp [.tmp 2] Try.func52 (by kernel_rfl) rfl rfl (Nat.le_of_ble_eq_true rfl) (by kernel_rfl) ?_
  try simp (disch := first | omega | (simp only [ints_length, List.length_replicate, List.length_set]; done) | (simp only [ints_length, List.length_replicate, List.length_set]; omega)) only [Sall,evalOp,init,binE,binI,unE,convE,okNil,builtE,gv,TD.isAgg,resV,↓reduceIte,Nat.reduceEqDiff,reduceCtorEq,Nat.reduceAdd,Nat.reduceMul,Nat.reduceLeDiff,quietOp,blindOp,Int.reduceEq,Int.reduceLT,Int.reduceLE,Nat.reduceLT,ti2,ti3,ti4,ti45,ti46,ti38,ti25,ti30,ti22,ti32,ti24,ti95,ti172,ti169,ti165,ti166,ti65,ti143,ti87,ti110,ti56,ti101,ti5,ti159,ti62,ti161,ti51,ti57,ti9, true_and]
  refine (l09DrawList_c cv nb H hnb hc).mono ?_
  rintro u H1 ⟨l, h1, h2⟩
  have hu := h2.one 0 rfl
  refine Holds.mp ?_
  try simp (disch := first | omega | (simp only [ints_length, List.length_replicate, List.length_set]; done) | (simp only [ints_length, List.length_replicate, List.length_set]; omega)) only [Sall,evalOp,init,binE,binI,unE,convE,okNil,builtE,gv,TD.isAgg,resV,↓reduceIte,Nat.reduceEqDiff,reduceCtorEq,Nat.reduceAdd,Nat.reduceMul,Nat.reduceLeDiff,quietOp,blindOp,Int.reduceEq,Int.reduceLT,Int.reduceLE,Nat.reduceLT,ti2,ti3,ti4,ti45,ti46,ti38,ti25,ti30,ti22,ti32,ti24,ti95,ti172,ti169,ti165,ti166,ti65,ti143,ti87,ti110,ti56,ti101,ti5,ti159,ti62,ti161,ti51,ti57,ti9, hu]
  exact ⟨l, h1, h2⟩
end Go.Proofs.Ytgkmdfjjlghecaa.A
end

section
set_option linter.unusedSimpArgs false
set_option linter.unusedVariables false
set_option maxRecDepth 100000
set_option maxHeartbeats 2000000
namespace Go.Proofs.Ytgkmdfjjlghecaa.A
open Go Go.Abs Go.RowKit

theorem l09Given_c (cv : Value) (nb : Nat) (H : AH) (hnb : nb ≤ 4611686018427387904) (hc : CodeOk H cv nb) :
    ACalls Try.prog 139 [cv] H (fun r H' => ∃ u : Int × Value, r = .tuple #[.int .i64 u.1, u.2] ∧ ∃ ll : List (List Int), -1000 ≤ u.1 ∧ u.1 ≤ 1000 ∧ ll.length ≤ 15 ∧ (∀ y ∈ ll, y.length ≤ 14) ∧ Ow H H' [.sl2 (Value.int .i64) 38 2 u.2 ll]) := by
  refine ACalls.wf (by kernel_rfl) fun hsc => acalls_of_awp [.tmp 2, .tmp 3] Try.func139 (by kernel_rfl) rfl rfl (Nat.le_of_ble_eq_true rfl) (by kernel_rfl) ?_
  try simp (disch := first | omega | (simp only [ints_length, List.length_replicate, List.length_set]; done) | (simp only [ints_length, List.length_replicate, List.length_set]; omega)) only [Sall,evalOp,init,binE,binI,unE,convE,okNil,builtE,gv,TD.isAgg,resV,↓reduceIte,Nat.reduceEqDiff,reduceCtorEq,Nat.reduceAdd,Nat.reduceMul,Nat.reduceLeDiff,quietOp,blindOp,Int.reduceEq,Int.reduceLT,Int.reduceLE,Nat.reduceLT,ti2,ti3,ti4,ti45,ti46,ti38,ti25,ti30,ti22,ti32,ti24,ti95,ti172,ti169,ti165,ti166,ti65,ti143,ti87,ti110,ti56,ti101,ti5,ti159,ti62,ti161,ti51,ti57,ti9, true_and]
  refine (l01From_c cv nb H hnb hc).fin ?_
  rintro H1 ⟨up1, sc1, n1, s1⟩
  have hx := CodeX.of hc hsc up1
  have d0 : Dr cv nb H H1 H1 [] := ⟨⟨H1, SrcB.refl s1, Ow.refl sc1⟩⟩
  have zz1 : zeros 1 [.int .i64 0] = [.int .i64 0] := rfl
  have zz3 : zeros 3 [.int .i64 0] = [.int .i64 0, .int .i64 0, .int .i64 0] := rfl
  have zz4 : zeros 4 [.int .i64 0] = [.int .i64 0, .int .i64 0, .int .i64 0, .int .i64 0] := rfl
  have zs1 : zeros 1 [.slice none 0 0] = [.slice none 0 0] := rfl
  -- a pick out of a list that is written out
  have pick : ∀ (Hp : AH) (Lp : List Th) (ls : List Int) (m : Nat), ls.length = m → 0 < m → m ≤ 100 → Dr cv nb H H1 Hp Lp → ACalls Try.prog 183 [.pointer (some ⟨H.next, 0, none⟩), .slice (some ⟨Hp.next, 0, some 1⟩) m m] (Hp.push ⟨2, true, ints ls⟩) (fun v H' => ∃ x : Int, v = .int .i64 x ∧ x ∈ ls ∧ Dr cv nb H H1 H' Lp ∧ ∀ i, i ≠ H.next → i < Hp.next → H'.row i = Hp.row i) := by
    intro Hp Lp ls m hm hm0 hm1 d
    have d6 : Dr cv nb H H1 (Hp.push ⟨2, true, ints ls⟩) Lp := d.map fun B o => o.tmp _
    obtain ⟨B6, hB6, o6⟩ := id d.ex
    have hn6 := o6.next
    refine (l01Pick_c cv nb H.next _ m ls _ hm0 (by omega) hnb (d6.src n1) (d6.code hx sc1) fun H' hS' => Fr.rd (ty := 2) (lo := 0) (hi := Hp.next + 1) ⟨by omega, .inr ⟨Hp.next, Nat.zero_le _, Nat.lt_succ_self _, rfl, by rw [hS'.row _ (by have := hB6.next; omega), AH.push_row, if_pos rfl]⟩⟩).mono ?_
    rintro v H' ⟨x, h1, h2, h3⟩
    exact ⟨x, h1, h2, d6.next n1 h3, fun i i1 i2 => by rw [h3.row i i1, AH.push_row, if_neg (by omega)]⟩
  refine Holds.mp ?_
  try simp (disch := first | omega | (simp only [ints_length, List.length_replicate, List.length_set]; done) | (simp only [ints_length, List.length_replicate, List.length_set]; omega)) only [Sall,evalOp,init,binE,binI,unE,convE,okNil,builtE,gv,TD.isAgg,resV,↓reduceIte,Nat.reduceEqDiff,reduceCtorEq,Nat.reduceAdd,Nat.reduceMul,Nat.reduceLeDiff,quietOp,blindOp,Int.reduceEq,Int.reduceLT,Int.reduceLE,Nat.reduceLT,ti2,ti3,ti4,ti45,ti46,ti38,ti25,ti30,ti22,ti32,ti24,ti95,ti172,ti169,ti165,ti166,ti65,ti143,ti87,ti110,ti56,ti101,ti5,ti159,ti62,ti161,ti51,ti57,ti9, zz3]
  refine (pick H1 [] [4, 8, 14] 3 rfl (by omega) (by omega) d0).ex ?_
  rintro p H2 ⟨hp, d1, _⟩
  simp only [List.mem_cons, List.not_mem_nil, or_false] at hp
  refine Holds.mp ?_
  try simp (disch := first | omega | (simp only [ints_length, List.length_replicate, List.length_set]; done) | (simp only [ints_length, List.length_replicate, List.length_set]; omega)) only [Sall,evalOp,init,binE,binI,unE,convE,okNil,builtE,gv,TD.isAgg,resV,↓reduceIte,Nat.reduceEqDiff,reduceCtorEq,Nat.reduceAdd,Nat.reduceMul,Nat.reduceLeDiff,quietOp,blindOp,Int.reduceEq,Int.reduceLT,Int.reduceLE,Nat.reduceLT,ti2,ti3,ti4,ti45,ti46,ti38,ti25,ti30,ti22,ti32,ti24,ti95,ti172,ti169,ti165,ti166,ti65,ti143,ti87,ti110,ti56,ti101,ti5,ti159,ti62,ti161,ti51,ti57,ti9, true_and]
  refine (l01Next_c cv nb H.next p H2 (by omega) hnb (d1.src n1) (d1.code hx sc1)).ex ?_
  rintro x H3 ⟨hxb, hS⟩
  have d2 := d1.next n1 hS
  obtain ⟨n, hn⟩ : ∃ n : Nat, n = x + 1 := ⟨_, rfl⟩
  have en : (1 : Int) + (x : Int) = (n : Int) := by omega
  have hn14 : n ≤ 14 := by omega
  refine Holds.mp ?_
  try simp (disch := first | omega | (simp only [ints_length, List.length_replicate, List.length_set]; done) | (simp only [ints_length, List.length_replicate, List.length_set]; omega)) only [Sall,evalOp,init,binE,binI,unE,convE,okNil,builtE,gv,TD.isAgg,resV,↓reduceIte,Nat.reduceEqDiff,reduceCtorEq,Nat.reduceAdd,Nat.reduceMul,Nat.reduceLeDiff,quietOp,blindOp,Int.reduceEq,Int.reduceLT,Int.reduceLE,Nat.reduceLT,ti2,ti3,ti4,ti45,ti46,ti38,ti25,ti30,ti22,ti32,ti24,ti95,ti172,ti169,ti165,ti166,ti65,ti143,ti87,ti110,ti56,ti101,ti5,ti159,ti62,ti161,ti51,ti57,ti9, w64, en]
  refine (l01DrawOrder_c cv nb H.next n H3 (by omega) hnb (d2.src n1) (d2.code hx sc1)).mono ?_
  rintro u H4 ⟨l, H5, k5, o5, hpl⟩
  rw [Int.toNat_natCast] at o5 hpl
  have hu := o5.one 0 rfl
  have d3 : Dr cv nb H H1 H4 [.sl 1 2 u n (ints l)] := d2.call n1 k5 o5
  refine Holds.mp ?_
  try simp (disch := first | omega | (simp only [ints_length, List.length_replicate, List.length_set]; done) | (simp only [ints_length, List.length_replicate, List.length_set]; omega)) only [Sall,evalOp,init,binE,binI,unE,convE,okNil,builtE,gv,TD.isAgg,resV,↓reduceIte,Nat.reduceEqDiff,reduceCtorEq,Nat.reduceAdd,Nat.reduceMul,Nat.reduceLeDiff,quietOp,blindOp,Int.reduceEq,Int.reduceLT,Int.reduceLE,Nat.reduceLT,ti2,ti3,ti4,ti45,ti46,ti38,ti25,ti30,ti22,ti32,ti24,ti95,ti172,ti169,ti165,ti166,ti65,ti143,ti87,ti110,ti56,ti101,ti5,ti159,ti62,ti161,ti51,ti57,ti9, hu, zeros_zero]
  have d4 : Dr cv nb H H1 (H4.push ⟨38, true, []⟩) [.sl 1 2 u n (ints l), .sl2 (Value.int .i64) 38 2 (.slice (some ⟨H4.next, 0, some 1⟩) 0 0) []] := d3.map fun B o => o.pushSl2 _ _ _
  obtain ⟨rv, hrv⟩ : ∃ rv, rv = Value.slice (some ⟨H4.next, 0, some 1⟩) 0 0 := ⟨_, rfl⟩
  rw [← hrv] at d4 ⊢
  revert d4
  generalize H4.push ⟨38, true, []⟩ = H6
  intro d4
  refine (l01Next_c cv nb H.next 2 H6 (by omega) hnb (d4.src n1) (d4.code hx sc1)).ex ?_
  rintro y H7 ⟨hyb, hS7⟩
  have d5 := d4.next n1 hS7
  refine Holds.mp ?_
  try simp (disch := first | omega | (simp only [ints_length, List.length_replicate, List.length_set]; done) | (simp only [ints_length, List.length_replicate, List.length_set]; omega)) only [Sall,evalOp,init,binE,binI,unE,convE,okNil,builtE,gv,TD.isAgg,resV,↓reduceIte,Nat.reduceEqDiff,reduceCtorEq,Nat.reduceAdd,Nat.reduceMul,Nat.reduceLeDiff,quietOp,blindOp,Int.reduceEq,Int.reduceLT,Int.reduceLE,Nat.reduceLT,ti2,ti3,ti4,ti45,ti46,ti38,ti25,ti30,ti22,ti32,ti24,ti95,ti172,ti169,ti165,ti166,ti65,ti143,ti87,ti110,ti56,ti101,ti5,ti159,ti62,ti161,ti51,ti57,ti9, true_and]
  refine condC_cut (fun t H' => ∃ (w : Value) (l : List Int), t 4 = .pointer (some ⟨H.next, 0, none⟩) ∧ t 5 = .int .i64 n ∧ t 6 = w ∧ t 7 = rv ∧ l.length = n ∧ Dr cv nb H H1 H' [.sl 1 2 w n (ints l), .sl2 (Value.int .i64) 38 2 rv []]) (fun _ => ?_) (fun _ => ?_) ?_
  · refine ⟨u, l, ?_⟩
    try simp (disch := first | omega | (simp only [ints_length, List.length_replicate, List.length_set]; done) | (simp only [ints_length, List.length_replicate, List.length_set]; omega)) only [Sall,evalOp,init,binE,binI,unE,convE,okNil,builtE,gv,TD.isAgg,resV,↓reduceIte,Nat.reduceEqDiff,reduceCtorEq,Nat.reduceAdd,Nat.reduceMul,Nat.reduceLeDiff,quietOp,blindOp,Int.reduceEq,Int.reduceLT,Int.reduceLE,Nat.reduceLT,ti2,ti3,ti4,ti45,ti46,ti38,ti25,ti30,ti22,ti32,ti24,ti95,ti172,ti169,ti165,ti166,ti65,ti143,ti87,ti110,ti56,ti101,ti5,ti159,ti62,ti161,ti51,ti57,ti9, true_and]
    exact ⟨hpl.len, d5⟩
  · try simp (disch := first | omega | (simp only [ints_length, List.length_replicate, List.length_set]; done) | (simp only [ints_length, List.length_replicate, List.length_set]; omega)) only [Sall,evalOp,init,binE,binI,unE,convE,okNil,builtE,gv,TD.isAgg,resV,↓reduceIte,Nat.reduceEqDiff,reduceCtorEq,Nat.reduceAdd,Nat.reduceMul,Nat.reduceLeDiff,quietOp,blindOp,Int.reduceEq,Int.reduceLT,Int.reduceLE,Nat.reduceLT,ti2,ti3,ti4,ti45,ti46,ti38,ti25,ti30,ti22,ti32,ti24,ti95,ti172,ti169,ti165,ti166,ti65,ti143,ti87,ti110,ti56,ti101,ti5,ti159,ti62,ti161,ti51,ti57,ti9, true_and]
    refine (l09Zigzag_c n H7 (by omega)).mono ?_
    rintro w H8 o8
    rw [Int.toNat_natCast] at o8
    have d6 := d5.calls o8
    have hw := o8.one 0 rfl
    refine Holds.mp ?_
    try simp (disch := first | omega | (simp only [ints_length, List.length_replicate, List.length_set]; done) | (simp only [ints_length, List.length_replicate, List.length_set]; omega)) only [Sall,evalOp,init,binE,binI,unE,convE,okNil,builtE,gv,TD.isAgg,resV,↓reduceIte,Nat.reduceEqDiff,reduceCtorEq,Nat.reduceAdd,Nat.reduceMul,Nat.reduceLeDiff,quietOp,blindOp,Int.reduceEq,Int.reduceLT,Int.reduceLE,Nat.reduceLT,ti2,ti3,ti4,ti45,ti46,ti38,ti25,ti30,ti22,ti32,ti24,ti95,ti172,ti169,ti165,ti166,ti65,ti143,ti87,ti110,ti56,ti101,ti5,ti159,ti62,ti161,ti51,ti57,ti9, hw]
    exact ⟨w, zigL n n, rfl, zigL_length _ _, d6.map fun B o => o.sub (fun j => if j = 0 then 2 else j) (fun j hj => match j, hj with | 0, _ => rfl | 1, _ => rfl) fun i j hi hj e => by
      have hi : i < 2 := hi
      have hj : j < 2 := hj
      split at e <;> split at e <;> omega⟩
  · rintro t H8 ⟨w, l', h4, h5, h6, h7, hl', d6⟩
    try simp (disch := first | omega | (simp only [ints_length, List.length_replicate, List.length_set]; done) | (simp only [ints_length, List.length_replicate, List.length_set]; omega)) only [Sall,evalOp,init,binE,binI,unE,convE,okNil,builtE,gv,TD.isAgg,resV,↓reduceIte,Nat.reduceEqDiff,reduceCtorEq,Nat.reduceAdd,Nat.reduceMul,Nat.reduceLeDiff,quietOp,blindOp,Int.reduceEq,Int.reduceLT,Int.reduceLE,Nat.reduceLT,ti2,ti3,ti4,ti45,ti46,ti38,ti25,ti30,ti22,ti32,ti24,ti95,ti172,ti169,ti165,ti166,ti65,ti143,ti87,ti110,ti56,ti101,ti5,ti159,ti62,ti161,ti51,ti57,ti9, h4, h5]
    refine (l01DrawOrder_c cv nb H.next n H8 (by omega) hnb (d6.src n1) (d6.code hx sc1)).mono ?_
    rintro ov H9 ⟨lo, H10, k10, o10, hpo⟩
    rw [Int.toNat_natCast] at o10 hpo
    have ho := o10.one 0 rfl
    have hol := hpo.len
    have d7 : Dr cv nb H H1 H9 [.sl 1 2 w n (ints l'), .sl2 (Value.int .i64) 38 2 rv [], .sl 1 2 ov n (ints lo)] := d6.call n1 k10 o10
    obtain ⟨B7, hB7, o7⟩ := id d7.ex
    obtain ⟨wi, _, _, rfl, _⟩ := o7.get 0 rfl (by omega)
    obtain ⟨oi, _, _, rfl, _⟩ := o7.get 2 rfl (by omega)
    refine Holds.mp ?_
    try simp (disch := first | omega | (simp only [ints_length, List.length_replicate, List.length_set]; done) | (simp only [ints_length, List.length_replicate, List.length_set]; omega)) only [Sall,evalOp,init,binE,binI,unE,convE,okNil,builtE,gv,TD.isAgg,resV,↓reduceIte,Nat.reduceEqDiff,reduceCtorEq,Nat.reduceAdd,Nat.reduceMul,Nat.reduceLeDiff,quietOp,blindOp,Int.reduceEq,Int.reduceLT,Int.reduceLE,Nat.reduceLT,ti2,ti3,ti4,ti45,ti46,ti38,ti25,ti30,ti22,ti32,ti24,ti95,ti172,ti169,ti165,ti166,ti65,ti143,ti87,ti110,ti56,ti101,ti5,ti159,ti62,ti161,ti51,ti57,ti9, h4, h5, h6, h7]
    refine awp_loop (fun z t H' => ∃ (i : Nat) (rv : Value) (ll : List (List Int)), z = n - i ∧ i ≤ n ∧ t 9 = .int .i64 i ∧ t 4 = .pointer (some ⟨H.next, 0, none⟩) ∧ t 5 = .int .i64 n ∧ t 6 = .slice (some ⟨wi, 0, some 1⟩) n n ∧ t 7 = rv ∧ t 8 = .slice (some ⟨oi, 0, some 1⟩) n n ∧ ll.length = i ∧ (∀ y ∈ ll, y.length = n) ∧
      Dr cv nb H H1 H' [.sl 1 2 (.slice (some ⟨wi, 0, some 1⟩) n n) n (ints l'), .sl2 (Value.int .i64) 38 2 rv ll, .sl 1 2 (.slice (some ⟨oi, 0, some 1⟩) n n) n (ints lo)]) n ?_ ?_
    · refine ⟨0, rv, [], by omega, by omega, ?_⟩
      try simp (disch := first | omega | (simp only [ints_length, List.length_replicate, List.length_set]; done) | (simp only [ints_length, List.length_replicate, List.length_set]; omega)) only [Sall,evalOp,init,binE,binI,unE,convE,okNil,builtE,gv,TD.isAgg,resV,↓reduceIte,Nat.reduceEqDiff,reduceCtorEq,Nat.reduceAdd,Nat.reduceMul,Nat.reduceLeDiff,quietOp,blindOp,Int.reduceEq,Int.reduceLT,Int.reduceLE,Nat.reduceLT,ti2,ti3,ti4,ti45,ti46,ti38,ti25,ti30,ti22,ti32,ti24,ti95,ti172,ti169,ti165,ti166,ti65,ti143,ti87,ti110,ti56,ti101,ti5,ti159,ti62,ti161,ti51,ti57,ti9, Int.natCast_zero, h4, h5, h6, h7]
      exact ⟨fun y hy => by simp at hy, d7⟩
    · rintro z t H' ⟨i, rv, ll, hz, hi, h9, h4, h5, h6, h7, h8, hll, hlr, d8⟩
      try simp (disch := first | omega | (simp only [ints_length, List.length_replicate, List.length_set]; done) | (simp only [ints_length, List.length_replicate, List.length_set]; omega)) only [Sall,evalOp,init,binE,binI,unE,convE,okNil,builtE,gv,TD.isAgg,resV,↓reduceIte,Nat.reduceEqDiff,reduceCtorEq,Nat.reduceAdd,Nat.reduceMul,Nat.reduceLeDiff,quietOp,blindOp,Int.reduceEq,Int.reduceLT,Int.reduceLE,Nat.reduceLT,ti2,ti3,ti4,ti45,ti46,ti38,ti25,ti30,ti22,ti32,ti24,ti95,ti172,ti169,ti165,ti166,ti65,ti143,ti87,ti110,ti56,ti101,ti5,ti159,ti62,ti161,ti51,ti57,ti9, h9, h5]
      refine condC_dec (fun hh => ?_) (fun hh => ?_)
      · try simp (disch := first | omega | (simp only [ints_length, List.length_replicate, List.length_set]; done) | (simp only [ints_length, List.length_replicate, List.length_set]; omega)) only [Sall,evalOp,init,binE,binI,unE,convE,okNil,builtE,gv,TD.isAgg,resV,↓reduceIte,Nat.reduceEqDiff,reduceCtorEq,Nat.reduceAdd,Nat.reduceMul,Nat.reduceLeDiff,quietOp,blindOp,Int.reduceEq,Int.reduceLT,Int.reduceLE,Nat.reduceLT,ti2,ti3,ti4,ti45,ti46,ti38,ti25,ti30,ti22,ti32,ti24,ti95,ti172,ti169,ti165,ti166,ti65,ti143,ti87,ti110,ti56,ti101,ti5,ti159,ti62,ti161,ti51,ti57,ti9, h9, h4, h5, h6, h7, h8, zeros_zero]
        have d9 : Dr cv nb H H1 (H'.push ⟨2, true, []⟩) [.sl 1 2 (.slice (some ⟨wi, 0, some 1⟩) n n) n (ints l'), .sl2 (Value.int .i64) 38 2 rv ll, .sl 1 2 (.slice (some ⟨oi, 0, some 1⟩) n n) n (ints lo), .sl 1 2 (.slice (some ⟨H'.next, 0, some 1⟩) 0 0) 0 (ints [])] := d8.map fun B o => o.pushSl rfl
        refine awp_loop (fun z t H' => ∃ (k : Nat) (qv : Value) (lq : List Int), z = n - k ∧ k ≤ n ∧ t 11 = .int .i64 k ∧ t 9 = .int .i64 i ∧ t 4 = .pointer (some ⟨H.next, 0, none⟩) ∧ t 5 = .int .i64 n ∧ t 6 = .slice (some ⟨wi, 0, some 1⟩) n n ∧ t 7 = rv ∧ t 8 = .slice (some ⟨oi, 0, some 1⟩) n n ∧ t 10 = qv ∧ lq.length = k ∧
          Dr cv nb H H1 H' [.sl 1 2 (.slice (some ⟨wi, 0, some 1⟩) n n) n (ints l'), .sl2 (Value.int .i64) 38 2 rv ll, .sl 1 2 (.slice (some ⟨oi, 0, some 1⟩) n n) n (ints lo), .sl 1 2 qv k (ints lq)]) n ?_ ?_
        · refine ⟨0, .slice (some ⟨H'.next, 0, some 1⟩) 0 0, [], by omega, by omega, ?_⟩
          try simp (disch := first | omega | (simp only [ints_length, List.length_replicate, List.length_set]; done) | (simp only [ints_length, List.length_replicate, List.length_set]; omega)) only [Sall,evalOp,init,binE,binI,unE,convE,okNil,builtE,gv,TD.isAgg,resV,↓reduceIte,Nat.reduceEqDiff,reduceCtorEq,Nat.reduceAdd,Nat.reduceMul,Nat.reduceLeDiff,quietOp,blindOp,Int.reduceEq,Int.reduceLT,Int.reduceLE,Nat.reduceLT,ti2,ti3,ti4,ti45,ti46,ti38,ti25,ti30,ti22,ti32,ti24,ti95,ti172,ti169,ti165,ti166,ti65,ti143,ti87,ti110,ti56,ti101,ti5,ti159,ti62,ti161,ti51,ti57,ti9, Int.natCast_zero, h9, h4, h5, h6, h7, h8]
          exact d9
        · rintro z t H2 ⟨k, qv, lq, hz2, hk, h11, h9, h4, h5, h6, h7, h8, h10, hlq, d10⟩
          try simp (disch := first | omega | (simp only [ints_length, List.length_replicate, List.length_set]; done) | (simp only [ints_length, List.length_replicate, List.length_set]; omega)) only [Sall,evalOp,init,binE,binI,unE,convE,okNil,builtE,gv,TD.isAgg,resV,↓reduceIte,Nat.reduceEqDiff,reduceCtorEq,Nat.reduceAdd,Nat.reduceMul,Nat.reduceLeDiff,quietOp,blindOp,Int.reduceEq,Int.reduceLT,Int.reduceLE,Nat.reduceLT,ti2,ti3,ti4,ti45,ti46,ti38,ti25,ti30,ti22,ti32,ti24,ti95,ti172,ti169,ti165,ti166,ti65,ti143,ti87,ti110,ti56,ti101,ti5,ti159,ti62,ti161,ti51,ti57,ti9, h11, h5]
          refine condC_dec (fun hh2 => ?_) (fun hh2 => ?_)
          · obtain ⟨Ba, hBa, oa⟩ := d10.ex
            have ra := (oa.getV 0 rfl).2.2
            have rb := (oa.getV 2 rfl).2.2
            have ka := ints_get? l' k (by omega)
            have kb := ints_get? lo i (by omega)
            try simp (disch := first | omega | (simp only [ints_length, List.length_replicate, List.length_set]; done) | (simp only [ints_length, List.length_replicate, List.length_set]; omega)) only [Sall,evalOp,init,binE,binI,unE,convE,okNil,builtE,gv,TD.isAgg,resV,↓reduceIte,Nat.reduceEqDiff,reduceCtorEq,Nat.reduceAdd,Nat.reduceMul,Nat.reduceLeDiff,quietOp,blindOp,Int.reduceEq,Int.reduceLT,Int.reduceLE,Nat.reduceLT,ti2,ti3,ti4,ti45,ti46,ti38,ti25,ti30,ti22,ti32,ti24,ti95,ti172,ti169,ti165,ti166,ti65,ti143,ti87,ti110,ti56,ti101,ti5,ti159,ti62,ti161,ti51,ti57,ti9, h11, h5]
            refine draw_id (by kernel_rfl) (by kernel_rfl) ?_
            try simp (disch := first | omega | (simp only [ints_length, List.length_replicate, List.length_set]; done) | (simp only [ints_length, List.length_replicate, List.length_set]; omega)) only [Sall,evalOp,init,binE,binI,unE,convE,okNil,builtE,gv,TD.isAgg,resV,↓reduceIte,Nat.reduceEqDiff,reduceCtorEq,Nat.reduceAdd,Nat.reduceMul,Nat.reduceLeDiff,quietOp,blindOp,Int.reduceEq,Int.reduceLT,Int.reduceLE,Nat.reduceLT,ti2,ti3,ti4,ti45,ti46,ti38,ti25,ti30,ti22,ti32,ti24,ti95,ti172,ti169,ti165,ti166,ti65,ti143,ti87,ti110,ti56,ti101,ti5,ti159,ti62,ti161,ti51,ti57,ti9, h11, h9, h5, h6, h8, h10, ra, rb, ka, kb, hl', hol, zz1, slCells]
            (repeat refine And.intro (by omega) ?_)
            refine ⟨.inr (.inr (oa.sc.le _)), ?_⟩
            try simp (disch := first | omega | (simp only [ints_length, List.length_replicate, List.length_set]; done) | (simp only [ints_length, List.length_replicate, List.length_set]; omega)) only [Sall,evalOp,init,binE,binI,unE,convE,okNil,builtE,gv,TD.isAgg,resV,↓reduceIte,Nat.reduceEqDiff,reduceCtorEq,Nat.reduceAdd,Nat.reduceMul,Nat.reduceLeDiff,quietOp,blindOp,Int.reduceEq,Int.reduceLT,Int.reduceLE,Nat.reduceLT,ti2,ti3,ti4,ti45,ti46,ti38,ti25,ti30,ti22,ti32,ti24,ti95,ti172,ti169,ti165,ti166,ti65,ti143,ti87,ti110,ti56,ti101,ti5,ti159,ti62,ti161,ti51,ti57,ti9, h11, h9, h5, h6, h8, h10, ra, rb, ka, kb, hl', hol, zz1, slCells]
            (repeat refine And.intro (by omega) ?_)
            refine (oa.tmp ⟨2, true, [.int .i64 ((IntKind.i64.wrap (lo.getD i 0 + l'.getD k 0)).tmod n)]⟩).app 3 (ms := ints [(IntKind.i64.wrap (lo.getD i 0 + l'.getD k 0)).tmod n]) rfl rfl (by omega) rfl (by omega) (by decide) (by omega) ?_
            intro v' Hb nb2 ob
            rw [ints_append] at ob
            refine ⟨.inr (.inl (by kernel_rfl)), ?_⟩
            try simp (disch := first | omega | (simp only [ints_length, List.length_replicate, List.length_set]; done) | (simp only [ints_length, List.length_replicate, List.length_set]; omega)) only [Sall,evalOp,init,binE,binI,unE,convE,okNil,builtE,gv,TD.isAgg,resV,↓reduceIte,Nat.reduceEqDiff,reduceCtorEq,Nat.reduceAdd,Nat.reduceMul,Nat.reduceLeDiff,quietOp,blindOp,Int.reduceEq,Int.reduceLT,Int.reduceLE,Nat.reduceLT,ti2,ti3,ti4,ti45,ti46,ti38,ti25,ti30,ti22,ti32,ti24,ti95,ti172,ti169,ti165,ti166,ti65,ti143,ti87,ti110,ti56,ti101,ti5,ti159,ti62,ti161,ti51,ti57,ti9, h11, h9, h4, h5, h6, h7, h8, w64]
            exact ⟨n - (k + 1), by omega, k + 1, v', _, rfl, by omega, by omega, rfl, by rw [List.length_append, hlq]; rfl, ⟨⟨Ba, hBa, ob⟩⟩⟩
          · have hke : k = n := by omega
            rw [hke] at d10 hlq
            obtain ⟨Ba, hBa, oa⟩ := d10.ex
            have hq := oa.one 3 rfl
            have hq1 := cells_of_one hq
            have hq2 := noTuple_of_one hq
            have hq3 := fun r => ok_one (r := r) hq
            try simp (disch := first | omega | (simp only [ints_length, List.length_replicate, List.length_set]; done) | (simp only [ints_length, List.length_replicate, List.length_set]; omega)) only [Sall,evalOp,init,binE,binI,unE,convE,okNil,builtE,gv,TD.isAgg,resV,↓reduceIte,Nat.reduceEqDiff,reduceCtorEq,Nat.reduceAdd,Nat.reduceMul,Nat.reduceLeDiff,quietOp,blindOp,Int.reduceEq,Int.reduceLT,Int.reduceLE,Nat.reduceLT,ti2,ti3,ti4,ti45,ti46,ti38,ti25,ti30,ti22,ti32,ti24,ti95,ti172,ti169,ti165,ti166,ti65,ti143,ti87,ti110,ti56,ti101,ti5,ti159,ti62,ti161,ti51,ti57,ti9, h9, h4, h5, h6, h7, h8, h10, hq, hq1, hq2, hq3, zs1, slCells]
            (repeat refine And.intro (by omega) ?_)
            refine (oa.tmp ⟨38, true, [qv]⟩).app2 (l := lq) 1 3 rfl rfl (by omega) rfl (by decide) (by omega) ?_
            intro v' Hb nb2 ob
            have ob2 : Ow Ba Hb ([.sl 1 2 (.slice (some ⟨wi, 0, some 1⟩) n n) n (ints l'), .sl2 (Value.int .i64) 38 2 v' (ll ++ [lq]), .sl 1 2 (.slice (some ⟨oi, 0, some 1⟩) n n) n (ints lo)] ++ [.no]) := ob
            try simp (disch := first | omega | (simp only [ints_length, List.length_replicate, List.length_set]; done) | (simp only [ints_length, List.length_replicate, List.length_set]; omega)) only [Sall,evalOp,init,binE,binI,unE,convE,okNil,builtE,gv,TD.isAgg,resV,↓reduceIte,Nat.reduceEqDiff,reduceCtorEq,Nat.reduceAdd,Nat.reduceMul,Nat.reduceLeDiff,quietOp,blindOp,Int.reduceEq,Int.reduceLT,Int.reduceLE,Nat.reduceLT,ti2,ti3,ti4,ti45,ti46,ti38,ti25,ti30,ti22,ti32,ti24,ti95,ti172,ti169,ti165,ti166,ti65,ti143,ti87,ti110,ti56,ti101,ti5,ti159,ti62,ti161,ti51,ti57,ti9, h9, h4, h5, h6, h8, w64]
            exact ⟨n - (i + 1), by omega, i + 1, v', ll ++ [lq], rfl, by omega, by omega, rfl, by simp [hll], fun y hy => by
              rcases List.mem_append.1 hy with h | h
              · exact hlr y h
              · simp at h; rw [h, hlq], ⟨⟨Ba, hBa, ob2.left⟩⟩⟩
      · have hie : i = n := by omega
        rw [hie] at hll
        try simp (disch := first | omega | (simp only [ints_length, List.length_replicate, List.length_set]; done) | (simp only [ints_length, List.length_replicate, List.length_set]; omega)) only [Sall,evalOp,init,binE,binI,unE,convE,okNil,builtE,gv,TD.isAgg,resV,↓reduceIte,Nat.reduceEqDiff,reduceCtorEq,Nat.reduceAdd,Nat.reduceMul,Nat.reduceLeDiff,quietOp,blindOp,Int.reduceEq,Int.reduceLT,Int.reduceLE,Nat.reduceLT,ti2,ti3,ti4,ti45,ti46,ti38,ti25,ti30,ti22,ti32,ti24,ti95,ti172,ti169,ti165,ti166,ti65,ti143,ti87,ti110,ti56,ti101,ti5,ti159,ti62,ti161,ti51,ti57,ti9, h4, h5, h7]
        refine (l01Next_c cv nb H.next 16 H' (by omega) hnb (d8.src n1) (d8.code hx sc1)).ex ?_
        rintro y2 Ha ⟨hy2, hSa⟩
        have d9 := d8.next n1 hSa
        obtain ⟨Ba, hBa, oa⟩ := id d9.ex
        have hr := (oa.rd2 1 rfl).one
        refine Holds.mp ?_
        by_cases c0 : (y2 : Int) = 0
        · have e0 : ((y2 : Int) == 0) = true := beq_iff_eq.2 c0
          have ob := (oa.pushSl (k := 1) (n := 0) (ty := 2) (vs := ints []) rfl).tmp ⟨38, true, [.slice (some ⟨Ha.next, 0, some 1⟩) 0 0]⟩
          try simp (disch := first | omega | (simp only [ints_length, List.length_replicate, List.length_set]; done) | (simp only [ints_length, List.length_replicate, List.length_set]; omega)) only [Sall,evalOp,init,binE,binI,unE,convE,okNil,builtE,gv,TD.isAgg,resV,↓reduceIte,Nat.reduceEqDiff,reduceCtorEq,Nat.reduceAdd,Nat.reduceMul,Nat.reduceLeDiff,quietOp,blindOp,Int.reduceEq,Int.reduceLT,Int.reduceLE,Nat.reduceLT,ti2,ti3,ti4,ti45,ti46,ti38,ti25,ti30,ti22,ti32,ti24,ti95,ti172,ti169,ti165,ti166,ti65,ti143,ti87,ti110,ti56,ti101,ti5,ti159,ti62,ti161,ti51,ti57,ti9, e0, h4, h5, h7, zeros_zero, zs1, slCells]
          (repeat refine And.intro (by omega) ?_)
          refine ob.app2 (f := Value.int .i64) (l := []) 1 3 rfl rfl (by omega) rfl (by decide) (by omega) ?_
          intro v' Hb nb2 oc
          have hv' := (oc.rd2 1 rfl).one
          have oc2 : Ow Ba Hb [.sl 1 2 (.slice (some ⟨wi, 0, some 1⟩) n n) n (ints l'), .sl2 (Value.int .i64) 38 2 v' (ll ++ [[]]), .sl 1 2 (.slice (some ⟨oi, 0, some 1⟩) n n) n (ints lo), .no] := oc
          try simp (disch := first | omega | (simp only [ints_length, List.length_replicate, List.length_set]; done) | (simp only [ints_length, List.length_replicate, List.length_set]; omega)) only [Sall,evalOp,init,binE,binI,unE,convE,okNil,builtE,gv,TD.isAgg,resV,↓reduceIte,Nat.reduceEqDiff,reduceCtorEq,Nat.reduceAdd,Nat.reduceMul,Nat.reduceLeDiff,quietOp,blindOp,Int.reduceEq,Int.reduceLT,Int.reduceLE,Nat.reduceLT,ti2,ti3,ti4,ti45,ti46,ti38,ti25,ti30,ti22,ti32,ti24,ti95,ti172,ti169,ti165,ti166,ti65,ti143,ti87,ti110,ti56,ti101,ti5,ti159,ti62,ti161,ti51,ti57,ti9, h5, hv']
          exact ⟨(n, v'), rfl, ll ++ [[]], by dsimp only; omega, by dsimp only; omega, by simp [hll]; omega, fun y hy => by
            rcases List.mem_append.1 hy with h | h
            · rw [hlr y h]; exact hn14
            · simp at h; rw [h]; simp, Dr.fin ⟨⟨Ba, hBa, oc2.sub (fun _ => 1) (fun j hj => by
              have hj : j < 1 := hj
              obtain rfl : j = 0 := by omega
              rfl) fun x y hx hy _ => by
                have hx : x < 1 := hx
                have hy : y < 1 := hy
                omega⟩⟩ up1⟩
        · have e0 : ((y2 : Int) == 0) = false := beq_eq_false_iff_ne.2 c0
          by_cases c1 : (y2 : Int) = 1
          · have e1 : ((y2 : Int) == 1) = true := beq_iff_eq.2 c1
            obtain ⟨ri, rvs, rx, _, _, rfl, rr, rvl, rx1, _, rq⟩ := oa.get2 1 rfl (j := 0) (by omega)
            have hl0 : (ll.getD 0 []).length = n := hlr _ (getD_mem (by omega))
            rw [hl0] at rq
            obtain ⟨qi, _, _, _, rfl, rqr⟩ := rq (by omega)
            have rx0 : rvs[Int.toNat 0]? = some (.slice (some ⟨qi, 0, some 1⟩) n n) := rx1
            try simp (disch := first | omega | (simp only [ints_length, List.length_replicate, List.length_set]; done) | (simp only [ints_length, List.length_replicate, List.length_set]; omega)) only [Sall,evalOp,init,binE,binI,unE,convE,okNil,builtE,gv,TD.isAgg,resV,↓reduceIte,Nat.reduceEqDiff,reduceCtorEq,Nat.reduceAdd,Nat.reduceMul,Nat.reduceLeDiff,quietOp,blindOp,Int.reduceEq,Int.reduceLT,Int.reduceLE,Nat.reduceLT,ti2,ti3,ti4,ti45,ti46,ti38,ti25,ti30,ti22,ti32,ti24,ti95,ti172,ti169,ti165,ti166,ti65,ti143,ti87,ti110,ti56,ti101,ti5,ti159,ti62,ti161,ti51,ti57,ti9, e0, e1, h4, h5, h7, rr, rx0, rvl, zz4, w64]
            (repeat refine And.intro (by omega) ?_)
            try simp (disch := first | omega | (simp only [ints_length, List.length_replicate, List.length_set]; done) | (simp only [ints_length, List.length_replicate, List.length_set]; omega)) only [Sall,evalOp,init,binE,binI,unE,convE,okNil,builtE,gv,TD.isAgg,resV,↓reduceIte,Nat.reduceEqDiff,reduceCtorEq,Nat.reduceAdd,Nat.reduceMul,Nat.reduceLeDiff,quietOp,blindOp,Int.reduceEq,Int.reduceLT,Int.reduceLE,Nat.reduceLT,ti2,ti3,ti4,ti45,ti46,ti38,ti25,ti30,ti22,ti32,ti24,ti95,ti172,ti169,ti165,ti166,ti65,ti143,ti87,ti110,ti56,ti101,ti5,ti159,ti62,ti161,ti51,ti57,ti9, e0, e1, h4, h5, h7, rr, rx0, rvl, zz4, w64]
            refine (pick Ha _ [-1, (n : Int), 0, (n : Int) - 1] 4 rfl (by omega) (by omega) d9).ex ?_
            rintro p2 Hb ⟨hp2, d10, hsame⟩
            obtain ⟨Bb, hBb, ob⟩ := id d10.ex
            have hbn := hBa.next
            have rrb : Hb.row ri = some ⟨38, true, rvs⟩ := by rw [hsame ri (by omega) (by omega)]; exact rr
            have rqb : Hb.row qi = some ⟨2, true, ints (ll.getD 0 [])⟩ := by rw [hsame qi (by omega) (by omega)]; exact rqr
            refine Holds.mp ?_
            try simp (disch := first | omega | (simp only [ints_length, List.length_replicate, List.length_set]; done) | (simp only [ints_length, List.length_replicate, List.length_set]; omega)) only [Sall,evalOp,init,binE,binI,unE,convE,okNil,builtE,gv,TD.isAgg,resV,↓reduceIte,Nat.reduceEqDiff,reduceCtorEq,Nat.reduceAdd,Nat.reduceMul,Nat.reduceLeDiff,quietOp,blindOp,Int.reduceEq,Int.reduceLT,Int.reduceLE,Nat.reduceLT,ti2,ti3,ti4,ti45,ti46,ti38,ti25,ti30,ti22,ti32,ti24,ti95,ti172,ti169,ti165,ti166,ti65,ti143,ti87,ti110,ti56,ti101,ti5,ti159,ti62,ti161,ti51,ti57,ti9, h5, h7, rqb, hl0, ints_set]
            (repeat refine And.intro (by omega) ?_)
            try simp (disch := first | omega | (simp only [ints_length, List.length_replicate, List.length_set]; done) | (simp only [ints_length, List.length_replicate, List.length_set]; omega)) only [Sall,evalOp,init,binE,binI,unE,convE,okNil,builtE,gv,TD.isAgg,resV,↓reduceIte,Nat.reduceEqDiff,reduceCtorEq,Nat.reduceAdd,Nat.reduceMul,Nat.reduceLeDiff,quietOp,blindOp,Int.reduceEq,Int.reduceLT,Int.reduceLE,Nat.reduceLT,ti2,ti3,ti4,ti45,ti46,ti38,ti25,ti30,ti22,ti32,ti24,ti95,ti172,ti169,ti165,ti166,ti65,ti143,ti87,ti110,ti56,ti101,ti5,ti159,ti62,ti161,ti51,ti57,ti9, h5, h7, rqb, hl0, ints_set]
            have oc := ob.set2 1 rfl (j := 0) (by omega) (l' := (ll.getD 0 []).set 0 p2) (by simp) rrb rx1
            exact ⟨((n : Int), .slice (some ⟨ri, 0, some 1⟩) ll.length ll.length), rfl, ll.set 0 ((ll.getD 0 []).set 0 p2), by dsimp only; omega, by dsimp only; omega, by rw [List.length_set]; omega, fun y hy => by
              rcases List.mem_or_eq_of_mem_set hy with h | h
              · rw [hlr y h]; exact hn14
              · rw [h, List.length_set, hl0]; exact hn14, Dr.fin ⟨⟨Bb, hBb, oc.sub (fun _ => 1) (fun j hj => by
                have hj : j < 1 := hj
                obtain rfl : j = 0 := by omega
                rfl) fun x y hx hy _ => by
                  have hx : x < 1 := hx
                  have hy : y < 1 := hy
                  omega⟩⟩ up1⟩
          · have e1 : ((y2 : Int) == 1) = false := beq_eq_false_iff_ne.2 c1
            by_cases c2 : (y2 : Int) = 2
            · have e2 : ((y2 : Int) == 2) = true := beq_iff_eq.2 c2
              try simp (disch := first | omega | (simp only [ints_length, List.length_replicate, List.length_set]; done) | (simp only [ints_length, List.length_replicate, List.length_set]; omega)) only [Sall,evalOp,init,binE,binI,unE,convE,okNil,builtE,gv,TD.isAgg,resV,↓reduceIte,Nat.reduceEqDiff,reduceCtorEq,Nat.reduceAdd,Nat.reduceMul,Nat.reduceLeDiff,quietOp,blindOp,Int.reduceEq,Int.reduceLT,Int.reduceLE,Nat.reduceLT,ti2,ti3,ti4,ti45,ti46,ti38,ti25,ti30,ti22,ti32,ti24,ti95,ti172,ti169,ti165,ti166,ti65,ti143,ti87,ti110,ti56,ti101,ti5,ti159,ti62,ti161,ti51,ti57,ti9, e0, e1, e2, h4, h5, h7, zz3, w64]
              refine (pick Ha _ [0, 15, (n : Int) + 1] 3 rfl (by omega) (by omega) d9).ex ?_
              rintro p2 Hb ⟨hp2, d10, _⟩
              simp only [List.mem_cons, List.not_mem_nil, or_false] at hp2
              refine Holds.mp ?_
              try simp (disch := first | omega | (simp only [ints_length, List.length_replicate, List.length_set]; done) | (simp only [ints_length, List.length_replicate, List.length_set]; omega)) only [Sall,evalOp,init,binE,binI,unE,convE,okNil,builtE,gv,TD.isAgg,resV,↓reduceIte,Nat.reduceEqDiff,reduceCtorEq,Nat.reduceAdd,Nat.reduceMul,Nat.reduceLeDiff,quietOp,blindOp,Int.reduceEq,Int.reduceLT,Int.reduceLE,Nat.reduceLT,ti2,ti3,ti4,ti45,ti46,ti38,ti25,ti30,ti22,ti32,ti24,ti95,ti172,ti169,ti165,ti166,ti65,ti143,ti87,ti110,ti56,ti101,ti5,ti159,ti62,ti161,ti51,ti57,ti9, h7, hr]
              exact ⟨(p2, rv), rfl, ll, by dsimp only; omega, by dsimp only; omega, by omega, fun y hy => by rw [hlr y hy]; exact hn14, Dr.fin (d10.map fun B o => o.sub (fun _ => 1) (fun j hj => by
                have hj : j < 1 := hj
                obtain rfl : j = 0 := by omega
                rfl) fun x y hx hy _ => by
                  have hx : x < 1 := hx
                  have hy : y < 1 := hy
                  omega) up1⟩
            · have e2 : ((y2 : Int) == 2) = false := beq_eq_false_iff_ne.2 c2
              try simp (disch := first | omega | (simp only [ints_length, List.length_replicate, List.length_set]; done) | (simp only [ints_length, List.length_replicate, List.length_set]; omega)) only [Sall,evalOp,init,binE,binI,unE,convE,okNil,builtE,gv,TD.isAgg,resV,↓reduceIte,Nat.reduceEqDiff,reduceCtorEq,Nat.reduceAdd,Nat.reduceMul,Nat.reduceLeDiff,quietOp,blindOp,Int.reduceEq,Int.reduceLT,Int.reduceLE,Nat.reduceLT,ti2,ti3,ti4,ti45,ti46,ti38,ti25,ti30,ti22,ti32,ti24,ti95,ti172,ti169,ti165,ti166,ti65,ti143,ti87,ti110,ti56,ti101,ti5,ti159,ti62,ti161,ti51,ti57,ti9, e0, e1, e2, h5, h7, hr]
              exact ⟨(n, rv), rfl, ll, by dsimp only; omega, by dsimp only; omega, by omega, fun y hy => by rw [hlr y hy]; exact hn14, Dr.fin (d9.map fun B o => o.sub (fun _ => 1) (fun j hj => by
                have hj : j < 1 := hj
                obtain rfl : j = 0 := by omega
                rfl) fun x y hx hy _ => by
                  have hx : x < 1 := hx
                  have hy : y < 1 := hy
                  omega) up1⟩

theorem drawIsRowComplete_c (cv : Value) (nb : Nat) (H : AH) (hnb : nb ≤ 4611686018427387904) (hc : CodeOk H cv nb) :
    ACalls Try.prog 63 [cv] H (fun r H' => ∃ u : Int × Value, r = .tuple #[.int .i64 u.1, u.2] ∧ ∃ ll : List (List Int), -1000 ≤ u.1 ∧ u.1 ≤ 1000 ∧ ll.length ≤ 15 ∧ (∀ y ∈ ll, y.length ≤ 14) ∧ Ow H H' [.sl2 (Value.int .i64) 38 2 u.2 ll]) := by
  refine acalls_of_awp [.tmp 2, .tmp 3] Try.func63 (by kernel_rfl) rfl rfl (Nat.le_of_ble_eq_true rfl) (by kernel_rfl) ?_
  try simp (disch := first | omega | (simp only [ints_length, List.length_replicate, List.length_set]; done) | (simp only [ints_length, List.length_replicate, List.length_set]; omega)) only [Sall,evalOp,init,binE,binI,unE,convE,okNil,builtE,gv,TD.isAgg,resV,↓reduceIte,Nat.reduceEqDiff,reduceCtorEq,Nat.reduceAdd,Nat.reduceMul,Nat.reduceLeDiff,quietOp,blindOp,Int.reduceEq,Int.reduceLT,Int.reduceLE,Nat.reduceLT,ti2,ti3,ti4,ti45,ti46,ti38,ti25,ti30,ti22,ti32,ti24,ti95,ti172,ti169,ti165,ti166,ti65,ti143,ti87,ti110,ti56,ti101,ti5,ti159,ti62,ti161,ti51,ti57,ti9, true_and]
  refine (l09Given_c cv nb H hnb hc).ex ?_
  rintro u H1 ⟨ll, h1, h2, h3, h4, h5⟩
  have hu := (h5.rd2 0 rfl).one
  refine Holds.mp ?_
  try simp (disch := first | omega | (simp only [ints_length, List.length_replicate, List.length_set]; done) | (simp only [ints_length, List.length_replicate, List.length_set]; omega)) only [Sall,evalOp,init,binE,binI,unE,convE,okNil,builtE,gv,TD.isAgg,resV,↓reduceIte,Nat.reduceEqDiff,reduceCtorEq,Nat.reduceAdd,Nat.reduceMul,Nat.reduceLeDiff,quietOp,blindOp,Int.reduceEq,Int.reduceLT,Int.reduceLE,Nat.reduceLT,ti2,ti3,ti4,ti45,ti46,ti38,ti25,ti30,ti22,ti32,ti24,ti95,ti172,ti169,ti165,ti166,ti65,ti143,ti87,ti110,ti56,ti101,ti5,ti159,ti62,ti161,ti51,ti57,ti9, hu]
  exact ⟨u, rfl, ll, h1, h2, h3, h4, h5⟩
end Go.Proofs.Ytgkmdfjjlghecaa.A
end

section
set_option linter.unusedSimpArgs false
set_option linter.unusedVariables false
namespace Go.Abs

def oddUp (n : Nat) : Nat := n - 1 + n % 2
/-- Whom x meets in round r of a circle of m. -/
def cb (m r x : Nat) : Int := Int.tmod (2 * (r : Int) - (x : Int) + (m : Int)) (m : Int)
/-- The round, the first k teams having been looked at. -/
def cmid (n r k : Nat) : List Int := (List.range 14).map fun x => if x < oddUp n then (if x < k ∨ cb (oddUp n) r x < k then cb (oddUp n) r x else x) else if x < n then x else 0
def cset (n r k : Nat) : List Int := (List.range 14).map fun x => if x < oddUp n then (if x < k then cb (oddUp n) r x else x) else if x < n then x else 0
def cround (n r : Nat) : List Int := if n % 2 = 0 then ((cmid n r (oddUp n)).set (n - 1) r).set r ((n : Int) - 1) else cmid n r (oddUp n)

theorem cmid_length (n r k : Nat) : (cmid n r k).length = 14 := by simp [cmid]
theorem cset_length (n r k : Nat) : (cset n r k).length = 14 := by simp [cset]
theorem cround_length (n r : Nat) : (cround n r).length = 14 := by unfold cround; split <;> simp [cmid_length]

theorem cb_range : ∀ n, n < 15 → ∀ r, r < oddUp n → ∀ x, x < oddUp n → 0 ≤ cb (oddUp n) r x ∧ cb (oddUp n) r x < oddUp n := by decide +kernel
theorem cmid_zero : ∀ n, n < 15 → ∀ r, r < oddUp n → cmid n r 0 = (List.range 14).map (fun (a : Nat) => if (a : Int) < (n : Int) then (a : Int) else 0) := by decide +kernel
theorem cmid_step : ∀ n, n < 15 → ∀ r, r < oddUp n → ∀ k, k < oddUp n → (if (k : Int) < cb (oddUp n) r k then ((cmid n r k).set k (cb (oddUp n) r k)).set (cb (oddUp n) r k).toNat k else cmid n r k) = cmid n r (k + 1) := by decide +kernel
theorem cset_zero : ∀ n, n < 15 → ∀ r, r < oddUp n → cset n r 0 = (List.range 14).map (fun (a : Nat) => if (a : Int) < (n : Int) then (a : Int) else 0) := by decide +kernel
theorem cset_step : ∀ n, n < 15 → ∀ r, r < oddUp n → ∀ k, k < oddUp n → (cset n r k).set k (cb (oddUp n) r k) = cset n r (k + 1) := by decide +kernel
theorem cset_last : ∀ n, n < 15 → ∀ r, r < oddUp n → cset n r (oddUp n) = cmid n r (oddUp n) := by decide +kernel

def circleL (n k : Nat) : List Int := ((List.range k).map (cround n)).flatten
theorem circleL_length (n k : Nat) : (circleL n k).length = k * 14 := by
  induction k with
  | zero => simp [circleL]
  | succ k ih =>
    simp only [circleL, List.range_succ, List.map_append, List.map_cons, List.map_nil, List.flatten_append, List.flatten_cons, List.flatten_nil, List.append_nil, List.length_append, cround_length] at ih ⊢
    omega
theorem circleL_succ (n k : Nat) : circleL n (k + 1) = circleL n k ++ cround n k := by simp [circleL, List.range_succ]
end Go.Abs
end

section
set_option linter.unusedSimpArgs false
set_option linter.unusedVariables false
set_option maxRecDepth 100000
namespace Go.Proofs.Ytgkmdfjjlghecaa.A
open Go Go.Abs Go.RowKit

def freeL (n : Int) : List Int := (List.range 14).map fun (a : Nat) => if (a : Int) < n then (a : Int) else 0
theorem freeL_length (n : Int) : (freeL n).length = 14 := by simp [freeL]
theorem freeL_set (a : Int) (h : 0 ≤ a) (h' : a < 14) : (freeL a).set a.toNat a = freeL (a + 1) := by
  apply List.ext_getElem
  · simp [freeL]
  · intro i h1 h2
    simp only [freeL, List.getElem_set, List.getElem_map, List.getElem_range]
    split
    · rename_i e; rw [if_pos (by omega)]; omega
    · rename_i e; split <;> split <;> omega

theorem free_c (n : Int) (hn : n ≤ 14) (H : AH) : ACalls Try.prog 169 [.int .i64 n] H (is (.agg (ints (freeL n)).toArray) H) := by
  refine acalls_up (flat_ints _) (acalls_of_awp [.cell 2 46] Try.func169 (by kernel_rfl) rfl rfl (Nat.le_of_ble_eq_true rfl) (by kernel_rfl) ?_)
  try simp (disch := first | omega | (simp only [ints_length, freeL_length, List.length_replicate]; done) | (simp only [ints_length, freeL_length, List.length_replicate]; omega)) only [Sall,evalOp,init,binE,binI,unE,convE,okNil,builtE,gv,TD.isAgg,resV,↓reduceIte,Nat.reduceEqDiff,reduceCtorEq,Nat.reduceAdd,Nat.reduceMul,Nat.reduceLeDiff,quietOp,blindOp,Int.reduceEq,Int.reduceLT,Int.reduceLE,Nat.reduceLT,ti2,ti3,ti4,ti45,ti46,ti38,ti25,ti30,ti22,ti32,ti24,ti95,ti172,ti169,ti165,ti166,ti65,ti143,ti87, true_and]
  refine awp_loop (fun m t H' => ∃ a : Int, m = (n - a).toNat ∧ 0 ≤ a ∧ a ≤ 14 ∧ (a ≤ n ∨ a = 0) ∧ t 7 = .int .i64 a ∧ t 6 = .int .i64 n ∧ t 3 = .pointer (some ⟨H.next + 1, 0, none⟩) ∧ t 2 = .pointer (some ⟨H.next, 0, none⟩) ∧ Up H.next H H' ∧
    H'.row H.next = some ⟨46, true, ints (List.replicate 14 0)⟩ ∧ H'.row (H.next + 1) = some ⟨46, true, ints (freeL a)⟩) n.toNat ?_ ?_
  · refine ⟨0, by omega, by omega, by omega, by omega, ?_⟩
    try simp (disch := first | omega | (simp only [ints_length, freeL_length, List.length_replicate]; done) | (simp only [ints_length, freeL_length, List.length_replicate]; omega)) only [Sall,evalOp,init,binE,binI,unE,convE,okNil,builtE,gv,TD.isAgg,resV,↓reduceIte,Nat.reduceEqDiff,reduceCtorEq,Nat.reduceAdd,Nat.reduceMul,Nat.reduceLeDiff,quietOp,blindOp,Int.reduceEq,Int.reduceLT,Int.reduceLE,Nat.reduceLT,ti2,ti3,ti4,ti45,ti46,ti38,ti25,ti30,ti22,ti32,ti24,ti95,ti172,ti169,ti165,ti166,ti65,ti143,ti87, true_and]
    refine ⟨(((Up.refl _ H).push (by omega) _).push (Nat.le_succ _) _).set (by omega) _, ?_⟩
    exact congrArg (fun l => Row.mk _ true (ints l)) (by decide : List.replicate 14 0 = freeL 0)
  · rintro m t H' ⟨a, hm, h0, h14, han, h7, h6, h3, h2, hup, hr0, hr1⟩
    try simp (disch := first | omega | (simp only [ints_length, freeL_length, List.length_replicate]; done) | (simp only [ints_length, freeL_length, List.length_replicate]; omega)) only [Sall,evalOp,init,binE,binI,unE,convE,okNil,builtE,gv,TD.isAgg,resV,↓reduceIte,Nat.reduceEqDiff,reduceCtorEq,Nat.reduceAdd,Nat.reduceMul,Nat.reduceLeDiff,quietOp,blindOp,Int.reduceEq,Int.reduceLT,Int.reduceLE,Nat.reduceLT,ti2,ti3,ti4,ti45,ti46,ti38,ti25,ti30,ti22,ti32,ti24,ti95,ti172,ti169,ti165,ti166,ti65,ti143,ti87, h7, h6]
    refine condC_dec (fun h => ?_) (fun h => ?_)
    · try simp (disch := first | omega | (simp only [ints_length, freeL_length, List.length_replicate]; done) | (simp only [ints_length, freeL_length, List.length_replicate]; omega)) only [Sall,evalOp,init,binE,binI,unE,convE,okNil,builtE,gv,TD.isAgg,resV,↓reduceIte,Nat.reduceEqDiff,reduceCtorEq,Nat.reduceAdd,Nat.reduceMul,Nat.reduceLeDiff,quietOp,blindOp,Int.reduceEq,Int.reduceLT,Int.reduceLE,Nat.reduceLT,ti2,ti3,ti4,ti45,ti46,ti38,ti25,ti30,ti22,ti32,ti24,ti95,ti172,ti169,ti165,ti166,ti65,ti143,ti87, h7, h6, h3, h2, hr1, hr0, ints_set, w64, freeL_set]
      refine ⟨⟨h0, by omega⟩, by rw [freeL_length]; omega, (n - (a + 1)).toNat, by omega, a + 1, rfl, by omega, by omega, by omega, rfl, hup.set (by omega) _, rfl⟩
    · try simp (disch := first | omega | (simp only [ints_length, freeL_length, List.length_replicate]; done) | (simp only [ints_length, freeL_length, List.length_replicate]; omega)) only [Sall,evalOp,init,binE,binI,unE,convE,okNil,builtE,gv,TD.isAgg,resV,↓reduceIte,Nat.reduceEqDiff,reduceCtorEq,Nat.reduceAdd,Nat.reduceMul,Nat.reduceLeDiff,quietOp,blindOp,Int.reduceEq,Int.reduceLT,Int.reduceLE,Nat.reduceLT,ti2,ti3,ti4,ti45,ti46,ti38,ti25,ti30,ti22,ti32,ti24,ti95,ti172,ti169,ti165,ti166,ti65,ti143,ti87, h7, h6, h3, h2, hr1, hr0, freeL_length]
      refine ⟨?_, hup.set (by omega) _⟩
      rcases han with h | h
      · rw [show a = n by omega]
      · subst h; congr 3; simp only [freeL]; apply List.map_congr_left; intro x hx; rw [if_neg (by omega), if_neg (by omega)]

theorem freeS_c (n : Int) (hn : n ≤ 14) (H : AH) : ACalls Try.prog 97 [.int .i64 n] H (is (.agg (ints (freeL n)).toArray) H) := by
  refine acalls_up (flat_ints _) (acalls_of_awp [.cell 2 46] Try.func97 (by kernel_rfl) rfl rfl (Nat.le_of_ble_eq_true rfl) (by kernel_rfl) ?_)
  try simp (disch := first | omega | (simp only [ints_length, freeL_length, List.length_replicate]; done) | (simp only [ints_length, freeL_length, List.length_replicate]; omega)) only [Sall,evalOp,init,binE,binI,unE,convE,okNil,builtE,gv,TD.isAgg,resV,↓reduceIte,Nat.reduceEqDiff,reduceCtorEq,Nat.reduceAdd,Nat.reduceMul,Nat.reduceLeDiff,quietOp,blindOp,Int.reduceEq,Int.reduceLT,Int.reduceLE,Nat.reduceLT,ti2,ti3,ti4,ti45,ti46,ti38,ti25,ti30,ti22,ti32,ti24,ti95,ti172,ti169,ti165,ti166,ti65,ti143,ti87, true_and]
  refine awp_loop (fun m t H' => ∃ a : Int, m = (n - a).toNat ∧ 0 ≤ a ∧ a ≤ 14 ∧ (a ≤ n ∨ a = 0) ∧ t 4 = .int .i64 a ∧ t 0 = .int .i64 n ∧ t 3 = .pointer (some ⟨H.next + 1, 0, none⟩) ∧ t 2 = .pointer (some ⟨H.next, 0, none⟩) ∧ Up H.next H H' ∧
    H'.row H.next = some ⟨46, true, ints (List.replicate 14 0)⟩ ∧ H'.row (H.next + 1) = some ⟨46, true, ints (freeL a)⟩) n.toNat ?_ ?_
  · refine ⟨0, by omega, by omega, by omega, by omega, ?_⟩
    try simp (disch := first | omega | (simp only [ints_length, freeL_length, List.length_replicate]; done) | (simp only [ints_length, freeL_length, List.length_replicate]; omega)) only [Sall,evalOp,init,binE,binI,unE,convE,okNil,builtE,gv,TD.isAgg,resV,↓reduceIte,Nat.reduceEqDiff,reduceCtorEq,Nat.reduceAdd,Nat.reduceMul,Nat.reduceLeDiff,quietOp,blindOp,Int.reduceEq,Int.reduceLT,Int.reduceLE,Nat.reduceLT,ti2,ti3,ti4,ti45,ti46,ti38,ti25,ti30,ti22,ti32,ti24,ti95,ti172,ti169,ti165,ti166,ti65,ti143,ti87, true_and]
    refine ⟨(((Up.refl _ H).push (by omega) _).push (Nat.le_succ _) _).set (by omega) _, ?_⟩
    exact congrArg (fun l => Row.mk _ true (ints l)) (by decide : List.replicate 14 0 = freeL 0)
  · rintro m t H' ⟨a, hm, h0, h14, han, h7, h6, h3, h2, hup, hr0, hr1⟩
    try simp (disch := first | omega | (simp only [ints_length, freeL_length, List.length_replicate]; done) | (simp only [ints_length, freeL_length, List.length_replicate]; omega)) only [Sall,evalOp,init,binE,binI,unE,convE,okNil,builtE,gv,TD.isAgg,resV,↓reduceIte,Nat.reduceEqDiff,reduceCtorEq,Nat.reduceAdd,Nat.reduceMul,Nat.reduceLeDiff,quietOp,blindOp,Int.reduceEq,Int.reduceLT,Int.reduceLE,Nat.reduceLT,ti2,ti3,ti4,ti45,ti46,ti38,ti25,ti30,ti22,ti32,ti24,ti95,ti172,ti169,ti165,ti166,ti65,ti143,ti87, h7, h6]
    refine condC_dec (fun h => ?_) (fun h => ?_)
    · try simp (disch := first | omega | (simp only [ints_length, freeL_length, List.length_replicate]; done) | (simp only [ints_length, freeL_length, List.length_replicate]; omega)) only [Sall,evalOp,init,binE,binI,unE,convE,okNil,builtE,gv,TD.isAgg,resV,↓reduceIte,Nat.reduceEqDiff,reduceCtorEq,Nat.reduceAdd,Nat.reduceMul,Nat.reduceLeDiff,quietOp,blindOp,Int.reduceEq,Int.reduceLT,Int.reduceLE,Nat.reduceLT,ti2,ti3,ti4,ti45,ti46,ti38,ti25,ti30,ti22,ti32,ti24,ti95,ti172,ti169,ti165,ti166,ti65,ti143,ti87, h7, h6, h3, h2, hr1, hr0, ints_set, w64, freeL_set, freeL_length]
      refine ⟨⟨h0, by omega⟩, by omega, (n - (a + 1)).toNat, by omega, a + 1, rfl, by omega, by omega, by omega, rfl, hup.set (by omega) _, rfl⟩
    · try simp (disch := first | omega | (simp only [ints_length, freeL_length, List.length_replicate]; done) | (simp only [ints_length, freeL_length, List.length_replicate]; omega)) only [Sall,evalOp,init,binE,binI,unE,convE,okNil,builtE,gv,TD.isAgg,resV,↓reduceIte,Nat.reduceEqDiff,reduceCtorEq,Nat.reduceAdd,Nat.reduceMul,Nat.reduceLeDiff,quietOp,blindOp,Int.reduceEq,Int.reduceLT,Int.reduceLE,Nat.reduceLT,ti2,ti3,ti4,ti45,ti46,ti38,ti25,ti30,ti22,ti32,ti24,ti95,ti172,ti169,ti165,ti166,ti65,ti143,ti87, h7, h6, h3, h2, hr1, hr0, freeL_length]
      refine ⟨?_, hup.set (by omega) _⟩
      rcases han with h | h
      · rw [show a = n by omega]
      · subst h; congr 3; simp only [freeL]; apply List.map_congr_left; intro x hx; rw [if_neg (by omega), if_neg (by omega)]

theorem meet_c (i ty : Nat) (a b : Int) (l : List Int) (H : AH) (hr : H.row i = some ⟨ty, true, ints l⟩) (hl : l.length = 14) (ha : 0 ≤ a ∧ a < 14) (hb : 0 ≤ b ∧ b < 14) :
    ACalls Try.prog 171 [.pointer (some ⟨i, 0, none⟩), .int .i64 a, .int .i64 b] H (is (.tuple #[]) (H.setCells i (ints ((l.set a.toNat b).set b.toNat a)))) := by
  refine acalls_of_awp [] Try.func171 (by kernel_rfl) rfl rfl (Nat.le_of_ble_eq_true rfl) (by kernel_rfl) ?_
  try simp (disch := first | omega | (simp only [ints_length, freeL_length, List.length_replicate]; done) | (simp only [ints_length, freeL_length, List.length_replicate]; omega)) only [Sall,evalOp,init,binE,binI,unE,convE,okNil,builtE,gv,TD.isAgg,resV,↓reduceIte,Nat.reduceEqDiff,reduceCtorEq,Nat.reduceAdd,Nat.reduceMul,Nat.reduceLeDiff,quietOp,blindOp,Int.reduceEq,Int.reduceLT,Int.reduceLE,Nat.reduceLT,ti2,ti3,ti4,ti45,ti46,ti38,ti25,ti30,ti22,ti32,ti24,ti95,ti172,ti169,ti165,ti166,ti65,ti143,ti87, true_and]
  refine draw_in [0, 1, 2, 3, 4, 5, 6, 9, 7, 8, 10, 11] (by kernel_rfl) (by kernel_rfl) rfl ?_
  have e1 : (l.set a.toNat b).length = 14 := by simp [hl]
  try simp (disch := first | omega | (simp only [ints_length, freeL_length, List.length_replicate]; done) | (simp only [ints_length, freeL_length, List.length_replicate]; omega)) only [Sall,evalOp,init,binE,binI,unE,convE,okNil,builtE,gv,TD.isAgg,resV,↓reduceIte,Nat.reduceEqDiff,reduceCtorEq,Nat.reduceAdd,Nat.reduceMul,Nat.reduceLeDiff,quietOp,blindOp,Int.reduceEq,Int.reduceLT,Int.reduceLE,Nat.reduceLT,ti2,ti3,ti4,ti45,ti46,ti38,ti25,ti30,ti22,ti32,ti24,ti95,ti172,ti169,ti165,ti166,ti65,ti143,ti87, hr, ints_set, hl, e1, is, AH.setCells_setCells]
  refine ⟨⟨ha.1, by omega⟩, by omega, .inr (.inl (by kernel_rfl)), ⟨hb.1, by omega⟩, by omega, .inr (.inl (by kernel_rfl))⟩
end Go.Proofs.Ytgkmdfjjlghecaa.A
end

section
set_option linter.unusedSimpArgs false
set_option linter.unusedVariables false
set_option maxRecDepth 100000
namespace Go.Proofs.Ytgkmdfjjlghecaa.A
open Go Go.Abs Go.RowKit

/-- A fresh schedule: its rounds lie in rows of their own. -/
def FrS (q : Int) (n : Nat) (l : List Int) (H : AH) (v : Value) (H' : AH) : Prop := ∃ u, v = .agg #[.int .i64 q, u] ∧ Up H.next H H' ∧ Fr 14 46 H.next H'.next H' u n l

theorem circleS_c (n : Nat) (hn : 2 ≤ n ∧ n ≤ 14) (H : AH) : ACalls Try.prog 242 [.int .i64 n] H (FrS n (oddUp n) (circleL n (oddUp n)) H) := by
  refine acalls_of_awp [.cell 2 32] Try.func242 (by kernel_rfl) rfl rfl (Nat.le_of_ble_eq_true rfl) (by kernel_rfl) ?_
  have em : Int.tmod (n : Int) 2 = ((n % 2 : Nat) : Int) := rfl
  have em2 : (n : Int) - 1 + ((n % 2 : Nat) : Int) = (oddUp n : Nat) := by unfold oddUp; omega
  have hm2 : oddUp n ≤ 13 := by unfold oddUp; omega
  have hm3 : n = oddUp n ∨ n = oddUp n + 1 := by unfold oddUp; omega
  try simp (disch := first | omega | (simp only [ints_length, List.length_replicate, cround_length, cmid_length, cset_length]; done) | (simp only [ints_length, List.length_replicate, cround_length, cmid_length, cset_length]; omega)) only [Sall,evalOp,init,binE,binI,unE,convE,okNil,builtE,gv,TD.isAgg,resV,↓reduceIte,Nat.reduceEqDiff,reduceCtorEq,Nat.reduceAdd,Nat.reduceMul,Nat.reduceLeDiff,quietOp,blindOp,Int.reduceEq,Int.reduceLT,Int.reduceLE,Nat.reduceLT,ti2,ti3,ti4,ti45,ti46,ti38,ti25,ti30,ti22,ti32,ti24,ti95,ti172,ti169,ti165,ti166,ti65,ti143,ti87, em, w64, em2, zeros_zero]
  refine awp_loop (fun m t H' => ∃ (r : Nat) (u : Value) (lo hi : Nat), m = oddUp n - r ∧ r ≤ oddUp n ∧ t 5 = .int .i64 r ∧ t 3 = .int .i64 (oddUp n) ∧ t 0 = .int .i64 n ∧ t 2 = .pointer (some ⟨H.next, 0, none⟩) ∧ t 4 = .pointer (some ⟨H.next + 2, 0, none⟩) ∧
    Up H.next H H' ∧ H'.row H.next = some ⟨32, true, [.int .i64 0, .slice none 0 0]⟩ ∧ H'.row (H.next + 2) = some ⟨32, true, [.int .i64 n, u]⟩ ∧ Fr 14 46 lo hi H' u r (circleL n r) ∧ H.next < lo ∧ hi ≤ H'.next ∧ (hi ≤ H.next + 2 ∨ H.next + 2 < lo) ∧ H.next + 3 ≤ H'.next) (oddUp n) ?_ ?_
  · refine ⟨0, .slice (some ⟨H.next + 1, 0, some 14⟩) 0 0, H.next + 1, H.next + 2, by omega, by omega, ?_⟩
    try simp (disch := first | omega | (simp only [ints_length, List.length_replicate, cround_length, cmid_length, cset_length]; done) | (simp only [ints_length, List.length_replicate, cround_length, cmid_length, cset_length]; omega)) only [Sall,evalOp,init,binE,binI,unE,convE,okNil,builtE,gv,TD.isAgg,resV,↓reduceIte,Nat.reduceEqDiff,reduceCtorEq,Nat.reduceAdd,Nat.reduceMul,Nat.reduceLeDiff,quietOp,blindOp,Int.reduceEq,Int.reduceLT,Int.reduceLE,Nat.reduceLT,ti2,ti3,ti4,ti45,ti46,ti38,ti25,ti30,ti22,ti32,ti24,ti95,ti172,ti169,ti165,ti166,ti65,ti143,ti87, Int.natCast_zero]
    exact ⟨((((Up.refl _ H).push (by omega) _).push (Nat.le_succ _) _).push (Nat.le_succ_of_le (Nat.le_succ _)) _).set (by omega) _, ⟨by simp [circleL], .inr ⟨H.next + 1, by omega, by omega, rfl, by simp [AH.push_row, AH.setCells_row, AH.push_next, circleL, ints]⟩⟩, by omega, by omega⟩
  · rintro m t H' ⟨r, u, lo, hi, hm, hr, h5, h3, h0, h2, h4, hup, hr0, hr1, hfr, hlo, hhi, hx, hnx⟩
    try simp (disch := first | omega | (simp only [ints_length, List.length_replicate, cround_length, cmid_length, cset_length]; done) | (simp only [ints_length, List.length_replicate, cround_length, cmid_length, cset_length]; omega)) only [Sall,evalOp,init,binE,binI,unE,convE,okNil,builtE,gv,TD.isAgg,resV,↓reduceIte,Nat.reduceEqDiff,reduceCtorEq,Nat.reduceAdd,Nat.reduceMul,Nat.reduceLeDiff,quietOp,blindOp,Int.reduceEq,Int.reduceLT,Int.reduceLE,Nat.reduceLT,ti2,ti3,ti4,ti45,ti46,ti38,ti25,ti30,ti22,ti32,ti24,ti95,ti172,ti169,ti165,ti166,ti65,ti143,ti87, h5, h3]
    refine condC_dec (fun h => ?_) (fun h => ?_)
    · try simp (disch := first | omega | (simp only [ints_length, List.length_replicate, cround_length, cmid_length, cset_length]; done) | (simp only [ints_length, List.length_replicate, cround_length, cmid_length, cset_length]; omega)) only [Sall,evalOp,init,binE,binI,unE,convE,okNil,builtE,gv,TD.isAgg,resV,↓reduceIte,Nat.reduceEqDiff,reduceCtorEq,Nat.reduceAdd,Nat.reduceMul,Nat.reduceLeDiff,quietOp,blindOp,Int.reduceEq,Int.reduceLT,Int.reduceLE,Nat.reduceLT,ti2,ti3,ti4,ti45,ti46,ti38,ti25,ti30,ti22,ti32,ti24,ti95,ti172,ti169,ti165,ti166,ti65,ti143,ti87, h5, h3, h0, h4, h2]
      refine (freeS_c n (by omega) H').to ?_
      try simp (disch := first | omega | (simp only [ints_length, List.length_replicate, cround_length, cmid_length, cset_length]; done) | (simp only [ints_length, List.length_replicate, cround_length, cmid_length, cset_length]; omega)) only [Sall,evalOp,init,binE,binI,unE,convE,okNil,builtE,gv,TD.isAgg,resV,↓reduceIte,Nat.reduceEqDiff,reduceCtorEq,Nat.reduceAdd,Nat.reduceMul,Nat.reduceLeDiff,quietOp,blindOp,Int.reduceEq,Int.reduceLT,Int.reduceLE,Nat.reduceLT,ti2,ti3,ti4,ti45,ti46,ti38,ti25,ti30,ti22,ti32,ti24,ti95,ti172,ti169,ti165,ti166,ti65,ti143,ti87, h5, h3, h0, h4, h2, freeL_length]
      refine awp_loop (fun m' t H'' => ∃ k : Nat, m' = oddUp n - k ∧ k ≤ oddUp n ∧ t 7 = .int .i64 k ∧ t 5 = .int .i64 r ∧ t 6 = .pointer (some ⟨H'.next, 0, none⟩) ∧ t 3 = .int .i64 (oddUp n) ∧ t 0 = .int .i64 n ∧ t 2 = .pointer (some ⟨H.next, 0, none⟩) ∧ t 4 = .pointer (some ⟨H.next + 2, 0, none⟩) ∧
        Up H'.next H' H'' ∧ H''.next = H'.next + 1 ∧ H''.row H'.next = some ⟨46, true, ints (cset n r k)⟩) (oddUp n) ?_ ?_
      · refine ⟨0, by omega, by omega, ?_⟩
        try simp (disch := first | omega | (simp only [ints_length, List.length_replicate, cround_length, cmid_length, cset_length]; done) | (simp only [ints_length, List.length_replicate, cround_length, cmid_length, cset_length]; omega)) only [Sall,evalOp,init,binE,binI,unE,convE,okNil,builtE,gv,TD.isAgg,resV,↓reduceIte,Nat.reduceEqDiff,reduceCtorEq,Nat.reduceAdd,Nat.reduceMul,Nat.reduceLeDiff,quietOp,blindOp,Int.reduceEq,Int.reduceLT,Int.reduceLE,Nat.reduceLT,ti2,ti3,ti4,ti45,ti46,ti38,ti25,ti30,ti22,ti32,ti24,ti95,ti172,ti169,ti165,ti166,ti65,ti143,ti87, Int.natCast_zero, h5, h3, h0, h4, h2]
        refine ⟨((Up.refl _ H').push (by omega) _).set (by omega) _, ?_⟩
        rw [cset_zero n (by omega) r (by omega)]; rfl
      · rintro m' t H'' ⟨k, hm', hk, h7, h5, h6, h3, h0, h2, h4, hup2, hnx2, hr2⟩
        try simp (disch := first | omega | (simp only [ints_length, List.length_replicate, cround_length, cmid_length, cset_length]; done) | (simp only [ints_length, List.length_replicate, cround_length, cmid_length, cset_length]; omega)) only [Sall,evalOp,init,binE,binI,unE,convE,okNil,builtE,gv,TD.isAgg,resV,↓reduceIte,Nat.reduceEqDiff,reduceCtorEq,Nat.reduceAdd,Nat.reduceMul,Nat.reduceLeDiff,quietOp,blindOp,Int.reduceEq,Int.reduceLT,Int.reduceLE,Nat.reduceLT,ti2,ti3,ti4,ti45,ti46,ti38,ti25,ti30,ti22,ti32,ti24,ti95,ti172,ti169,ti165,ti166,ti65,ti143,ti87, h7, h3]
        refine condC_dec (fun hk' => ?_) (fun hk' => ?_)
        · have hb := cb_range n (by omega) r (by omega) k (by omega)
          have eb : Int.tmod (2 * (r : Int) + (oddUp n : Int) - (k : Int)) (oddUp n : Int) = cb (oddUp n) r k := by unfold cb; rw [show 2 * (r : Int) + (oddUp n : Int) - (k : Int) = 2 * (r : Int) - (k : Int) + (oddUp n : Int) by omega]
          have st := cset_step n (by omega) r (by omega) k (by omega)
          have hl := cset_length n r k
          try simp (disch := first | omega | (simp only [ints_length, List.length_replicate, cround_length, cmid_length, cset_length]; done) | (simp only [ints_length, List.length_replicate, cround_length, cmid_length, cset_length]; omega)) only [Sall,evalOp,init,binE,binI,unE,convE,okNil,builtE,gv,TD.isAgg,resV,↓reduceIte,Nat.reduceEqDiff,reduceCtorEq,Nat.reduceAdd,Nat.reduceMul,Nat.reduceLeDiff,quietOp,blindOp,Int.reduceEq,Int.reduceLT,Int.reduceLE,Nat.reduceLT,ti2,ti3,ti4,ti45,ti46,ti38,ti25,ti30,ti22,ti32,ti24,ti95,ti172,ti169,ti165,ti166,ti65,ti143,ti87, h7, h5, h3, h6, w64, eb, hr2, hl, ints_set, st, h0, h2, h4]
          exact ⟨by omega, ⟨by omega, by omega⟩, by omega, oddUp n - (k + 1), by omega, k + 1, rfl, by omega, by omega, hup2.set (Nat.le_refl _) _, hnx2, rfl⟩
        · have hkm : k = oddUp n := by omega
          subst hkm
          rw [cset_last n (by omega) r (by omega)] at hr2
          try simp (disch := first | omega | (simp only [ints_length, List.length_replicate, cround_length, cmid_length, cset_length]; done) | (simp only [ints_length, List.length_replicate, cround_length, cmid_length, cset_length]; omega)) only [Sall,evalOp,init,binE,binI,unE,convE,okNil,builtE,gv,TD.isAgg,resV,↓reduceIte,Nat.reduceEqDiff,reduceCtorEq,Nat.reduceAdd,Nat.reduceMul,Nat.reduceLeDiff,quietOp,blindOp,Int.reduceEq,Int.reduceLT,Int.reduceLE,Nat.reduceLT,ti2,ti3,ti4,ti45,ti46,ti38,ti25,ti30,ti22,ti32,ti24,ti95,ti172,ti169,ti165,ti166,ti65,ti143,ti87, h0, em]
          have ne1 : ¬ (H.next + 2 = H'.next) := by omega
          have hcl := cround_length n r
          have hml := cmid_length n r (oddUp n)
          have fin : ∀ H3 : AH, Up H'.next H' H3 → H3.next = H'.next + 1 → H3.row H'.next = some ⟨46, true, ints (cround n r)⟩ →
              H3.row (H.next + 2) = some ⟨32, true, [.int .i64 n, u]⟩ ∧ Fr 14 46 lo hi H3 u r (circleL n r) := fun H3 a b c =>
            ⟨by rw [a.row _ (by omega), hr1], hfr.same fun i _ hi => a.row i (by omega)⟩
          by_cases h2n : n % 2 = 0
          · have e0 : (((n % 2 : Nat) : Int) == 0) = true := by rw [h2n]; rfl
            have hm4 : n = oddUp n + 1 := by unfold oddUp; omega
            have ec : ((cmid n r (oddUp n)).set r ((n : Int) - 1)).set ((n : Int) - 1).toNat r = cround n r := by
              unfold cround; rw [if_pos h2n, show ((n : Int) - 1).toNat = n - 1 by omega, List.set_comm _ _ (by omega)]
            have hsl : ((cmid n r (oddUp n)).set r ((n : Int) - 1)).length = 14 := by rw [List.length_set, hml]
            try simp (disch := first | omega | (simp only [ints_length, List.length_replicate, cround_length, cmid_length, cset_length]; done) | (simp only [ints_length, List.length_replicate, cround_length, cmid_length, cset_length]; omega)) only [Sall,evalOp,init,binE,binI,unE,convE,okNil,builtE,gv,TD.isAgg,resV,↓reduceIte,Nat.reduceEqDiff,reduceCtorEq,Nat.reduceAdd,Nat.reduceMul,Nat.reduceLeDiff,quietOp,blindOp,Int.reduceEq,Int.reduceLT,Int.reduceLE,Nat.reduceLT,ti2,ti3,ti4,ti45,ti46,ti38,ti25,ti30,ti22,ti32,ti24,ti95,ti172,ti169,ti165,ti166,ti65,ti143,ti87, e0, h0, h5, h6, w64, hr2, hml, ints_set, hsl, ec, AH.setCells_setCells]
            refine ⟨⟨by omega, by omega⟩, by omega, ⟨by omega, by omega⟩, by omega, ?_⟩
            obtain ⟨g1, gf⟩ := fin (H''.setCells H'.next (ints (cround n r))) (hup2.set (Nat.le_refl _) _) hnx2 (by rw [AH.setCells_row, if_pos rfl, hr2]; rfl)
            have g2 : (H''.setCells H'.next (ints (cround n r))).row H'.next = some ⟨46, true, ints (cround n r)⟩ := by rw [AH.setCells_row, if_pos rfl, hr2]; rfl
            have g3 := hup2.set (Nat.le_refl _) (ints (cround n r))
            have g4 : (H''.setCells H'.next (ints (cround n r))).next = H'.next + 1 := hnx2
            revert g1 gf g2 g3 g4
            generalize H''.setCells H'.next (ints (cround n r)) = H3
            intro g1 gf g2 g3 g4
            try simp (disch := first | omega | (simp only [ints_length, List.length_replicate, cround_length, cmid_length, cset_length]; done) | (simp only [ints_length, List.length_replicate, cround_length, cmid_length, cset_length]; omega)) only [Sall,evalOp,init,binE,binI,unE,convE,okNil,builtE,gv,TD.isAgg,resV,↓reduceIte,Nat.reduceEqDiff,reduceCtorEq,Nat.reduceAdd,Nat.reduceMul,Nat.reduceLeDiff,quietOp,blindOp,Int.reduceEq,Int.reduceLT,Int.reduceLE,Nat.reduceLT,ti2,ti3,ti4,ti45,ti46,ti38,ti25,ti30,ti22,ti32,ti24,ti95,ti172,ti169,ti165,ti166,ti65,ti143,ti87, h4, h6, g1, g2, g4, hcl, slCells, zeros_one, ne_eq, reduceCtorEq]
            have h3f : Fr 14 46 lo hi (H3.push ⟨46, true, ints (cround n r)⟩) u r (circleL n r) := gf.same fun i _ hi => by rw [AH.push_row, if_neg (by omega)]
            refine appE_fr h3f rfl (by omega) (by rw [hcl]) (by omega) (by decide) (by omega) (by rw [AH.push_next]; omega) ?_
            intro v' H4 k1 k2 k3
            rw [AH.push_next] at k1 k2 k3
            have k4 : H4.row (H.next + 2) = some ⟨32, true, [.int .i64 n, u]⟩ := by rw [k2 _ (by omega) (by omega), AH.push_row, if_neg (by omega), g1]
            have k5 := k3.rd.one
            try simp (disch := first | omega | (simp only [ints_length, List.length_replicate, cround_length, cmid_length, cset_length]; done) | (simp only [ints_length, List.length_replicate, cround_length, cmid_length, cset_length]; omega)) only [Sall,evalOp,init,binE,binI,unE,convE,okNil,builtE,gv,TD.isAgg,resV,↓reduceIte,Nat.reduceEqDiff,reduceCtorEq,Nat.reduceAdd,Nat.reduceMul,Nat.reduceLeDiff,quietOp,blindOp,Int.reduceEq,Int.reduceLT,Int.reduceLE,Nat.reduceLT,ti2,ti3,ti4,ti45,ti46,ti38,ti25,ti30,ti22,ti32,ti24,ti95,ti172,ti169,ti165,ti166,ti65,ti143,ti87, h3, h6, h4, h0, h2, h5, k4, k5, w64, List.set_cons_succ, List.set_cons_zero]
            refine ⟨oddUp n - (r + 1), by omega, r + 1, v', H3.next + 1, H3.next + 2, rfl, by omega, by omega, ?_, ?_, rfl, ?_, by omega, by omega, by omega⟩
            · refine Up.set ⟨by omega, fun i hi => ?_⟩ (by omega) _
              rw [k2 i (by omega) (by omega), AH.push_row, if_neg (by omega), g3.row i (by omega), hup.row i hi]
            · rw [k2 _ (by omega) (by omega), AH.push_row, if_neg (by omega), g3.row _ (by omega), hr0]
            · rw [circleL_succ]
              refine k3.same ?_
              intro i hi _
              rw [AH.setCells_row, if_neg (by omega)]
          · have e0 : (((n % 2 : Nat) : Int) == 0) = false := by rw [beq_eq_false_iff_ne]; omega
            try simp (disch := first | omega | (simp only [ints_length, List.length_replicate, cround_length, cmid_length, cset_length]; done) | (simp only [ints_length, List.length_replicate, cround_length, cmid_length, cset_length]; omega)) only [Sall,evalOp,init,binE,binI,unE,convE,okNil,builtE,gv,TD.isAgg,resV,↓reduceIte,Nat.reduceEqDiff,reduceCtorEq,Nat.reduceAdd,Nat.reduceMul,Nat.reduceLeDiff,quietOp,blindOp,Int.reduceEq,Int.reduceLT,Int.reduceLE,Nat.reduceLT,ti2,ti3,ti4,ti45,ti46,ti38,ti25,ti30,ti22,ti32,ti24,ti95,ti172,ti169,ti165,ti166,ti65,ti143,ti87, e0, h0, h5, h6, w64]
            have ec : cmid n r (oddUp n) = cround n r := by
              unfold cround; rw [if_neg h2n]
            rw [ec] at hr2
            obtain ⟨g1, gf⟩ := fin H'' hup2 hnx2 hr2
            have g2 := hr2
            have g3 := hup2
            have g4 := hnx2
            revert g1 gf g2 g3 g4
            generalize H'' = H3
            intro g1 gf g2 g3 g4
            try simp (disch := first | omega | (simp only [ints_length, List.length_replicate, cround_length, cmid_length, cset_length]; done) | (simp only [ints_length, List.length_replicate, cround_length, cmid_length, cset_length]; omega)) only [Sall,evalOp,init,binE,binI,unE,convE,okNil,builtE,gv,TD.isAgg,resV,↓reduceIte,Nat.reduceEqDiff,reduceCtorEq,Nat.reduceAdd,Nat.reduceMul,Nat.reduceLeDiff,quietOp,blindOp,Int.reduceEq,Int.reduceLT,Int.reduceLE,Nat.reduceLT,ti2,ti3,ti4,ti45,ti46,ti38,ti25,ti30,ti22,ti32,ti24,ti95,ti172,ti169,ti165,ti166,ti65,ti143,ti87, h4, h6, g1, g2, g4, hcl, slCells, zeros_one, ne_eq, reduceCtorEq]
            have h3f : Fr 14 46 lo hi (H3.push ⟨46, true, ints (cround n r)⟩) u r (circleL n r) := gf.same fun i _ hi => by rw [AH.push_row, if_neg (by omega)]
            refine appE_fr h3f rfl (by omega) (by rw [hcl]) (by omega) (by decide) (by omega) (by rw [AH.push_next]; omega) ?_
            intro v' H4 k1 k2 k3
            rw [AH.push_next] at k1 k2 k3
            have k4 : H4.row (H.next + 2) = some ⟨32, true, [.int .i64 n, u]⟩ := by rw [k2 _ (by omega) (by omega), AH.push_row, if_neg (by omega), g1]
            have k5 := k3.rd.one
            try simp (disch := first | omega | (simp only [ints_length, List.length_replicate, cround_length, cmid_length, cset_length]; done) | (simp only [ints_length, List.length_replicate, cround_length, cmid_length, cset_length]; omega)) only [Sall,evalOp,init,binE,binI,unE,convE,okNil,builtE,gv,TD.isAgg,resV,↓reduceIte,Nat.reduceEqDiff,reduceCtorEq,Nat.reduceAdd,Nat.reduceMul,Nat.reduceLeDiff,quietOp,blindOp,Int.reduceEq,Int.reduceLT,Int.reduceLE,Nat.reduceLT,ti2,ti3,ti4,ti45,ti46,ti38,ti25,ti30,ti22,ti32,ti24,ti95,ti172,ti169,ti165,ti166,ti65,ti143,ti87, h3, h6, h4, h0, h2, h5, k4, k5, w64, List.set_cons_succ, List.set_cons_zero]
            refine ⟨oddUp n - (r + 1), by omega, r + 1, v', H3.next + 1, H3.next + 2, rfl, by omega, by omega, ?_, ?_, rfl, ?_, by omega, by omega, by omega⟩
            · refine Up.set ⟨by omega, fun i hi => ?_⟩ (by omega) _
              rw [k2 i (by omega) (by omega), AH.push_row, if_neg (by omega), g3.row i (by omega), hup.row i hi]
            · rw [k2 _ (by omega) (by omega), AH.push_row, if_neg (by omega), g3.row _ (by omega), hr0]
            · rw [circleL_succ]
              refine k3.same ?_
              intro i hi _
              rw [AH.setCells_row, if_neg (by omega)]
    · have hrm : r = oddUp n := by omega
      have hne : ¬ (H.next + 2 = H.next) := by omega
      try simp (disch := first | omega | (simp only [ints_length, List.length_replicate, cround_length, cmid_length, cset_length]; done) | (simp only [ints_length, List.length_replicate, cround_length, cmid_length, cset_length]; omega)) only [Sall,evalOp,init,binE,binI,unE,convE,okNil,builtE,gv,TD.isAgg,resV,↓reduceIte,Nat.reduceEqDiff,reduceCtorEq,Nat.reduceAdd,Nat.reduceMul,Nat.reduceLeDiff,quietOp,blindOp,Int.reduceEq,Int.reduceLT,Int.reduceLE,Nat.reduceLT,ti2,ti3,ti4,ti45,ti46,ti38,ti25,ti30,ti22,ti32,ti24,ti95,ti172,ti169,ti165,ti166,ti65,ti143,ti87, h4, h2, hr0, hr1]
      refine ⟨u, rfl, hup.set (Nat.le_refl _) _, ?_⟩
      rw [← hrm]
      exact (Fr.wide (hfr.same (H' := H'.setCells H.next [.int .i64 n, u]) fun i hi _ => by rw [AH.setCells_row, if_neg (by omega)]) (by omega) (by rw [AH.setCells_next]; omega))

/-- A fresh desk of two schedules, each in rows of its own. -/
def FrD (q q' : Int) (n n' : Nat) (l l' : List Int) (H : AH) (v : Value) (H' : AH) : Prop := ∃ p : Value × Value × Nat, v = .agg #[.int .i64 q, p.1, .int .i64 q', p.2.1] ∧
  Up H.next H H' ∧ H.next ≤ p.2.2 ∧ p.2.2 ≤ H'.next ∧ Fr 14 46 H.next p.2.2 H' p.1 n l ∧ Fr 14 46 p.2.2 H'.next H' p.2.1 n' l'

end Go.Proofs.Ytgkmdfjjlghecaa.A
end

section
set_option linter.unusedSimpArgs false
set_option linter.unusedVariables false
set_option maxRecDepth 100000
namespace Go.Proofs.Ytgkmdfjjlghecaa.A
open Go Go.Abs Go.RowKit

def szL (left n : Int) : Int := if left - n < 0 then -1 else left - n

theorem szRoundS_c (v : Value) (n : Nat) (l : List Int) (left : Int) (H : AH) (hv : Rd 14 H v n l) (hl : 0 ≤ left ∧ left ≤ 1048576) (hn : n ≤ 9223372036854775807) :
    ACalls Try.prog 81 [v, .int .i64 left] H (is (.int .i64 (szL left n)) H) := by
  refine acalls_of_awp [.tmp 4] Try.func81 (by kernel_rfl) rfl rfl (Nat.le_of_ble_eq_true rfl) (by kernel_rfl) ?_
  by_cases h : left - n < 0
  · try simp (disch := first | omega | (simp only [ints_length, List.length_replicate]; done) | (simp only [ints_length, List.length_replicate]; omega)) only [Sall,evalOp,init,binE,binI,unE,convE,okNil,builtE,gv,TD.isAgg,resV,↓reduceIte,Nat.reduceEqDiff,reduceCtorEq,Nat.reduceAdd,Nat.reduceMul,Nat.reduceLeDiff,quietOp,blindOp,Int.reduceEq,Int.reduceLT,Int.reduceLE,Nat.reduceLT,ti2,ti3,ti4,ti45,ti46,ti38,ti25,ti30,ti22,ti32,ti24,ti95,ti172,ti169,ti165,ti166,ti65,ti143,ti87, builtE, hv.len, w64, h, decide_true, is, szL]
  · try simp (disch := first | omega | (simp only [ints_length, List.length_replicate]; done) | (simp only [ints_length, List.length_replicate]; omega)) only [Sall,evalOp,init,binE,binI,unE,convE,okNil,builtE,gv,TD.isAgg,resV,↓reduceIte,Nat.reduceEqDiff,reduceCtorEq,Nat.reduceAdd,Nat.reduceMul,Nat.reduceLeDiff,quietOp,blindOp,Int.reduceEq,Int.reduceLT,Int.reduceLE,Nat.reduceLT,ti2,ti3,ti4,ti45,ti46,ti38,ti25,ti30,ti22,ti32,ti24,ti95,ti172,ti169,ti165,ti166,ti65,ti143,ti87, builtE, hv.len, w64, h, decide_false, is, szL]

theorem szSchedule_c (q : Int) (v : Value) (n : Nat) (l : List Int) (left : Int) (H : AH) (hv : Rd 14 H v n l) (hl : 0 ≤ left ∧ left ≤ 1048576) (hn : n ≤ 9223372036854775807) :
    ACalls Try.prog 11 [.agg #[.int .i64 q, v], .int .i64 left] H (is (.int .i64 (szL left n)) H) := by
  refine ACalls.wf (by kernel_rfl) fun hs => acalls_up rfl (acalls_of_awp [.tmp 4] Try.func11 (by kernel_rfl) rfl rfl (Nat.le_of_ble_eq_true rfl) (by kernel_rfl) ?_)
  have up : Up H.next H (H.push ⟨24, true, [.int .i64 q, v]⟩) := (Up.refl _ H).push (Nat.le_refl _) _
  try simp (disch := first | omega | (simp only [ints_length, List.length_replicate]; done) | (simp only [ints_length, List.length_replicate]; omega)) only [Sall,evalOp,init,binE,binI,unE,convE,okNil,builtE,gv,TD.isAgg,resV,↓reduceIte,Nat.reduceEqDiff,reduceCtorEq,Nat.reduceAdd,Nat.reduceMul,Nat.reduceLeDiff,quietOp,blindOp,Int.reduceEq,Int.reduceLT,Int.reduceLE,Nat.reduceLT,ti2,ti3,ti4,ti45,ti46,ti38,ti25,ti30,ti22,ti32,ti24,ti95,ti172,ti169,ti165,ti166,ti65,ti143,ti87, true_and]
  refine (szRoundS_c v n l left _ (hv.same (up.le hs).row) hl hn).to ?_
  by_cases h : left - n < 0
  · have e : szL left n = -1 := by unfold szL; rw [if_pos h]
    try simp (disch := first | omega | (simp only [ints_length, List.length_replicate]; done) | (simp only [ints_length, List.length_replicate]; omega)) only [Sall,evalOp,init,binE,binI,unE,convE,okNil,builtE,gv,TD.isAgg,resV,↓reduceIte,Nat.reduceEqDiff,reduceCtorEq,Nat.reduceAdd,Nat.reduceMul,Nat.reduceLeDiff,quietOp,blindOp,Int.reduceEq,Int.reduceLT,Int.reduceLE,Nat.reduceLT,ti2,ti3,ti4,ti45,ti46,ti38,ti25,ti30,ti22,ti32,ti24,ti95,ti172,ti169,ti165,ti166,ti65,ti143,ti87, e, decide_true]
    exact up
  · have e : szL left n = left - n := by unfold szL; rw [if_neg h]
    try simp (disch := first | omega | (simp only [ints_length, List.length_replicate]; done) | (simp only [ints_length, List.length_replicate]; omega)) only [Sall,evalOp,init,binE,binI,unE,convE,okNil,builtE,gv,TD.isAgg,resV,↓reduceIte,Nat.reduceEqDiff,reduceCtorEq,Nat.reduceAdd,Nat.reduceMul,Nat.reduceLeDiff,quietOp,blindOp,Int.reduceEq,Int.reduceLT,Int.reduceLE,Nat.reduceLT,ti2,ti3,ti4,ti45,ti46,ti38,ti25,ti30,ti22,ti32,ti24,ti95,ti172,ti169,ti165,ti166,ti65,ti143,ti87, e, h, decide_false]
    exact up

theorem toRound_c (r : List Int) (hr : r.length = 14) (H : AH) : ACalls Try.prog 158 [.agg (ints r).toArray] H (is (.agg (ints r).toArray) H) := by
  refine acalls_up (flat_ints _) (acalls_of_awp [.cell 2 46] Try.func158 (by kernel_rfl) rfl rfl (Nat.le_of_ble_eq_true rfl) (by kernel_rfl) ?_)
  try simp (disch := first | omega | (simp only [ints_length, List.length_replicate]; done) | (simp only [ints_length, List.length_replicate]; omega)) only [Sall,evalOp,init,binE,binI,unE,convE,okNil,builtE,gv,TD.isAgg,resV,↓reduceIte,Nat.reduceEqDiff,reduceCtorEq,Nat.reduceAdd,Nat.reduceMul,Nat.reduceLeDiff,quietOp,blindOp,Int.reduceEq,Int.reduceLT,Int.reduceLE,Nat.reduceLT,ti2,ti3,ti4,ti45,ti46,ti38,ti25,ti30,ti22,ti32,ti24,ti95,ti172,ti169,ti165,ti166,ti65,ti143,ti87, true_and]
  refine awp_loop (fun m t H' => ∃ a : Nat, m = 14 - a ∧ a ≤ 14 ∧ t 4 = .int .i64 a ∧ t 1 = .pointer (some ⟨H.next, 0, none⟩) ∧ t 2 = .pointer (some ⟨H.next + 1, 0, none⟩) ∧ t 3 = .pointer (some ⟨H.next + 2, 0, none⟩) ∧ Up H.next H H' ∧
    H'.row H.next = some ⟨45, true, ints r⟩ ∧ H'.row (H.next + 1) = some ⟨46, true, ints (List.replicate 14 0)⟩ ∧ H'.row (H.next + 2) = some ⟨46, true, ints (copyL 1 r 14 a)⟩) 14 ?_ ?_
  · refine ⟨0, by omega, by omega, ?_⟩
    try simp (disch := first | omega | (simp only [ints_length, List.length_replicate]; done) | (simp only [ints_length, List.length_replicate]; omega)) only [Sall,evalOp,init,binE,binI,unE,convE,okNil,builtE,gv,TD.isAgg,resV,↓reduceIte,Nat.reduceEqDiff,reduceCtorEq,Nat.reduceAdd,Nat.reduceMul,Nat.reduceLeDiff,quietOp,blindOp,Int.reduceEq,Int.reduceLT,Int.reduceLE,Nat.reduceLT,ti2,ti3,ti4,ti45,ti46,ti38,ti25,ti30,ti22,ti32,ti24,ti95,ti172,ti169,ti165,ti166,ti65,ti143,ti87, Int.natCast_zero]
    refine ⟨((((Up.refl _ H).push (by omega) _).push (Nat.le_succ _) _).push (Nat.le_succ_of_le (Nat.le_succ _)) _), ?_⟩
    rw [copyL_zero]
  · rintro m t H' ⟨a, hm, h14, h4, h1, h2, h3, hup, hr0, hr1, hr2⟩
    try simp (disch := first | omega | (simp only [ints_length, List.length_replicate]; done) | (simp only [ints_length, List.length_replicate]; omega)) only [Sall,evalOp,init,binE,binI,unE,convE,okNil,builtE,gv,TD.isAgg,resV,↓reduceIte,Nat.reduceEqDiff,reduceCtorEq,Nat.reduceAdd,Nat.reduceMul,Nat.reduceLeDiff,quietOp,blindOp,Int.reduceEq,Int.reduceLT,Int.reduceLE,Nat.reduceLT,ti2,ti3,ti4,ti45,ti46,ti38,ti25,ti30,ti22,ti32,ti24,ti95,ti172,ti169,ti165,ti166,ti65,ti143,ti87, h4]
    refine condC_dec (fun h => ?_) (fun h => ?_)
    · have hl := copyL_length 1 r 14 a (by omega) (by omega)
      have hst := copyL_set r 14 a hr (by omega)
      try simp (disch := first | omega | (simp only [ints_length, List.length_replicate]; done) | (simp only [ints_length, List.length_replicate]; omega)) only [Sall,evalOp,init,binE,binI,unE,convE,okNil,builtE,gv,TD.isAgg,resV,↓reduceIte,Nat.reduceEqDiff,reduceCtorEq,Nat.reduceAdd,Nat.reduceMul,Nat.reduceLeDiff,quietOp,blindOp,Int.reduceEq,Int.reduceLT,Int.reduceLE,Nat.reduceLT,ti2,ti3,ti4,ti45,ti46,ti38,ti25,ti30,ti22,ti32,ti24,ti95,ti172,ti169,ti165,ti166,ti65,ti143,ti87, h4, h1, h3, hr0, hr1, hr2, ints_get?, ints_set, hl, hst, w64]
      exact ⟨⟨by omega, by omega⟩, ⟨by omega, by omega⟩, by omega, 14 - (a + 1), by omega, a + 1, rfl, by omega, by omega, h2, hup.set (by omega) _, rfl⟩
    · have ha : a = 14 := by omega
      subst ha
      rw [copyL_all 1 r 14 (by omega)] at hr2
      try simp (disch := first | omega | (simp only [ints_length, List.length_replicate]; done) | (simp only [ints_length, List.length_replicate]; omega)) only [Sall,evalOp,init,binE,binI,unE,convE,okNil,builtE,gv,TD.isAgg,resV,↓reduceIte,Nat.reduceEqDiff,reduceCtorEq,Nat.reduceAdd,Nat.reduceMul,Nat.reduceLeDiff,quietOp,blindOp,Int.reduceEq,Int.reduceLT,Int.reduceLE,Nat.reduceLT,ti2,ti3,ti4,ti45,ti46,ti38,ti25,ti30,ti22,ti32,ti24,ti95,ti172,ti169,ti165,ti166,ti65,ti143,ti87, h4, h2, h3, hr0, hr1, hr2, hr]
      exact hup.set (by omega) _

theorem toRoundS_c (v : Value) (n : Nat) (l : List Int) (H : AH) (hv : Rd 14 H v n l) (hn : n ≤ 4194304) :
    ACalls Try.prog 85 [v] H (fun u H' => Up H.next H H' ∧ Fr 14 46 H.next H'.next H' u n l) := by
  refine ACalls.wf (by kernel_rfl) fun hs => acalls_of_awp [.tmp 2] Try.func85 (by kernel_rfl) rfl rfl (Nat.le_of_ble_eq_true rfl) (by kernel_rfl) ?_
  have up : ∀ cs, Up H.next H (H.push ⟨46, true, cs⟩) := fun cs => (Up.refl _ H).push (Nat.le_refl _) _
  have hv1 : ∀ cs, Rd 14 (H.push ⟨46, true, cs⟩) v n l := fun cs => hv.same ((up cs).le hs).row
  try simp (disch := first | omega | (simp only [ints_length, List.length_replicate]; done) | (simp only [ints_length, List.length_replicate]; omega)) only [Sall,evalOp,init,binE,binI,unE,convE,okNil,builtE,gv,TD.isAgg,resV,↓reduceIte,Nat.reduceEqDiff,reduceCtorEq,Nat.reduceAdd,Nat.reduceMul,Nat.reduceLeDiff,quietOp,blindOp,Int.reduceEq,Int.reduceLT,Int.reduceLE,Nat.reduceLT,ti2,ti3,ti4,ti45,ti46,ti38,ti25,ti30,ti22,ti32,ti24,ti95,ti172,ti169,ti165,ti166,ti65,ti143,ti87, builtE, hv.len, zeros_ints]
  refine ⟨by omega, ?_⟩
  refine awp_loop (fun m t H' => ∃ a : Nat, m = n - a ∧ a ≤ n ∧ t 4 = .int .i64 a ∧ t 0 = v ∧ t 3 = .slice (some ⟨H.next, 0, some 14⟩) n n ∧ H' = H.push ⟨46, true, ints (copyL 14 l n a)⟩) n ?_ ?_
  · refine ⟨0, by omega, by omega, ?_⟩
    try simp (disch := first | omega | (simp only [ints_length, List.length_replicate]; done) | (simp only [ints_length, List.length_replicate]; omega)) only [Sall,evalOp,init,binE,binI,unE,convE,okNil,builtE,gv,TD.isAgg,resV,↓reduceIte,Nat.reduceEqDiff,reduceCtorEq,Nat.reduceAdd,Nat.reduceMul,Nat.reduceLeDiff,quietOp,blindOp,Int.reduceEq,Int.reduceLT,Int.reduceLE,Nat.reduceLT,ti2,ti3,ti4,ti45,ti46,ti38,ti25,ti30,ti22,ti32,ti24,ti95,ti172,ti169,ti165,ti166,ti65,ti143,ti87, Int.natCast_zero, copyL_zero]
  · rintro m t H' ⟨a, hm, h14, h4, h0, h3, rfl⟩
    try simp (disch := first | omega | (simp only [ints_length, List.length_replicate]; done) | (simp only [ints_length, List.length_replicate]; omega)) only [Sall,evalOp,init,binE,binI,unE,convE,okNil,builtE,gv,TD.isAgg,resV,↓reduceIte,Nat.reduceEqDiff,reduceCtorEq,Nat.reduceAdd,Nat.reduceMul,Nat.reduceLeDiff,quietOp,blindOp,Int.reduceEq,Int.reduceLT,Int.reduceLE,Nat.reduceLT,ti2,ti3,ti4,ti45,ti46,ti38,ti25,ti30,ti22,ti32,ti24,ti95,ti172,ti169,ti165,ti166,ti65,ti143,ti87, h4, h0, builtE, hv.len]
    refine condC_dec (fun h => ?_) (fun h => ?_)
    · have hst := copyL_step 14 l n a hv.1 (by omega)
      have hcl := copyL_length 14 l n a hv.1 (by omega)
      obtain ⟨i, o, u, c, r, rfl, hr, hc, hs1, hg⟩ := hv.get (by omega)
      have hne : ¬ i = H.next := by have := hs _ _ hr; omega
      try simp (disch := first | omega | (simp only [ints_length, List.length_replicate]; done) | (simp only [ints_length, List.length_replicate]; omega)) only [Sall,evalOp,init,binE,binI,unE,convE,okNil,builtE,gv,TD.isAgg,resV,↓reduceIte,Nat.reduceEqDiff,reduceCtorEq,Nat.reduceAdd,Nat.reduceMul,Nat.reduceLeDiff,quietOp,blindOp,Int.reduceEq,Int.reduceLT,Int.reduceLE,Nat.reduceLT,ti2,ti3,ti4,ti45,ti46,ti38,ti25,ti30,ti22,ti32,ti24,ti95,ti172,ti169,ti165,ti166,ti65,ti143,ti87, h4, h0, h3, hr, hne, hg]
      have hll : ((l.drop (a * 14)).take 14).length = 14 := by rw [List.length_take, List.length_drop, hv.1]; omega
      refine ⟨⟨by omega, by omega⟩, by omega, (toRound_c _ hll _).to ?_⟩
      try simp (disch := first | omega | (simp only [ints_length, List.length_replicate]; done) | (simp only [ints_length, List.length_replicate]; omega)) only [Sall,evalOp,init,binE,binI,unE,convE,okNil,builtE,gv,TD.isAgg,resV,↓reduceIte,Nat.reduceEqDiff,reduceCtorEq,Nat.reduceAdd,Nat.reduceMul,Nat.reduceLeDiff,quietOp,blindOp,Int.reduceEq,Int.reduceLT,Int.reduceLE,Nat.reduceLT,ti2,ti3,ti4,ti45,ti46,ti38,ti25,ti30,ti22,ti32,ti24,ti95,ti172,ti169,ti165,ti166,ti65,ti143,ti87, h4, h0, h3, hll, hcl, hst, push_setCells, w64]
      refine ⟨⟨by omega, by omega⟩, by omega, n - (a + 1), by omega, a + 1, ?_⟩
      and_intros <;> first | omega | rfl | assumption
    · have ha : a = n := by omega
      subst ha
      try simp (disch := first | omega | (simp only [ints_length, List.length_replicate]; done) | (simp only [ints_length, List.length_replicate]; omega)) only [Sall,evalOp,init,binE,binI,unE,convE,okNil,builtE,gv,TD.isAgg,resV,↓reduceIte,Nat.reduceEqDiff,reduceCtorEq,Nat.reduceAdd,Nat.reduceMul,Nat.reduceLeDiff,quietOp,blindOp,Int.reduceEq,Int.reduceLT,Int.reduceLE,Nat.reduceLT,ti2,ti3,ti4,ti45,ti46,ti38,ti25,ti30,ti22,ti32,ti24,ti95,ti172,ti169,ti165,ti166,ti65,ti143,ti87, h3]
      rw [copyL_all 14 l a hv.1]
      exact ⟨up _, hv.1, .inr ⟨H.next, Nat.le_refl _, Nat.lt_succ_self _, rfl, by rw [AH.push_row, if_pos rfl]⟩⟩

/-- A result that is a value known but for a part: told as there is one. -/
theorem toSchedule_c (q : Int) (v : Value) (n : Nat) (l : List Int) (H : AH) (hv : Rd 14 H v n l) (hn : n ≤ 4194304) :
    ACalls Try.prog 14 [.agg #[.int .i64 q, v]] H (FrS q n l H) := by
  refine ACalls.wf (by kernel_rfl) fun hs => acalls_of_awp [.cell 2 32] Try.func14 (by kernel_rfl) rfl rfl (Nat.le_of_ble_eq_true rfl) (by kernel_rfl) ?_
  have k0 := hv.one
  try simp (disch := first | omega | (simp only [ints_length, List.length_replicate]; done) | (simp only [ints_length, List.length_replicate]; omega)) only [Sall,evalOp,init,binE,binI,unE,convE,okNil,builtE,gv,TD.isAgg,resV,↓reduceIte,Nat.reduceEqDiff,reduceCtorEq,Nat.reduceAdd,Nat.reduceMul,Nat.reduceLeDiff,quietOp,blindOp,Int.reduceEq,Int.reduceLT,Int.reduceLE,Nat.reduceLT,ti2,ti3,ti4,ti45,ti46,ti38,ti25,ti30,ti22,ti32,ti24,ti95,ti172,ti169,ti165,ti166,ti65,ti143,ti87, k0]
  obtain ⟨H1, e1⟩ : ∃ H1, H1 = (((H.push ⟨24, true, [.int .i64 q, v]⟩).push ⟨32, true, [.int .i64 0, .slice none 0 0]⟩).push ⟨32, true, [.int .i64 0, .slice none 0 0]⟩).setCells (H.next + 2) [.int .i64 q, .slice none 0 0] := ⟨_, rfl⟩
  have up : Up H.next H H1 := by rw [e1]; exact ((((Up.refl _ H).push (by omega) _).push (Nat.le_succ _) _).push (Nat.le_succ_of_le (Nat.le_succ _)) _).set (by omega) _
  have n1 : H1.next = H.next + 3 := by rw [e1]; rfl
  have a0 : H1.row (H.next + 1) = some ⟨32, true, [.int .i64 0, .slice none 0 0]⟩ := by rw [e1]; simp [AH.setCells_row, AH.push_row, AH.push_next]
  have a1 : H1.row (H.next + 2) = some ⟨32, true, [.int .i64 q, .slice none 0 0]⟩ := by rw [e1]; simp [AH.setCells_row, AH.push_row, AH.push_next]
  rw [← e1]
  clear e1
  refine (toRoundS_c v n l H1 (hv.same (up.le hs).row) hn).mono ?_
  rintro u H2 ⟨up2, hfr⟩
  have b0 : H2.row (H.next + 1) = some ⟨32, true, [.int .i64 0, .slice none 0 0]⟩ := by rw [up2.row _ (by omega), a0]
  have b1 : H2.row (H.next + 2) = some ⟨32, true, [.int .i64 q, .slice none 0 0]⟩ := by rw [up2.row _ (by omega), a1]
  have k1 := hfr.rd.one
  have n2 := up2.next
  have ne1 : ¬ (H.next + 1 = H.next + 2) := by omega
  refine Holds.mp ?_
  try simp (disch := first | omega | (simp only [ints_length, List.length_replicate]; done) | (simp only [ints_length, List.length_replicate]; omega)) only [Sall,evalOp,init,binE,binI,unE,convE,okNil,builtE,gv,TD.isAgg,resV,↓reduceIte,Nat.reduceEqDiff,reduceCtorEq,Nat.reduceAdd,Nat.reduceMul,Nat.reduceLeDiff,quietOp,blindOp,Int.reduceEq,Int.reduceLT,Int.reduceLE,Nat.reduceLT,ti2,ti3,ti4,ti45,ti46,ti38,ti25,ti30,ti22,ti32,ti24,ti95,ti172,ti169,ti165,ti166,ti65,ti143,ti87, b0, b1, k1, ne1]
  refine ⟨u, rfl, ⟨by simp only [AH.setCells_next]; omega, fun i hi => ?_⟩, ?_⟩
  · rw [AH.setCells_row, if_neg (by omega), AH.setCells_row, if_neg (by omega), up2.row i (by omega), up.row i hi]
  · refine (Fr.same (Fr.wide hfr (lo' := H1.next) (hi' := H2.next) (by omega) (by omega)) ?_).wide (by omega) (by simp only [AH.setCells_next]; omega)
    intro i hi _
    rw [AH.setCells_row, if_neg (by omega), AH.setCells_row, if_neg (by omega)]

end Go.Proofs.Ytgkmdfjjlghecaa.A
end

section
set_option linter.unusedSimpArgs false
set_option linter.unusedVariables false
set_option maxRecDepth 100000
namespace Go.Proofs.Ytgkmdfjjlghecaa.A
open Go Go.Abs Go.RowKit

theorem eqInt64S_c (va vb : Value) (n m : Nat) (l : List Int) (hn : n ≤ 4294967296) (H : AH) (ha : Rd 1 H va n l) (hb : Rd 1 H vb m l) : ACalls Try.prog 21 [va, vb] H (is (.bool true) H) := by
  have hmn : m = n := by rw [ha.lenK1, hb.lenK1]
  subst hmn
  refine acalls_up rfl (acalls_of_awp [.tmp 4] Try.func21 (by kernel_rfl) rfl rfl (Nat.le_of_ble_eq_true rfl) (by kernel_rfl) ?_)
  try simp (disch := first | omega | (simp only [ints_length, List.length_replicate]; done) | (simp only [ints_length, List.length_replicate]; omega)) only [Sall,evalOp,init,binE,binI,unE,convE,okNil,builtE,gv,TD.isAgg,resV,↓reduceIte,Nat.reduceEqDiff,reduceCtorEq,Nat.reduceAdd,Nat.reduceMul,Nat.reduceLeDiff,quietOp,blindOp,Int.reduceEq,Int.reduceLT,Int.reduceLE,Nat.reduceLT,ti2,ti3,ti4,ti45,ti46,ti38,ti25,ti30,ti22,ti32,ti24,ti95,ti172,ti169,ti165,ti166,ti65,ti143,ti87, builtE, ha.len, hb.len, bne_self_eq_false]
  refine awp_loop (fun x t H' => ∃ a : Nat, x = m - a ∧ a ≤ m ∧ t 5 = .int .i64 a ∧ t 0 = va ∧ t 1 = vb ∧ H' = H) m ?_ ?_
  · refine ⟨0, by omega, by omega, ?_⟩
    try simp (disch := first | omega | (simp only [ints_length, List.length_replicate]; done) | (simp only [ints_length, List.length_replicate]; omega)) only [Sall,evalOp,init,binE,binI,unE,convE,okNil,builtE,gv,TD.isAgg,resV,↓reduceIte,Nat.reduceEqDiff,reduceCtorEq,Nat.reduceAdd,Nat.reduceMul,Nat.reduceLeDiff,quietOp,blindOp,Int.reduceEq,Int.reduceLT,Int.reduceLE,Nat.reduceLT,ti2,ti3,ti4,ti45,ti46,ti38,ti25,ti30,ti22,ti32,ti24,ti95,ti172,ti169,ti165,ti166,ti65,ti143,ti87, Int.natCast_zero]
  · rintro x t H' ⟨a, hm, h14, h5, h2, h3, rfl⟩
    try simp (disch := first | omega | (simp only [ints_length, List.length_replicate]; done) | (simp only [ints_length, List.length_replicate]; omega)) only [Sall,evalOp,init,binE,binI,unE,convE,okNil,builtE,gv,TD.isAgg,resV,↓reduceIte,Nat.reduceEqDiff,reduceCtorEq,Nat.reduceAdd,Nat.reduceMul,Nat.reduceLeDiff,quietOp,blindOp,Int.reduceEq,Int.reduceLT,Int.reduceLE,Nat.reduceLT,ti2,ti3,ti4,ti45,ti46,ti38,ti25,ti30,ti22,ti32,ti24,ti95,ti172,ti169,ti165,ti166,ti65,ti143,ti87, h5, h2, builtE, ha.len]
    refine condC_dec (fun h => ?_) (fun h => ?_)
    · obtain ⟨i, o, u, c, r, rfl, hr, hc, hs, hg⟩ := ha.get (by omega)
      obtain ⟨i', o', u', c', r', rfl, hr', hc', hs', hg'⟩ := hb.get (by omega)
      refine draw_id (by kernel_rfl) (by kernel_rfl) ?_
      try simp (disch := first | omega | (simp only [ints_length, List.length_replicate]; done) | (simp only [ints_length, List.length_replicate]; omega)) only [Sall,evalOp,init,binE,binI,unE,convE,okNil,builtE,gv,TD.isAgg,resV,↓reduceIte,Nat.reduceEqDiff,reduceCtorEq,Nat.reduceAdd,Nat.reduceMul,Nat.reduceLeDiff,quietOp,blindOp,Int.reduceEq,Int.reduceLT,Int.reduceLE,Nat.reduceLT,ti2,ti3,ti4,ti45,ti46,ti38,ti25,ti30,ti22,ti32,ti24,ti95,ti172,ti169,ti165,ti166,ti65,ti143,ti87, h5, h2, h3, hr, hr', hs, hs', bne_self_eq_false, w64]
      refine ⟨⟨by omega, by omega⟩, ⟨by omega, by omega⟩, m - (a + 1), by omega, a + 1, ?_⟩
      and_intros <;> first | omega | rfl | assumption
    · try simp (disch := first | omega | (simp only [ints_length, List.length_replicate]; done) | (simp only [ints_length, List.length_replicate]; omega)) only [Sall,evalOp,init,binE,binI,unE,convE,okNil,builtE,gv,TD.isAgg,resV,↓reduceIte,Nat.reduceEqDiff,reduceCtorEq,Nat.reduceAdd,Nat.reduceMul,Nat.reduceLeDiff,quietOp,blindOp,Int.reduceEq,Int.reduceLT,Int.reduceLE,Nat.reduceLT,ti2,ti3,ti4,ti45,ti46,ti38,ti25,ti30,ti22,ti32,ti24,ti95,ti172,ti169,ti165,ti166,ti65,ti143,ti87, true_and]
      exact Up.refl _ _

theorem eqInt64SS_c (va vb : Value) (ll : List (List Int)) (hn : ll.length ≤ 4294967296) (hn2 : ∀ l ∈ ll, l.length ≤ 4294967296) (H : AH) (ha : Rd2 1 H va ll) (hb : Rd2 1 H vb ll) : ACalls Try.prog 18 [va, vb] H (is (.bool true) H) := by
  refine acalls_up rfl (acalls_of_awp [.tmp 4] Try.func18 (by kernel_rfl) rfl rfl (Nat.le_of_ble_eq_true rfl) (by kernel_rfl) ?_)
  try simp (disch := first | omega | (simp only [ints_length, List.length_replicate]; done) | (simp only [ints_length, List.length_replicate]; omega)) only [Sall,evalOp,init,binE,binI,unE,convE,okNil,builtE,gv,TD.isAgg,resV,↓reduceIte,Nat.reduceEqDiff,reduceCtorEq,Nat.reduceAdd,Nat.reduceMul,Nat.reduceLeDiff,quietOp,blindOp,Int.reduceEq,Int.reduceLT,Int.reduceLE,Nat.reduceLT,ti2,ti3,ti4,ti45,ti46,ti38,ti25,ti30,ti22,ti32,ti24,ti95,ti172,ti169,ti165,ti166,ti65,ti143,ti87, builtE, ha.len, hb.len, bne_self_eq_false]
  refine awp_loop (fun x t H' => ∃ a : Nat, x = ll.length - a ∧ a ≤ ll.length ∧ t 5 = .int .i64 a ∧ t 0 = va ∧ t 1 = vb ∧ H' = H) ll.length ?_ ?_
  · refine ⟨0, by omega, by omega, ?_⟩
    try simp (disch := first | omega | (simp only [ints_length, List.length_replicate]; done) | (simp only [ints_length, List.length_replicate]; omega)) only [Sall,evalOp,init,binE,binI,unE,convE,okNil,builtE,gv,TD.isAgg,resV,↓reduceIte,Nat.reduceEqDiff,reduceCtorEq,Nat.reduceAdd,Nat.reduceMul,Nat.reduceLeDiff,quietOp,blindOp,Int.reduceEq,Int.reduceLT,Int.reduceLE,Nat.reduceLT,ti2,ti3,ti4,ti45,ti46,ti38,ti25,ti30,ti22,ti32,ti24,ti95,ti172,ti169,ti165,ti166,ti65,ti143,ti87, Int.natCast_zero]
  · rintro x t H' ⟨a, hm, h14, h5, h2, h3, rfl⟩
    try simp (disch := first | omega | (simp only [ints_length, List.length_replicate]; done) | (simp only [ints_length, List.length_replicate]; omega)) only [Sall,evalOp,init,binE,binI,unE,convE,okNil,builtE,gv,TD.isAgg,resV,↓reduceIte,Nat.reduceEqDiff,reduceCtorEq,Nat.reduceAdd,Nat.reduceMul,Nat.reduceLeDiff,quietOp,blindOp,Int.reduceEq,Int.reduceLT,Int.reduceLE,Nat.reduceLT,ti2,ti3,ti4,ti45,ti46,ti38,ti25,ti30,ti22,ti32,ti24,ti95,ti172,ti169,ti165,ti166,ti65,ti143,ti87, h5, h2, builtE, ha.len]
    refine condC_dec (fun h => ?_) (fun h => ?_)
    · obtain ⟨i, o, u, c, r, y, m, rfl, hr, hy, hs, hk⟩ := ha.get (j := a) (by omega)
      obtain ⟨i', o', u', c', r', y', m', rfl, hr', hy', hs', hk'⟩ := hb.get (j := a) (by omega)
      refine draw_id (by kernel_rfl) (by kernel_rfl) ?_
      have hmem : ll.getD a [] ∈ ll := by rw [List.getD_eq_getElem?_getD, List.getElem?_eq_getElem (by omega)]; exact List.getElem_mem _
      have hml := hn2 _ hmem
      try simp (disch := first | omega | (simp only [ints_length, List.length_replicate]; done) | (simp only [ints_length, List.length_replicate]; omega)) only [Sall,evalOp,init,binE,binI,unE,convE,okNil,builtE,gv,TD.isAgg,resV,↓reduceIte,Nat.reduceEqDiff,reduceCtorEq,Nat.reduceAdd,Nat.reduceMul,Nat.reduceLeDiff,quietOp,blindOp,Int.reduceEq,Int.reduceLT,Int.reduceLE,Nat.reduceLT,ti2,ti3,ti4,ti45,ti46,ti38,ti25,ti30,ti22,ti32,ti24,ti95,ti172,ti169,ti165,ti166,ti65,ti143,ti87, h5, h2, h3, hr, hr', hy, hy', hk, hk']
      refine ⟨⟨by omega, by omega⟩, ⟨by omega, by omega⟩, (eqInt64S_c y y' m m' _ (by rw [hs.lenK1]; exact hml) _ hs hs').to ⟨.inr (.inr (LE.refl _)), ?_⟩⟩
      try simp (disch := first | omega | (simp only [ints_length, List.length_replicate]; done) | (simp only [ints_length, List.length_replicate]; omega)) only [Sall,evalOp,init,binE,binI,unE,convE,okNil,builtE,gv,TD.isAgg,resV,↓reduceIte,Nat.reduceEqDiff,reduceCtorEq,Nat.reduceAdd,Nat.reduceMul,Nat.reduceLeDiff,quietOp,blindOp,Int.reduceEq,Int.reduceLT,Int.reduceLE,Nat.reduceLT,ti2,ti3,ti4,ti45,ti46,ti38,ti25,ti30,ti22,ti32,ti24,ti95,ti172,ti169,ti165,ti166,ti65,ti143,ti87, h5, h2, h3, w64]
      refine ⟨ll.length - (a + 1), by omega, a + 1, ?_⟩
      and_intros <;> first | omega | rfl | assumption
    · try simp (disch := first | omega | (simp only [ints_length, List.length_replicate]; done) | (simp only [ints_length, List.length_replicate]; omega)) only [Sall,evalOp,init,binE,binI,unE,convE,okNil,builtE,gv,TD.isAgg,resV,↓reduceIte,Nat.reduceEqDiff,reduceCtorEq,Nat.reduceAdd,Nat.reduceMul,Nat.reduceLeDiff,quietOp,blindOp,Int.reduceEq,Int.reduceLT,Int.reduceLE,Nat.reduceLT,ti2,ti3,ti4,ti45,ti46,ti38,ti25,ti30,ti22,ti32,ti24,ti95,ti172,ti169,ti165,ti166,ti65,ti143,ti87, true_and]
      exact Up.refl _ _

theorem markInt64S_c (ty lo hi : Nat) (v : Value) (n : Nat) (l : List Int) (k0 : Int) (hk : 0 ≤ k0 ∧ k0 ≤ 4294967296) (hn : n ≤ 4294967296) (H : AH) (hv : Fr 1 ty lo hi H v n l) :
    ACalls Try.prog 24 [v, .int .i64 k0] H (fun r H' => r = .int .i64 (k0 + n) ∧ H'.next = H.next ∧ (∀ i, ¬(lo ≤ i ∧ i < hi) → H'.row i = H.row i) ∧ Fr 1 ty lo hi H' v n (seqL k0 n)) := by
  refine acalls_of_awp [.tmp 4] Try.func24 (by kernel_rfl) rfl rfl (Nat.le_of_ble_eq_true rfl) (by kernel_rfl) ?_
  try simp (disch := first | omega | (simp only [ints_length, List.length_replicate]; done) | (simp only [ints_length, List.length_replicate]; omega)) only [Sall,evalOp,init,binE,binI,unE,convE,okNil,builtE,gv,TD.isAgg,resV,↓reduceIte,Nat.reduceEqDiff,reduceCtorEq,Nat.reduceAdd,Nat.reduceMul,Nat.reduceLeDiff,quietOp,blindOp,Int.reduceEq,Int.reduceLT,Int.reduceLE,Nat.reduceLT,ti2,ti3,ti4,ti45,ti46,ti38,ti25,ti30,ti22,ti32,ti24,ti95,ti172,ti169,ti165,ti166,ti65,ti143,ti87, true_and]
  have hl := hv.lenK1
  refine awp_loop (fun m t H' => ∃ a : Nat, m = n - a ∧ a ≤ n ∧ t 5 = .int .i64 a ∧ t 1 = .int .i64 (k0 + a) ∧ t 0 = v ∧ H'.next = H.next ∧ (∀ i, ¬(lo ≤ i ∧ i < hi) → H'.row i = H.row i) ∧ Fr 1 ty lo hi H' v n (markL k0 l a)) n ?_ ?_
  · refine ⟨0, by omega, by omega, ?_⟩
    try simp (disch := first | omega | (simp only [ints_length, List.length_replicate]; done) | (simp only [ints_length, List.length_replicate]; omega)) only [Sall,evalOp,init,binE,binI,unE,convE,okNil,builtE,gv,TD.isAgg,resV,↓reduceIte,Nat.reduceEqDiff,reduceCtorEq,Nat.reduceAdd,Nat.reduceMul,Nat.reduceLeDiff,quietOp,blindOp,Int.reduceEq,Int.reduceLT,Int.reduceLE,Nat.reduceLT,ti2,ti3,ti4,ti45,ti46,ti38,ti25,ti30,ti22,ti32,ti24,ti95,ti172,ti169,ti165,ti166,ti65,ti143,ti87, markL_zero, Int.natCast_zero]
    exact ⟨by omega, hv⟩
  · rintro m t H' ⟨a, hm, h14, h5, h1, h0, hnx, hsm, hfr⟩
    try simp (disch := first | omega | (simp only [ints_length, List.length_replicate]; done) | (simp only [ints_length, List.length_replicate]; omega)) only [Sall,evalOp,init,binE,binI,unE,convE,okNil,builtE,gv,TD.isAgg,resV,↓reduceIte,Nat.reduceEqDiff,reduceCtorEq,Nat.reduceAdd,Nat.reduceMul,Nat.reduceLeDiff,quietOp,blindOp,Int.reduceEq,Int.reduceLT,Int.reduceLE,Nat.reduceLT,ti2,ti3,ti4,ti45,ti46,ti38,ti25,ti30,ti22,ti32,ti24,ti95,ti172,ti169,ti165,ti166,ti65,ti143,ti87, h5, h1, h0, builtE, hfr.rd.len]
    refine condC_dec (fun h => ?_) (fun h => ?_)
    · obtain ⟨i, hi1, hi2, rfl, hr⟩ := hfr.get (by omega)
      have e2 : (markL k0 l a).set a (k0 + (a : Int)) = markL k0 l (a + 1) := markL_set _ _ _ (by omega)
      have e3 : (markL k0 l a).length = n := by rw [markL_length _ _ _ (by omega), hl]
      try simp (disch := first | omega | (simp only [ints_length, List.length_replicate]; done) | (simp only [ints_length, List.length_replicate]; omega)) only [Sall,evalOp,init,binE,binI,unE,convE,okNil,builtE,gv,TD.isAgg,resV,↓reduceIte,Nat.reduceEqDiff,reduceCtorEq,Nat.reduceAdd,Nat.reduceMul,Nat.reduceLeDiff,quietOp,blindOp,Int.reduceEq,Int.reduceLT,Int.reduceLE,Nat.reduceLT,ti2,ti3,ti4,ti45,ti46,ti38,ti25,ti30,ti22,ti32,ti24,ti95,ti172,ti169,ti165,ti166,ti65,ti143,ti87, h5, h1, h0, hr, ints_set, e2, e3, w64]
      refine ⟨⟨by omega, by omega⟩, by omega, n - (a + 1), by omega, a + 1, rfl, by omega, by omega, by omega, hnx, fun x hx => ?_, ?_⟩
      · rw [if_neg (by omega)]; exact hsm x hx
      · exact hfr.set hr hi1 hi2 (by rw [e3, markL_length _ _ _ (by omega), hl])
    · try simp (disch := first | omega | (simp only [ints_length, List.length_replicate]; done) | (simp only [ints_length, List.length_replicate]; omega)) only [Sall,evalOp,init,binE,binI,unE,convE,okNil,builtE,gv,TD.isAgg,resV,↓reduceIte,Nat.reduceEqDiff,reduceCtorEq,Nat.reduceAdd,Nat.reduceMul,Nat.reduceLeDiff,quietOp,blindOp,Int.reduceEq,Int.reduceLT,Int.reduceLE,Nat.reduceLT,ti2,ti3,ti4,ti45,ti46,ti38,ti25,ti30,ti22,ti32,ti24,ti95,ti172,ti169,ti165,ti166,ti65,ti143,ti87, h1]
      have ha : a = n := by omega
      subst ha
      refine ⟨rfl, hnx, hsm, ?_⟩
      rw [hl] at hfr ⊢
      rwa [markL_all] at hfr

theorem heldInt64S_c (v : Value) (n : Nat) (k0 : Int) (hk : 0 ≤ k0 ∧ k0 ≤ 4294967296) (hn : n ≤ 4294967296) (H : AH) (hv : Rd 1 H v n (seqL k0 n)) :
    ACalls Try.prog 25 [v, .int .i64 k0] H (is (.int .i64 (k0 + n)) H) := by
  refine acalls_up rfl (acalls_of_awp [.tmp 4] Try.func25 (by kernel_rfl) rfl rfl (Nat.le_of_ble_eq_true rfl) (by kernel_rfl) ?_)
  try simp (disch := first | omega | (simp only [ints_length, List.length_replicate]; done) | (simp only [ints_length, List.length_replicate]; omega)) only [Sall,evalOp,init,binE,binI,unE,convE,okNil,builtE,gv,TD.isAgg,resV,↓reduceIte,Nat.reduceEqDiff,reduceCtorEq,Nat.reduceAdd,Nat.reduceMul,Nat.reduceLeDiff,quietOp,blindOp,Int.reduceEq,Int.reduceLT,Int.reduceLE,Nat.reduceLT,ti2,ti3,ti4,ti45,ti46,ti38,ti25,ti30,ti22,ti32,ti24,ti95,ti172,ti169,ti165,ti166,ti65,ti143,ti87, true_and]
  refine awp_loop (fun m t H' => ∃ a : Nat, m = n - a ∧ a ≤ n ∧ t 5 = .int .i64 a ∧ t 1 = .int .i64 (k0 + a) ∧ t 0 = v ∧ H' = H) n ?_ ?_
  · refine ⟨0, by omega, by omega, ?_⟩
    try simp (disch := first | omega | (simp only [ints_length, List.length_replicate]; done) | (simp only [ints_length, List.length_replicate]; omega)) only [Sall,evalOp,init,binE,binI,unE,convE,okNil,builtE,gv,TD.isAgg,resV,↓reduceIte,Nat.reduceEqDiff,reduceCtorEq,Nat.reduceAdd,Nat.reduceMul,Nat.reduceLeDiff,quietOp,blindOp,Int.reduceEq,Int.reduceLT,Int.reduceLE,Nat.reduceLT,ti2,ti3,ti4,ti45,ti46,ti38,ti25,ti30,ti22,ti32,ti24,ti95,ti172,ti169,ti165,ti166,ti65,ti143,ti87, Int.natCast_zero]
    omega
  · rintro m t H' ⟨a, hm, h14, h5, h1, h0, rfl⟩
    try simp (disch := first | omega | (simp only [ints_length, List.length_replicate]; done) | (simp only [ints_length, List.length_replicate]; omega)) only [Sall,evalOp,init,binE,binI,unE,convE,okNil,builtE,gv,TD.isAgg,resV,↓reduceIte,Nat.reduceEqDiff,reduceCtorEq,Nat.reduceAdd,Nat.reduceMul,Nat.reduceLeDiff,quietOp,blindOp,Int.reduceEq,Int.reduceLT,Int.reduceLE,Nat.reduceLT,ti2,ti3,ti4,ti45,ti46,ti38,ti25,ti30,ti22,ti32,ti24,ti95,ti172,ti169,ti165,ti166,ti65,ti143,ti87, h5, h1, h0, builtE, hv.len]
    refine condC_dec (fun h => ?_) (fun h => ?_)
    · obtain ⟨i, o, u, c, r, rfl, hr, hc, hs, _⟩ := hv.get (by omega)
      have e1 := hs a (by omega)
      rw [seqL_getD _ _ _ (by omega)] at e1
      try simp (disch := first | omega | (simp only [ints_length, List.length_replicate]; done) | (simp only [ints_length, List.length_replicate]; omega)) only [Sall,evalOp,init,binE,binI,unE,convE,okNil,builtE,gv,TD.isAgg,resV,↓reduceIte,Nat.reduceEqDiff,reduceCtorEq,Nat.reduceAdd,Nat.reduceMul,Nat.reduceLeDiff,quietOp,blindOp,Int.reduceEq,Int.reduceLT,Int.reduceLE,Nat.reduceLT,ti2,ti3,ti4,ti45,ti46,ti38,ti25,ti30,ti22,ti32,ti24,ti95,ti172,ti169,ti165,ti166,ti65,ti143,ti87, h5, h1, h0, hr, e1, bne_self_eq_false, w64]
      refine ⟨⟨by omega, by omega⟩, n - (a + 1), by omega, a + 1, ?_⟩
      and_intros <;> first | omega | rfl | assumption
    · try simp (disch := first | omega | (simp only [ints_length, List.length_replicate]; done) | (simp only [ints_length, List.length_replicate]; omega)) only [Sall,evalOp,init,binE,binI,unE,convE,okNil,builtE,gv,TD.isAgg,resV,↓reduceIte,Nat.reduceEqDiff,reduceCtorEq,Nat.reduceAdd,Nat.reduceMul,Nat.reduceLeDiff,quietOp,blindOp,Int.reduceEq,Int.reduceLT,Int.reduceLE,Nat.reduceLT,ti2,ti3,ti4,ti45,ti46,ti38,ti25,ti30,ti22,ti32,ti24,ti95,ti172,ti169,ti165,ti166,ti65,ti143,ti87, h1]
      refine ⟨by omega, Up.refl _ _⟩

theorem szInt64S_c (v : Value) (n : Nat) (l : List Int) (left : Int) (H : AH) (hv : Rd 1 H v n l) (hl : 0 ≤ left ∧ left ≤ 1048576) (hn : n ≤ 9223372036854775807) :
    ACalls Try.prog 82 [v, .int .i64 left] H (is (.int .i64 (szL left n)) H) := by
  refine acalls_of_awp [.tmp 4] Try.func82 (by kernel_rfl) rfl rfl (Nat.le_of_ble_eq_true rfl) (by kernel_rfl) ?_
  by_cases h : left - n < 0
  · try simp (disch := first | omega | (simp only [ints_length, List.length_replicate]; done) | (simp only [ints_length, List.length_replicate]; omega)) only [Sall,evalOp,init,binE,binI,unE,convE,okNil,builtE,gv,TD.isAgg,resV,↓reduceIte,Nat.reduceEqDiff,reduceCtorEq,Nat.reduceAdd,Nat.reduceMul,Nat.reduceLeDiff,quietOp,blindOp,Int.reduceEq,Int.reduceLT,Int.reduceLE,Nat.reduceLT,ti2,ti3,ti4,ti45,ti46,ti38,ti25,ti30,ti22,ti32,ti24,ti95,ti172,ti169,ti165,ti166,ti65,ti143,ti87, builtE, hv.len, w64, h, decide_true, is, szL]
  · try simp (disch := first | omega | (simp only [ints_length, List.length_replicate]; done) | (simp only [ints_length, List.length_replicate]; omega)) only [Sall,evalOp,init,binE,binI,unE,convE,okNil,builtE,gv,TD.isAgg,resV,↓reduceIte,Nat.reduceEqDiff,reduceCtorEq,Nat.reduceAdd,Nat.reduceMul,Nat.reduceLeDiff,quietOp,blindOp,Int.reduceEq,Int.reduceLT,Int.reduceLE,Nat.reduceLT,ti2,ti3,ti4,ti45,ti46,ti38,ti25,ti30,ti22,ti32,ti24,ti95,ti172,ti169,ti165,ti166,ti65,ti143,ti87, builtE, hv.len, w64, h, decide_false, is, szL]

theorem toInt64S_c (v : Value) (n : Nat) (l : List Int) (H : AH) (hv : Rd 1 H v n l) (hn : n ≤ 4194304) :
    ACalls Try.prog 86 [v] H (is (.slice (some ⟨H.next, 0, some 1⟩) n n) (H.push ⟨2, true, ints l⟩)) := by
  refine ACalls.wf (by kernel_rfl) fun hs => acalls_of_awp [.tmp 2] Try.func86 (by kernel_rfl) rfl rfl (Nat.le_of_ble_eq_true rfl) (by kernel_rfl) ?_
  have hl := hv.lenK1
  try simp (disch := first | omega | (simp only [ints_length, List.length_replicate]; done) | (simp only [ints_length, List.length_replicate]; omega)) only [Sall,evalOp,init,binE,binI,unE,convE,okNil,builtE,gv,TD.isAgg,resV,↓reduceIte,Nat.reduceEqDiff,reduceCtorEq,Nat.reduceAdd,Nat.reduceMul,Nat.reduceLeDiff,quietOp,blindOp,Int.reduceEq,Int.reduceLT,Int.reduceLE,Nat.reduceLT,ti2,ti3,ti4,ti45,ti46,ti38,ti25,ti30,ti22,ti32,ti24,ti95,ti172,ti169,ti165,ti166,ti65,ti143,ti87, builtE, hv.len, ints_zeros]
  refine ⟨by omega, ?_⟩
  refine awp_loop (fun m t H' => ∃ a : Nat, m = n - a ∧ a ≤ n ∧ t 4 = .int .i64 a ∧ t 0 = v ∧ t 3 = .slice (some ⟨H.next, 0, some 1⟩) n n ∧ H' = H.push ⟨2, true, ints (copyL 1 l n a)⟩) n ?_ ?_
  · refine ⟨0, by omega, by omega, ?_⟩
    try simp (disch := first | omega | (simp only [ints_length, List.length_replicate]; done) | (simp only [ints_length, List.length_replicate]; omega)) only [Sall,evalOp,init,binE,binI,unE,convE,okNil,builtE,gv,TD.isAgg,resV,↓reduceIte,Nat.reduceEqDiff,reduceCtorEq,Nat.reduceAdd,Nat.reduceMul,Nat.reduceLeDiff,quietOp,blindOp,Int.reduceEq,Int.reduceLT,Int.reduceLE,Nat.reduceLT,ti2,ti3,ti4,ti45,ti46,ti38,ti25,ti30,ti22,ti32,ti24,ti95,ti172,ti169,ti165,ti166,ti65,ti143,ti87, Int.natCast_zero, copyL_zero]
  · rintro m t H' ⟨a, hm, h14, h4, h0, h3, rfl⟩
    try simp (disch := first | omega | (simp only [ints_length, List.length_replicate]; done) | (simp only [ints_length, List.length_replicate]; omega)) only [Sall,evalOp,init,binE,binI,unE,convE,okNil,builtE,gv,TD.isAgg,resV,↓reduceIte,Nat.reduceEqDiff,reduceCtorEq,Nat.reduceAdd,Nat.reduceMul,Nat.reduceLeDiff,quietOp,blindOp,Int.reduceEq,Int.reduceLT,Int.reduceLE,Nat.reduceLT,ti2,ti3,ti4,ti45,ti46,ti38,ti25,ti30,ti22,ti32,ti24,ti95,ti172,ti169,ti165,ti166,ti65,ti143,ti87, h4, h0, builtE, hv.len]
    refine condC_dec (fun h => ?_) (fun h => ?_)
    · have hst := copyL_set l n a hl.symm (by omega)
      have hcl := copyL_length 1 l n a (by omega) (by omega)
      rw [Nat.mul_one] at hcl
      obtain ⟨i, o, u, c, r, rfl, hr, hc, hs1, hg⟩ := hv.get (by omega)
      have hne : ¬ i = H.next := by have := hs _ _ hr; omega
      try simp (disch := first | omega | (simp only [ints_length, List.length_replicate]; done) | (simp only [ints_length, List.length_replicate]; omega)) only [Sall,evalOp,init,binE,binI,unE,convE,okNil,builtE,gv,TD.isAgg,resV,↓reduceIte,Nat.reduceEqDiff,reduceCtorEq,Nat.reduceAdd,Nat.reduceMul,Nat.reduceLeDiff,quietOp,blindOp,Int.reduceEq,Int.reduceLT,Int.reduceLE,Nat.reduceLT,ti2,ti3,ti4,ti45,ti46,ti38,ti25,ti30,ti22,ti32,ti24,ti95,ti172,ti169,ti165,ti166,ti65,ti143,ti87, h4, h0, h3, hr, hne, hs1, ints_set, hst, hcl, push_setCells, w64]
      refine ⟨⟨by omega, by omega⟩, ⟨by omega, by omega⟩, by omega, n - (a + 1), by omega, a + 1, ?_⟩
      and_intros <;> first | omega | rfl | assumption
    · have ha : a = n := by omega
      subst ha
      try simp (disch := first | omega | (simp only [ints_length, List.length_replicate]; done) | (simp only [ints_length, List.length_replicate]; omega)) only [Sall,evalOp,init,binE,binI,unE,convE,okNil,builtE,gv,TD.isAgg,resV,↓reduceIte,Nat.reduceEqDiff,reduceCtorEq,Nat.reduceAdd,Nat.reduceMul,Nat.reduceLeDiff,quietOp,blindOp,Int.reduceEq,Int.reduceLT,Int.reduceLE,Nat.reduceLT,ti2,ti3,ti4,ti45,ti46,ti38,ti25,ti30,ti22,ti32,ti24,ti95,ti172,ti169,ti165,ti166,ti65,ti143,ti87, h3, is]
      rw [copyL_all 1 l a (by omega)]

theorem szInt64SS_c (v : Value) (ll : List (List Int)) (left : Int) (H : AH) (hv : Rd2 1 H v ll) (hl : 0 ≤ left ∧ left ≤ 1048576) (hn : ll.length ≤ 9223372036854775807) (hn2 : ∀ l ∈ ll, l.length ≤ 9223372036854775807) :
    ACalls Try.prog 12 [v, .int .i64 left] H (fun r H' => ∃ x : Int, r = .int .i64 x ∧ H' = H ∧ (0 ≤ x → (ll.length : Int) + tot ll + x = left)) := by
  refine acalls_of_awp [.tmp 4] Try.func12 (by kernel_rfl) rfl rfl (Nat.le_of_ble_eq_true rfl) (by kernel_rfl) ?_
  by_cases h0 : left - (ll.length : Int) < 0
  · try simp (disch := first | omega | (simp only [ints_length, List.length_replicate]; done) | (simp only [ints_length, List.length_replicate]; omega)) only [Sall,evalOp,init,binE,binI,unE,convE,okNil,builtE,gv,TD.isAgg,resV,↓reduceIte,Nat.reduceEqDiff,reduceCtorEq,Nat.reduceAdd,Nat.reduceMul,Nat.reduceLeDiff,quietOp,blindOp,Int.reduceEq,Int.reduceLT,Int.reduceLE,Nat.reduceLT,ti2,ti3,ti4,ti45,ti46,ti38,ti25,ti30,ti22,ti32,ti24,ti95,ti172,ti169,ti165,ti166,ti65,ti143,ti87, builtE, hv.len, w64, h0, decide_true]
    exact fun h => h.elim
  · try simp (disch := first | omega | (simp only [ints_length, List.length_replicate]; done) | (simp only [ints_length, List.length_replicate]; omega)) only [Sall,evalOp,init,binE,binI,unE,convE,okNil,builtE,gv,TD.isAgg,resV,↓reduceIte,Nat.reduceEqDiff,reduceCtorEq,Nat.reduceAdd,Nat.reduceMul,Nat.reduceLeDiff,quietOp,blindOp,Int.reduceEq,Int.reduceLT,Int.reduceLE,Nat.reduceLT,ti2,ti3,ti4,ti45,ti46,ti38,ti25,ti30,ti22,ti32,ti24,ti95,ti172,ti169,ti165,ti166,ti65,ti143,ti87, builtE, hv.len, w64, h0, decide_false]
    refine awp_loop (fun x t H' => ∃ a : Nat, x = ll.length - a ∧ a ≤ ll.length ∧ t 5 = .int .i64 a ∧ t 0 = v ∧ t 1 = .int .i64 (left - ll.length - tot (ll.take a)) ∧ 0 ≤ left - ll.length - tot (ll.take a) ∧ H' = H) ll.length ?_ ?_
    · refine ⟨0, by omega, by omega, ?_⟩
      try simp (disch := first | omega | (simp only [ints_length, List.length_replicate]; done) | (simp only [ints_length, List.length_replicate]; omega)) only [Sall,evalOp,init,binE,binI,unE,convE,okNil,builtE,gv,TD.isAgg,resV,↓reduceIte,Nat.reduceEqDiff,reduceCtorEq,Nat.reduceAdd,Nat.reduceMul,Nat.reduceLeDiff,quietOp,blindOp,Int.reduceEq,Int.reduceLT,Int.reduceLE,Nat.reduceLT,ti2,ti3,ti4,ti45,ti46,ti38,ti25,ti30,ti22,ti32,ti24,ti95,ti172,ti169,ti165,ti166,ti65,ti143,ti87, Int.natCast_zero]
      refine ⟨by simp [tot], by simp [tot]; omega⟩
    · rintro x t H' ⟨a, hm, h14, h5, h0', h1, hnn, rfl⟩
      try simp (disch := first | omega | (simp only [ints_length, List.length_replicate]; done) | (simp only [ints_length, List.length_replicate]; omega)) only [Sall,evalOp,init,binE,binI,unE,convE,okNil,builtE,gv,TD.isAgg,resV,↓reduceIte,Nat.reduceEqDiff,reduceCtorEq,Nat.reduceAdd,Nat.reduceMul,Nat.reduceLeDiff,quietOp,blindOp,Int.reduceEq,Int.reduceLT,Int.reduceLE,Nat.reduceLT,ti2,ti3,ti4,ti45,ti46,ti38,ti25,ti30,ti22,ti32,ti24,ti95,ti172,ti169,ti165,ti166,ti65,ti143,ti87, h5, h0', builtE, hv.len]
      refine condC_dec (fun h => ?_) (fun h => ?_)
      · obtain ⟨i, o, u, c, r, y, m, rfl, hr, hy, hs, hk⟩ := hv.get (j := a) (by omega)
        have hml := hn2 _ (getD_mem (ll := ll) (a := a) (by omega))
        have hmm := hs.lenK1
        have ht := tot_take_succ ll a (by omega)
        try simp (disch := first | omega | (simp only [ints_length, List.length_replicate]; done) | (simp only [ints_length, List.length_replicate]; omega)) only [Sall,evalOp,init,binE,binI,unE,convE,okNil,builtE,gv,TD.isAgg,resV,↓reduceIte,Nat.reduceEqDiff,reduceCtorEq,Nat.reduceAdd,Nat.reduceMul,Nat.reduceLeDiff,quietOp,blindOp,Int.reduceEq,Int.reduceLT,Int.reduceLE,Nat.reduceLT,ti2,ti3,ti4,ti45,ti46,ti38,ti25,ti30,ti22,ti32,ti24,ti95,ti172,ti169,ti165,ti166,ti65,ti143,ti87, h5, h0', h1, hr, hy, hk]
        refine ⟨⟨by omega, by omega⟩, (szInt64S_c y m _ _ _ hs ⟨hnn, by omega⟩ (by omega)).to ?_⟩
        by_cases hz : left - (ll.length : Int) - (tot (ll.take a) : Int) - (m : Int) < 0
        · have e : szL (left - (ll.length : Int) - (tot (ll.take a) : Int)) m = -1 := by unfold szL; rw [if_pos hz]
          try simp (disch := first | omega | (simp only [ints_length, List.length_replicate]; done) | (simp only [ints_length, List.length_replicate]; omega)) only [Sall,evalOp,init,binE,binI,unE,convE,okNil,builtE,gv,TD.isAgg,resV,↓reduceIte,Nat.reduceEqDiff,reduceCtorEq,Nat.reduceAdd,Nat.reduceMul,Nat.reduceLeDiff,quietOp,blindOp,Int.reduceEq,Int.reduceLT,Int.reduceLE,Nat.reduceLT,ti2,ti3,ti4,ti45,ti46,ti38,ti25,ti30,ti22,ti32,ti24,ti95,ti172,ti169,ti165,ti166,ti65,ti143,ti87, e, decide_true]
          exact fun h => h.elim
        · have e : szL (left - (ll.length : Int) - (tot (ll.take a) : Int)) m = left - (ll.length : Int) - (tot (ll.take a) : Int) - m := by unfold szL; rw [if_neg hz]
          try simp (disch := first | omega | (simp only [ints_length, List.length_replicate]; done) | (simp only [ints_length, List.length_replicate]; omega)) only [Sall,evalOp,init,binE,binI,unE,convE,okNil,builtE,gv,TD.isAgg,resV,↓reduceIte,Nat.reduceEqDiff,reduceCtorEq,Nat.reduceAdd,Nat.reduceMul,Nat.reduceLeDiff,quietOp,blindOp,Int.reduceEq,Int.reduceLT,Int.reduceLE,Nat.reduceLT,ti2,ti3,ti4,ti45,ti46,ti38,ti25,ti30,ti22,ti32,ti24,ti95,ti172,ti169,ti165,ti166,ti65,ti143,ti87, e, hz, decide_false, h5, h0', w64]
          refine ⟨ll.length - (a + 1), by omega, a + 1, ?_⟩
          and_intros <;> first | omega | rfl | assumption
      · have ha : a = ll.length := by omega
        subst ha
        try simp (disch := first | omega | (simp only [ints_length, List.length_replicate]; done) | (simp only [ints_length, List.length_replicate]; omega)) only [Sall,evalOp,init,binE,binI,unE,convE,okNil,builtE,gv,TD.isAgg,resV,↓reduceIte,Nat.reduceEqDiff,reduceCtorEq,Nat.reduceAdd,Nat.reduceMul,Nat.reduceLeDiff,quietOp,blindOp,Int.reduceEq,Int.reduceLT,Int.reduceLE,Nat.reduceLT,ti2,ti3,ti4,ti45,ti46,ti38,ti25,ti30,ti22,ti32,ti24,ti95,ti172,ti169,ti165,ti166,ti65,ti143,ti87, h1]
        rw [List.take_length]
        exact fun _ => by omega

theorem toInt64SS_c (v : Value) (ll : List (List Int)) (H : AH) (hv : Rd2 1 H v ll) (hn : ll.length ≤ 4194304) (hn2 : ∀ l ∈ ll, l.length ≤ 4194304) :
    ACalls Try.prog 15 [v] H (fun u H' => Up H.next H H' ∧ Fr2 1 38 2 H.next H'.next H' u ll) := by
  refine ACalls.wf (by kernel_rfl) fun hs => acalls_of_awp [.tmp 2] Try.func15 (by kernel_rfl) rfl rfl (Nat.le_of_ble_eq_true rfl) (by kernel_rfl) ?_
  try simp (disch := first | omega | (simp only [ints_length, List.length_replicate]; done) | (simp only [ints_length, List.length_replicate]; omega)) only [Sall,evalOp,init,binE,binI,unE,convE,okNil,builtE,gv,TD.isAgg,resV,↓reduceIte,Nat.reduceEqDiff,reduceCtorEq,Nat.reduceAdd,Nat.reduceMul,Nat.reduceLeDiff,quietOp,blindOp,Int.reduceEq,Int.reduceLT,Int.reduceLE,Nat.reduceLT,ti2,ti3,ti4,ti45,ti46,ti38,ti25,ti30,ti22,ti32,ti24,ti95,ti172,ti169,ti165,ti166,ti65,ti143,ti87, builtE, hv.len]
  refine ⟨by omega, ?_⟩
  refine awp_loop (fun m t H' => ∃ (a : Nat) (vs : List Value) (b : Nat → Nat), m = ll.length - a ∧ a ≤ ll.length ∧ t 4 = .int .i64 a ∧ t 0 = v ∧ t 3 = .slice (some ⟨H.next, 0, some 1⟩) ll.length ll.length ∧ Up H.next H H' ∧ H'.row H.next = some ⟨38, true, vs⟩ ∧ vs.length = ll.length ∧
    b 0 = H.next + 1 ∧ b a = H'.next ∧ (∀ j, b j ≤ b (j + 1)) ∧ ∀ j, j < a → ∃ x m, vs[j]? = some x ∧ Fr 1 2 (b j) (b (j + 1)) H' x m (ll.getD j [])) ll.length ?_ ?_
  · refine ⟨0, List.replicate ll.length (.slice none 0 0), fun j => H.next + 1, by omega, by omega, ?_⟩
    try simp (disch := first | omega | (simp only [ints_length, List.length_replicate]; done) | (simp only [ints_length, List.length_replicate]; omega)) only [Sall,evalOp,init,binE,binI,unE,convE,okNil,builtE,gv,TD.isAgg,resV,↓reduceIte,Nat.reduceEqDiff,reduceCtorEq,Nat.reduceAdd,Nat.reduceMul,Nat.reduceLeDiff,quietOp,blindOp,Int.reduceEq,Int.reduceLT,Int.reduceLE,Nat.reduceLT,ti2,ti3,ti4,ti45,ti46,ti38,ti25,ti30,ti22,ti32,ti24,ti95,ti172,ti169,ti165,ti166,ti65,ti143,ti87, Int.natCast_zero, zeros_nil, Nat.not_lt_zero, false_implies]
    exact (Up.refl _ H).push (Nat.le_refl _) _
  · rintro m t H' ⟨a, vs, b, hm, h14, h4, h0, h3, hup, hr1, hvl, hb0, hba, hbm, hall⟩
    try simp (disch := first | omega | (simp only [ints_length, List.length_replicate]; done) | (simp only [ints_length, List.length_replicate]; omega)) only [Sall,evalOp,init,binE,binI,unE,convE,okNil,builtE,gv,TD.isAgg,resV,↓reduceIte,Nat.reduceEqDiff,reduceCtorEq,Nat.reduceAdd,Nat.reduceMul,Nat.reduceLeDiff,quietOp,blindOp,Int.reduceEq,Int.reduceLT,Int.reduceLE,Nat.reduceLT,ti2,ti3,ti4,ti45,ti46,ti38,ti25,ti30,ti22,ti32,ti24,ti95,ti172,ti169,ti165,ti166,ti65,ti143,ti87, h4, h0, builtE, hv.len]
    refine condC_dec (fun h => ?_) (fun h => ?_)
    · obtain ⟨i, o, u, c, r, y, m', rfl, hr, hy, hsx, hk⟩ := hv.get (j := a) (by omega)
      have hil := hs _ _ hr
      have hr' : H'.row i = some r := by rw [hup.row i hil, hr]
      have hy' : Rd 1 H' y m' (ll.getD a []) := hsx.same fun x q hx => by rw [hup.row x (hs _ _ hx), hx]
      have hml := hn2 _ (getD_mem (ll := ll) (a := a) (by omega))
      have hmm := hsx.lenK1
      try simp (disch := first | omega | (simp only [ints_length, List.length_replicate]; done) | (simp only [ints_length, List.length_replicate]; omega)) only [Sall,evalOp,init,binE,binI,unE,convE,okNil,builtE,gv,TD.isAgg,resV,↓reduceIte,Nat.reduceEqDiff,reduceCtorEq,Nat.reduceAdd,Nat.reduceMul,Nat.reduceLeDiff,quietOp,blindOp,Int.reduceEq,Int.reduceLT,Int.reduceLE,Nat.reduceLT,ti2,ti3,ti4,ti45,ti46,ti38,ti25,ti30,ti22,ti32,ti24,ti95,ti172,ti169,ti165,ti166,ti65,ti143,ti87, h4, h0, h3, hr', hy, hk]
      refine ⟨⟨by omega, by omega⟩, (toInt64S_c y m' _ H' hy' (by omega)).to ?_⟩
      have n1 := hup.next
      have m1 := mono_of_step hbm (Nat.zero_le a)
      have hne : ¬ H.next = H'.next := by omega
      try simp (disch := first | omega | (simp only [ints_length, List.length_replicate]; done) | (simp only [ints_length, List.length_replicate]; omega)) only [Sall,evalOp,init,binE,binI,unE,convE,okNil,builtE,gv,TD.isAgg,resV,↓reduceIte,Nat.reduceEqDiff,reduceCtorEq,Nat.reduceAdd,Nat.reduceMul,Nat.reduceLeDiff,quietOp,blindOp,Int.reduceEq,Int.reduceLT,Int.reduceLE,Nat.reduceLT,ti2,ti3,ti4,ti45,ti46,ti38,ti25,ti30,ti22,ti32,ti24,ti95,ti172,ti169,ti165,ti166,ti65,ti143,ti87, h4, h0, h3, hr1, hne, hvl, w64]
      refine ⟨⟨by omega, by omega⟩, by omega, ll.length - (a + 1), by omega, a + 1, vs.set a (.slice (some ⟨H'.next, 0, some 1⟩) m' m'), fun j => if j ≤ a then b j else H'.next + 1, rfl, by omega, by omega, ?_, rfl, by rw [List.length_set, hvl], by dsimp only; rw [if_pos (Nat.zero_le _), hb0], by dsimp only; rw [if_neg (by omega)], fun j => ?_, fun j hj => ?_⟩
      · exact (hup.push (by omega) _).set (Nat.le_refl _) _
      · dsimp only
        by_cases h1 : j + 1 ≤ a
        · rw [if_pos (by omega), if_pos h1]; exact hbm j
        · rw [if_neg h1]; split
          · rw [show j = a by omega, hba]; omega
          · omega
      · by_cases hja : j = a
        · subst hja
          refine ⟨_, m', by rw [List.getElem?_set_self (by omega)], ?_⟩
          dsimp only
          rw [if_pos (Nat.le_refl _), if_neg (by omega), hba]
          exact ⟨by omega, .inr ⟨H'.next, Nat.le_refl _, Nat.lt_succ_self _, rfl, by rw [AH.setCells_row, if_neg (by omega), AH.push_row, if_pos rfl]⟩⟩
        · obtain ⟨x, q, hx, hf⟩ := hall j (by omega)
          refine ⟨x, q, by rw [List.getElem?_set_ne (by omega), hx], ?_⟩
          dsimp only
          rw [if_pos (by omega), if_pos (by omega)]
          have m2 := mono_of_step hbm (show j + 1 ≤ a by omega)
          have m3 := mono_of_step hbm (Nat.zero_le j)
          refine hf.same fun z z1 z2 => ?_
          rw [AH.setCells_row, if_neg (by omega), AH.push_row, if_neg (by omega)]
    · have ha : a = ll.length := by omega
      subst ha
      try simp (disch := first | omega | (simp only [ints_length, List.length_replicate]; done) | (simp only [ints_length, List.length_replicate]; omega)) only [Sall,evalOp,init,binE,binI,unE,convE,okNil,builtE,gv,TD.isAgg,resV,↓reduceIte,Nat.reduceEqDiff,reduceCtorEq,Nat.reduceAdd,Nat.reduceMul,Nat.reduceLeDiff,quietOp,blindOp,Int.reduceEq,Int.reduceLT,Int.reduceLE,Nat.reduceLT,ti2,ti3,ti4,ti45,ti46,ti38,ti25,ti30,ti22,ti32,ti24,ti95,ti172,ti169,ti165,ti166,ti65,ti143,ti87, h3]
      refine ⟨hup, .inr ⟨H.next, vs, b, Nat.le_refl _, ?_, rfl, hr1, hvl, by omega, by omega, .inl (by omega), hbm, hall⟩⟩
      have m1 := mono_of_step hbm (Nat.zero_le ll.length)
      omega

/-- The marked lists: numbers one behind the other, from list to list. -/
def seqLL (k0 : Int) (ll : List (List Int)) : List (List Int) := (List.range ll.length).map fun j => seqL (k0 + tot (ll.take j)) (ll.getD j []).length
theorem seqLL_length (k0 : Int) (ll : List (List Int)) : (seqLL k0 ll).length = ll.length := by simp [seqLL]
theorem seqLL_getD (k0 : Int) (ll : List (List Int)) (j : Nat) (h : j < ll.length) : (seqLL k0 ll).getD j [] = seqL (k0 + tot (ll.take j)) (ll.getD j []).length := by simp [seqLL, h]

theorem heldInt64SS_c (v : Value) (ll : List (List Int)) (k0 : Int) (hk0 : 0 ≤ k0 ∧ k0 ≤ 268435456) (hn : ll.length ≤ 4194304) (ht0 : tot ll ≤ 4194304) (H : AH) (hv : Rd2 1 H v (seqLL k0 ll)) :
    ACalls Try.prog 107 [v, .int .i64 k0] H (is (.int .i64 (k0 + tot ll)) H) := by
  refine acalls_up rfl (acalls_of_awp [.tmp 4] Try.func107 (by kernel_rfl) rfl rfl (Nat.le_of_ble_eq_true rfl) (by kernel_rfl) ?_)
  have hlen := seqLL_length k0 ll
  try simp (disch := first | omega | (simp only [ints_length, List.length_replicate]; done) | (simp only [ints_length, List.length_replicate]; omega)) only [Sall,evalOp,init,binE,binI,unE,convE,okNil,builtE,gv,TD.isAgg,resV,↓reduceIte,Nat.reduceEqDiff,reduceCtorEq,Nat.reduceAdd,Nat.reduceMul,Nat.reduceLeDiff,quietOp,blindOp,Int.reduceEq,Int.reduceLT,Int.reduceLE,Nat.reduceLT,ti2,ti3,ti4,ti45,ti46,ti38,ti25,ti30,ti22,ti32,ti24,ti95,ti172,ti169,ti165,ti166,ti65,ti143,ti87, true_and]
  refine awp_loop (fun x t H' => ∃ a : Nat, x = ll.length - a ∧ a ≤ ll.length ∧ t 5 = .int .i64 a ∧ t 0 = v ∧ t 1 = .int .i64 (k0 + tot (ll.take a)) ∧ H' = H) ll.length ?_ ?_
  · refine ⟨0, by omega, by omega, ?_⟩
    try simp (disch := first | omega | (simp only [ints_length, List.length_replicate]; done) | (simp only [ints_length, List.length_replicate]; omega)) only [Sall,evalOp,init,binE,binI,unE,convE,okNil,builtE,gv,TD.isAgg,resV,↓reduceIte,Nat.reduceEqDiff,reduceCtorEq,Nat.reduceAdd,Nat.reduceMul,Nat.reduceLeDiff,quietOp,blindOp,Int.reduceEq,Int.reduceLT,Int.reduceLE,Nat.reduceLT,ti2,ti3,ti4,ti45,ti46,ti38,ti25,ti30,ti22,ti32,ti24,ti95,ti172,ti169,ti165,ti166,ti65,ti143,ti87, Int.natCast_zero]
    simp [tot]
  · rintro x t H' ⟨a, hm, h14, h5, h0, h1, rfl⟩
    have hle := hv.len
    rw [hlen] at hle
    try simp (disch := first | omega | (simp only [ints_length, List.length_replicate]; done) | (simp only [ints_length, List.length_replicate]; omega)) only [Sall,evalOp,init,binE,binI,unE,convE,okNil,builtE,gv,TD.isAgg,resV,↓reduceIte,Nat.reduceEqDiff,reduceCtorEq,Nat.reduceAdd,Nat.reduceMul,Nat.reduceLeDiff,quietOp,blindOp,Int.reduceEq,Int.reduceLT,Int.reduceLE,Nat.reduceLT,ti2,ti3,ti4,ti45,ti46,ti38,ti25,ti30,ti22,ti32,ti24,ti95,ti172,ti169,ti165,ti166,ti65,ti143,ti87, h5, h0, builtE, hle]
    refine condC_dec (fun h => ?_) (fun h => ?_)
    · obtain ⟨i, o, u, c, r, y, m, rfl, hr, hy, hs, hk⟩ := hv.get (j := a) (by omega)
      rw [seqLL_getD _ _ _ (by omega)] at hs
      have hmm := hs.lenK1
      rw [seqL_length] at hmm
      subst hmm
      have ht := tot_take_succ ll a (by omega)
      have ht2 := tot_take_le ll (a + 1)
      try simp (disch := first | omega | (simp only [ints_length, List.length_replicate]; done) | (simp only [ints_length, List.length_replicate]; omega)) only [Sall,evalOp,init,binE,binI,unE,convE,okNil,builtE,gv,TD.isAgg,resV,↓reduceIte,Nat.reduceEqDiff,reduceCtorEq,Nat.reduceAdd,Nat.reduceMul,Nat.reduceLeDiff,quietOp,blindOp,Int.reduceEq,Int.reduceLT,Int.reduceLE,Nat.reduceLT,ti2,ti3,ti4,ti45,ti46,ti38,ti25,ti30,ti22,ti32,ti24,ti95,ti172,ti169,ti165,ti166,ti65,ti143,ti87, h5, h0, h1, hr, hy, hk, hlen]
      refine ⟨⟨by omega, by omega⟩, (heldInt64S_c y _ _ (by omega) (by omega) _ hs).to ?_⟩
      try simp (disch := first | omega | (simp only [ints_length, List.length_replicate]; done) | (simp only [ints_length, List.length_replicate]; omega)) only [Sall,evalOp,init,binE,binI,unE,convE,okNil,builtE,gv,TD.isAgg,resV,↓reduceIte,Nat.reduceEqDiff,reduceCtorEq,Nat.reduceAdd,Nat.reduceMul,Nat.reduceLeDiff,quietOp,blindOp,Int.reduceEq,Int.reduceLT,Int.reduceLE,Nat.reduceLT,ti2,ti3,ti4,ti45,ti46,ti38,ti25,ti30,ti22,ti32,ti24,ti95,ti172,ti169,ti165,ti166,ti65,ti143,ti87, true_and]
      rw [decide_eq_false (by omega)]
      try simp (disch := first | omega | (simp only [ints_length, List.length_replicate]; done) | (simp only [ints_length, List.length_replicate]; omega)) only [Sall,evalOp,init,binE,binI,unE,convE,okNil,builtE,gv,TD.isAgg,resV,↓reduceIte,Nat.reduceEqDiff,reduceCtorEq,Nat.reduceAdd,Nat.reduceMul,Nat.reduceLeDiff,quietOp,blindOp,Int.reduceEq,Int.reduceLT,Int.reduceLE,Nat.reduceLT,ti2,ti3,ti4,ti45,ti46,ti38,ti25,ti30,ti22,ti32,ti24,ti95,ti172,ti169,ti165,ti166,ti65,ti143,ti87, h5, h0, w64]
      refine ⟨ll.length - (a + 1), by omega, a + 1, ?_⟩
      and_intros <;> first | omega | rfl | assumption
    · have ha : a = ll.length := by omega
      subst ha
      try simp (disch := first | omega | (simp only [ints_length, List.length_replicate]; done) | (simp only [ints_length, List.length_replicate]; omega)) only [Sall,evalOp,init,binE,binI,unE,convE,okNil,builtE,gv,TD.isAgg,resV,↓reduceIte,Nat.reduceEqDiff,reduceCtorEq,Nat.reduceAdd,Nat.reduceMul,Nat.reduceLeDiff,quietOp,blindOp,Int.reduceEq,Int.reduceLT,Int.reduceLE,Nat.reduceLT,ti2,ti3,ti4,ti45,ti46,ti38,ti25,ti30,ti22,ti32,ti24,ti95,ti172,ti169,ti165,ti166,ti65,ti143,ti87, h1]
      rw [List.take_length]
      exact ⟨rfl, Up.refl _ _⟩

theorem markInt64SS_c (ty ty' lo hi : Nat) (v : Value) (ll : List (List Int)) (k0 : Int) (hk0 : 0 ≤ k0 ∧ k0 ≤ 268435456) (hn : ll.length ≤ 4194304) (ht0 : tot ll ≤ 4194304) (H : AH) (hv : Fr2 1 ty ty' lo hi H v ll) :
    ACalls Try.prog 23 [v, .int .i64 k0] H (fun r H' => r = .int .i64 (k0 + tot ll) ∧ H'.next = H.next ∧ (∀ i, ¬(lo ≤ i ∧ i < hi) → H'.row i = H.row i) ∧ Fr2 1 ty ty' lo hi H' v (seqLL k0 ll)) := by
  refine acalls_of_awp [.tmp 4] Try.func23 (by kernel_rfl) rfl rfl (Nat.le_of_ble_eq_true rfl) (by kernel_rfl) ?_
  try simp (disch := first | omega | (simp only [ints_length, List.length_replicate]; done) | (simp only [ints_length, List.length_replicate]; omega)) only [Sall,evalOp,init,binE,binI,unE,convE,okNil,builtE,gv,TD.isAgg,resV,↓reduceIte,Nat.reduceEqDiff,reduceCtorEq,Nat.reduceAdd,Nat.reduceMul,Nat.reduceLeDiff,quietOp,blindOp,Int.reduceEq,Int.reduceLT,Int.reduceLE,Nat.reduceLT,ti2,ti3,ti4,ti45,ti46,ti38,ti25,ti30,ti22,ti32,ti24,ti95,ti172,ti169,ti165,ti166,ti65,ti143,ti87, true_and]
  refine Holds.mp ?_
  rcases hv with ⟨rfl, rfl⟩ | ⟨i, vs, b, g1, g2, rfl, hr, hvl, gb0, gbn, gi, gbm, hall⟩
  · rw [holds_def]
    refine awp_loop (fun x t H' => t 5 = .int .i64 0 ∧ t 0 = .slice none 0 0 ∧ t 1 = .int .i64 k0 ∧ H' = H) 0 ?_ ?_
    · try simp (disch := first | omega | (simp only [ints_length, List.length_replicate]; done) | (simp only [ints_length, List.length_replicate]; omega)) only [Sall,evalOp,init,binE,binI,unE,convE,okNil,builtE,gv,TD.isAgg,resV,↓reduceIte,Nat.reduceEqDiff,reduceCtorEq,Nat.reduceAdd,Nat.reduceMul,Nat.reduceLeDiff,quietOp,blindOp,Int.reduceEq,Int.reduceLT,Int.reduceLE,Nat.reduceLT,ti2,ti3,ti4,ti45,ti46,ti38,ti25,ti30,ti22,ti32,ti24,ti95,ti172,ti169,ti165,ti166,ti65,ti143,ti87, true_and]
    · rintro x t H' ⟨h5, h0, h1, rfl⟩
      try simp (disch := first | omega | (simp only [ints_length, List.length_replicate]; done) | (simp only [ints_length, List.length_replicate]; omega)) only [Sall,evalOp,init,binE,binI,unE,convE,okNil,builtE,gv,TD.isAgg,resV,↓reduceIte,Nat.reduceEqDiff,reduceCtorEq,Nat.reduceAdd,Nat.reduceMul,Nat.reduceLeDiff,quietOp,blindOp,Int.reduceEq,Int.reduceLT,Int.reduceLE,Nat.reduceLT,ti2,ti3,ti4,ti45,ti46,ti38,ti25,ti30,ti22,ti32,ti24,ti95,ti172,ti169,ti165,ti166,ti65,ti143,ti87, h5, h0, h1, builtE, Int.lt_irrefl, decide_false]
      exact ⟨by simp [tot], .inl ⟨rfl, rfl⟩⟩
  · rw [holds_def]
    refine awp_loop (fun x t H' => ∃ a : Nat, x = ll.length - a ∧ a ≤ ll.length ∧ t 5 = .int .i64 a ∧ t 0 = .slice (some ⟨i, 0, some 1⟩) ll.length ll.length ∧ t 1 = .int .i64 (k0 + tot (ll.take a)) ∧ H'.next = H.next ∧ (∀ i, ¬(lo ≤ i ∧ i < hi) → H'.row i = H.row i) ∧ H'.row i = some ⟨ty, true, vs⟩ ∧
        ∀ j, j < ll.length → ∃ x m, vs[j]? = some x ∧ Fr 1 ty' (b j) (b (j + 1)) H' x m (if j < a then seqL (k0 + tot (ll.take j)) (ll.getD j []).length else ll.getD j [])) ll.length ?_ ?_
    · refine ⟨0, by omega, by omega, ?_⟩
      try simp (disch := first | omega | (simp only [ints_length, List.length_replicate]; done) | (simp only [ints_length, List.length_replicate]; omega)) only [Sall,evalOp,init,binE,binI,unE,convE,okNil,builtE,gv,TD.isAgg,resV,↓reduceIte,Nat.reduceEqDiff,reduceCtorEq,Nat.reduceAdd,Nat.reduceMul,Nat.reduceLeDiff,quietOp,blindOp,Int.reduceEq,Int.reduceLT,Int.reduceLE,Nat.reduceLT,ti2,ti3,ti4,ti45,ti46,ti38,ti25,ti30,ti22,ti32,ti24,ti95,ti172,ti169,ti165,ti166,ti65,ti143,ti87, Int.natCast_zero]
      refine ⟨by simp [tot], hr, fun j hj => ?_⟩
      rw [if_neg (by omega)]; exact hall j hj
    · rintro x t H' ⟨a, hm, h14, h5, h0, h1, hnx, hsm, hr', hal⟩
      try simp (disch := first | omega | (simp only [ints_length, List.length_replicate]; done) | (simp only [ints_length, List.length_replicate]; omega)) only [Sall,evalOp,init,binE,binI,unE,convE,okNil,builtE,gv,TD.isAgg,resV,↓reduceIte,Nat.reduceEqDiff,reduceCtorEq,Nat.reduceAdd,Nat.reduceMul,Nat.reduceLeDiff,quietOp,blindOp,Int.reduceEq,Int.reduceLT,Int.reduceLE,Nat.reduceLT,ti2,ti3,ti4,ti45,ti46,ti38,ti25,ti30,ti22,ti32,ti24,ti95,ti172,ti169,ti165,ti166,ti65,ti143,ti87, h5, h0, builtE]
      refine condC_dec (fun h => ?_) (fun h => ?_)
      · obtain ⟨y, m, hy, hf⟩ := hal a (by omega)
        rw [if_neg (by omega)] at hf
        have hmm := hf.lenK1
        have ht := tot_take_succ ll a (by omega)
        have ht2 := tot_take_le ll (a + 1)
        try simp (disch := first | omega | (simp only [ints_length, List.length_replicate]; done) | (simp only [ints_length, List.length_replicate]; omega)) only [Sall,evalOp,init,binE,binI,unE,convE,okNil,builtE,gv,TD.isAgg,resV,↓reduceIte,Nat.reduceEqDiff,reduceCtorEq,Nat.reduceAdd,Nat.reduceMul,Nat.reduceLeDiff,quietOp,blindOp,Int.reduceEq,Int.reduceLT,Int.reduceLE,Nat.reduceLT,ti2,ti3,ti4,ti45,ti46,ti38,ti25,ti30,ti22,ti32,ti24,ti95,ti172,ti169,ti165,ti166,ti65,ti143,ti87, h5, h0, h1, hr', hy]
        refine ⟨⟨by omega, by omega⟩, (markInt64S_c ty' (b a) (b (a + 1)) y m _ _ (by omega) (by omega) H' hf).fin ?_⟩
        rintro H'' ⟨hnx2, hsm2, hf2⟩
        have c1 := mono_of_step gbm (Nat.zero_le a)
        have c2 := mono_of_step gbm (show a + 1 ≤ ll.length by omega)
        try simp (disch := first | omega | (simp only [ints_length, List.length_replicate]; done) | (simp only [ints_length, List.length_replicate]; omega)) only [Sall,evalOp,init,binE,binI,unE,convE,okNil,builtE,gv,TD.isAgg,resV,↓reduceIte,Nat.reduceEqDiff,reduceCtorEq,Nat.reduceAdd,Nat.reduceMul,Nat.reduceLeDiff,quietOp,blindOp,Int.reduceEq,Int.reduceLT,Int.reduceLE,Nat.reduceLT,ti2,ti3,ti4,ti45,ti46,ti38,ti25,ti30,ti22,ti32,ti24,ti95,ti172,ti169,ti165,ti166,ti65,ti143,ti87, h5, h0, w64]
        refine ⟨ll.length - (a + 1), by omega, a + 1, rfl, by omega, by omega, by omega, by rw [hnx2, hnx], fun z hz => ?_, ?_, fun j hj => ?_⟩
        · rw [hsm2 z (by omega)]; exact hsm z hz
        · rw [hsm2 i (by omega)]; exact hr'
        · by_cases hja : j = a
          · subst hja
            refine ⟨y, m, hy, ?_⟩
            rw [if_pos (by omega), ← hmm]
            exact hf2
          · obtain ⟨y', m', hy', hf'⟩ := hal j hj
            refine ⟨y', m', hy', ?_⟩
            have e : (if j < a + 1 then seqL (k0 + ↑(tot (ll.take j))) (ll.getD j []).length else ll.getD j []) = (if j < a then seqL (k0 + ↑(tot (ll.take j))) (ll.getD j []).length else ll.getD j []) := by
              by_cases h1 : j < a
              · rw [if_pos (by omega), if_pos h1]
              · rw [if_neg (by omega), if_neg h1]
            rw [e]
            refine hf'.same fun z z1 z2 => hsm2 z ?_
            rcases Nat.lt_or_gt_of_ne hja with hlt | hgt
            · have := mono_of_step gbm (show j + 1 ≤ a from hlt); omega
            · have := mono_of_step gbm (show a + 1 ≤ j from hgt); omega
      · have ha : a = ll.length := by omega
        subst ha
        try simp (disch := first | omega | (simp only [ints_length, List.length_replicate]; done) | (simp only [ints_length, List.length_replicate]; omega)) only [Sall,evalOp,init,binE,binI,unE,convE,okNil,builtE,gv,TD.isAgg,resV,↓reduceIte,Nat.reduceEqDiff,reduceCtorEq,Nat.reduceAdd,Nat.reduceMul,Nat.reduceLeDiff,quietOp,blindOp,Int.reduceEq,Int.reduceLT,Int.reduceLE,Nat.reduceLT,ti2,ti3,ti4,ti45,ti46,ti38,ti25,ti30,ti22,ti32,ti24,ti95,ti172,ti169,ti165,ti166,ti65,ti143,ti87, h1]
        rw [List.take_length]
        refine ⟨rfl, hnx, hsm, .inr ⟨i, vs, b, g1, g2, by rw [seqLL_length], hr', by rw [seqLL_length, hvl], gb0, by rw [seqLL_length]; exact gbn, by rw [seqLL_length]; exact gi, gbm, fun j hj => ?_⟩⟩
        rw [seqLL_length] at hj
        obtain ⟨y, m, hy, hf⟩ := hal j hj
        rw [if_pos hj] at hf
        exact ⟨y, m, hy, by rw [seqLL_getD _ _ _ hj]; exact hf⟩
end Go.Proofs.Ytgkmdfjjlghecaa.A
end

section
set_option linter.unusedSimpArgs false
set_option linter.unusedVariables false
set_option maxRecDepth 100000
namespace Go.Proofs.Ytgkmdfjjlghecaa.A
open Go Go.Abs Go.RowKit

theorem pairs_c (n : Nat) (r : List Int) (hr : r.length = 14) (hn : n ≤ 14) (H : AH) : ACalls Try.prog 160 [.agg (ints r).toArray, .int .i64 n] H (fun v H' => Up H.next H H' ∧ Fr2 1 38 2 H.next H'.next H' v (pairsL r n)) := by
  refine acalls_of_awp [.tmp 4] Try.func160 (by kernel_rfl) rfl rfl (Nat.le_of_ble_eq_true rfl) (by kernel_rfl) ?_
  try simp (disch := first | omega | (simp only [ints_length, List.length_replicate]; done) | (simp only [ints_length, List.length_replicate]; omega)) only [Sall,evalOp,init,binE,binI,unE,convE,okNil,builtE,gv,TD.isAgg,resV,↓reduceIte,Nat.reduceEqDiff,reduceCtorEq,Nat.reduceAdd,Nat.reduceMul,Nat.reduceLeDiff,quietOp,blindOp,Int.reduceEq,Int.reduceLT,Int.reduceLE,Nat.reduceLT,ti2,ti3,ti4,ti45,ti46,ti38,ti25,ti30,ti22,ti32,ti24,ti95,ti172,ti169,ti165,ti166,ti65,ti143,ti87, zeros_zero]
  refine awp_loop (fun m t H' => ∃ (a : Nat) (u : Value) (lo hi : Nat), m = n - a ∧ a ≤ n ∧ t 9 = .int .i64 a ∧ t 8 = .int .i64 n ∧ t 5 = u ∧ t 2 = .pointer (some ⟨H.next, 0, none⟩) ∧ Up H.next H H' ∧ H'.row H.next = some ⟨46, true, ints r⟩ ∧
    H.next < lo ∧ lo ≤ hi ∧ hi ≤ H'.next ∧ Fr2 1 38 2 lo hi H' u (pairsL r a)) n ?_ ?_
  · refine ⟨0, .slice (some ⟨H.next + 1, 0, some 1⟩) 0 0, H.next + 1, H.next + 2, by omega, by omega, ?_⟩
    try simp (disch := first | omega | (simp only [ints_length, List.length_replicate]; done) | (simp only [ints_length, List.length_replicate]; omega)) only [Sall,evalOp,init,binE,binI,unE,convE,okNil,builtE,gv,TD.isAgg,resV,↓reduceIte,Nat.reduceEqDiff,reduceCtorEq,Nat.reduceAdd,Nat.reduceMul,Nat.reduceLeDiff,quietOp,blindOp,Int.reduceEq,Int.reduceLT,Int.reduceLE,Nat.reduceLT,ti2,ti3,ti4,ti45,ti46,ti38,ti25,ti30,ti22,ti32,ti24,ti95,ti172,ti169,ti165,ti166,ti65,ti143,ti87, Int.natCast_zero]
    refine ⟨((Up.refl _ H).push (by omega) _).push (Nat.le_succ _) _, by omega, by omega, ?_⟩
    exact .inr ⟨H.next + 1, [], fun _ => H.next + 2, by omega, by omega, rfl, by rw [AH.push_row, if_pos (by rw [AH.push_next])], rfl, by dsimp only; omega, by dsimp only; omega, .inl (by dsimp only; omega), fun _ => Nat.le_refl _, fun j hj => by simp [pairsL_zero] at hj⟩
  · rintro m t H' ⟨a, u, lo, hi, hm, h14, h9, h8, h5, h2, hup, hr1, hlo, hlh, hhi, hfr⟩
    try simp (disch := first | omega | (simp only [ints_length, List.length_replicate]; done) | (simp only [ints_length, List.length_replicate]; omega)) only [Sall,evalOp,init,binE,binI,unE,convE,okNil,builtE,gv,TD.isAgg,resV,↓reduceIte,Nat.reduceEqDiff,reduceCtorEq,Nat.reduceAdd,Nat.reduceMul,Nat.reduceLeDiff,quietOp,blindOp,Int.reduceEq,Int.reduceLT,Int.reduceLE,Nat.reduceLT,ti2,ti3,ti4,ti45,ti46,ti38,ti25,ti30,ti22,ti32,ti24,ti95,ti172,ti169,ti165,ti166,ti65,ti143,ti87, h9, h8]
    refine condC_dec (fun h => ?_) (fun h => ?_)
    · by_cases hp : (a : Int) < r.getD a 0
      · have hle := pairsL_le r a
        have ne1 : ¬ H.next = H'.next := by omega
        try simp (disch := first | omega | (simp only [ints_length, List.length_replicate]; done) | (simp only [ints_length, List.length_replicate]; omega)) only [Sall,evalOp,init,binE,binI,unE,convE,okNil,builtE,gv,TD.isAgg,resV,↓reduceIte,Nat.reduceEqDiff,reduceCtorEq,Nat.reduceAdd,Nat.reduceMul,Nat.reduceLeDiff,quietOp,blindOp,Int.reduceEq,Int.reduceLT,Int.reduceLE,Nat.reduceLT,ti2,ti3,ti4,ti45,ti46,ti38,ti25,ti30,ti22,ti32,ti24,ti95,ti172,ti169,ti165,ti166,ti65,ti143,ti87, h9, h8, h5, h2, hr1, ints_get?, hp, decide_true, zeros_one, zeros_two, slCells, ne1]
        refine ⟨⟨by omega, by omega⟩, ⟨by omega, by omega⟩, ?_⟩
        obtain ⟨H2, e2⟩ : ∃ H2, H2 = (H'.push ⟨2, true, [.int .i64 a, .int .i64 (r.getD a 0)]⟩).push ⟨38, true, [.slice (some ⟨H'.next, 0, some 1⟩) 2 2]⟩ := ⟨_, rfl⟩
        have n2 : H2.next = H'.next + 2 := by rw [e2]; rfl
        have s2 : ∀ i, i < H'.next → H2.row i = H'.row i := fun i hi => by rw [e2, AH.push_row, if_neg (by rw [AH.push_next]; omega), AH.push_row, if_neg (by omega)]
        have x2 : H2.row H'.next = some ⟨2, true, ints [(a : Int), r.getD a 0]⟩ := by rw [e2, AH.push_row, if_neg (by rw [AH.push_next]; omega), AH.push_row, if_pos rfl]; rfl
        rw [← e2]
        clear e2
        refine appE_fr2 (hfr.same fun i _ hi => s2 i (by omega)) (m := 2) (l := [(a : Int), r.getD a 0]) ⟨rfl, .inr ⟨H'.next, by omega, by omega, rfl, x2⟩⟩ rfl (by decide) (by omega) hlh (by omega) ?_
        intro v' H3 n3 s3 f3
        try simp (disch := first | omega | (simp only [ints_length, List.length_replicate]; done) | (simp only [ints_length, List.length_replicate]; omega)) only [Sall,evalOp,init,binE,binI,unE,convE,okNil,builtE,gv,TD.isAgg,resV,↓reduceIte,Nat.reduceEqDiff,reduceCtorEq,Nat.reduceAdd,Nat.reduceMul,Nat.reduceLeDiff,quietOp,blindOp,Int.reduceEq,Int.reduceLT,Int.reduceLE,Nat.reduceLT,ti2,ti3,ti4,ti45,ti46,ti38,ti25,ti30,ti22,ti32,ti24,ti95,ti172,ti169,ti165,ti166,ti65,ti143,ti87, h9, h8, h2, w64]
        refine ⟨n - (a + 1), by omega, a + 1, v', lo, H2.next + 1, rfl, by omega, by omega, rfl, ⟨by have := hup.next; omega, fun i hi => ?_⟩, ?_, by omega, by omega, by omega, ?_⟩
        · rw [s3 i (by omega) (by omega), s2 i (by have := hup.next; omega), hup.row i hi]
        · rw [s3 _ (by omega) (by omega), s2 _ (by omega), hr1]
        · rw [pairsL_yes r a hp]; exact f3
      · try simp (disch := first | omega | (simp only [ints_length, List.length_replicate]; done) | (simp only [ints_length, List.length_replicate]; omega)) only [Sall,evalOp,init,binE,binI,unE,convE,okNil,builtE,gv,TD.isAgg,resV,↓reduceIte,Nat.reduceEqDiff,reduceCtorEq,Nat.reduceAdd,Nat.reduceMul,Nat.reduceLeDiff,quietOp,blindOp,Int.reduceEq,Int.reduceLT,Int.reduceLE,Nat.reduceLT,ti2,ti3,ti4,ti45,ti46,ti38,ti25,ti30,ti22,ti32,ti24,ti95,ti172,ti169,ti165,ti166,ti65,ti143,ti87, h9, h8, h5, h2, hr1, ints_get?, hp, decide_false, w64]
        refine ⟨⟨by omega, by omega⟩, n - (a + 1), by omega, a + 1, u, lo, hi, rfl, by omega, by omega, ?_⟩
        rw [pairsL_no r a hp]
        and_intros <;> first | omega | rfl | assumption
    · have ha : a = n := by omega
      subst ha
      try simp (disch := first | omega | (simp only [ints_length, List.length_replicate]; done) | (simp only [ints_length, List.length_replicate]; omega)) only [Sall,evalOp,init,binE,binI,unE,convE,okNil,builtE,gv,TD.isAgg,resV,↓reduceIte,Nat.reduceEqDiff,reduceCtorEq,Nat.reduceAdd,Nat.reduceMul,Nat.reduceLeDiff,quietOp,blindOp,Int.reduceEq,Int.reduceLT,Int.reduceLE,Nat.reduceLT,ti2,ti3,ti4,ti45,ti46,ti38,ti25,ti30,ti22,ti32,ti24,ti95,ti172,ti169,ti165,ti166,ti65,ti143,ti87, h5]
      exact ⟨hup, hfr.wide (by omega) hhi⟩

theorem l01Pairs_c (n : Nat) (r : List Int) (hr : r.length = 14) (hn : n ≤ 14) (H : AH) : ACalls Try.prog 156 [.int .i64 n, .agg (ints r).toArray] H (fun v H' => Up H.next H H' ∧ Fr2 1 38 2 H.next H'.next H' v (pairsL r n)) := by
  refine acalls_of_awp [.tmp 4] Try.func156 (by kernel_rfl) rfl rfl (Nat.le_of_ble_eq_true rfl) (by kernel_rfl) ?_
  try simp (disch := first | omega | (simp only [ints_length, List.length_replicate]; done) | (simp only [ints_length, List.length_replicate]; omega)) only [Sall,evalOp,init,binE,binI,unE,convE,okNil,builtE,gv,TD.isAgg,resV,↓reduceIte,Nat.reduceEqDiff,reduceCtorEq,Nat.reduceAdd,Nat.reduceMul,Nat.reduceLeDiff,quietOp,blindOp,Int.reduceEq,Int.reduceLT,Int.reduceLE,Nat.reduceLT,ti2,ti3,ti4,ti45,ti46,ti38,ti25,ti30,ti22,ti32,ti24,ti95,ti172,ti169,ti165,ti166,ti65,ti143,ti87, zeros_zero]
  refine awp_loop (fun m t H' => ∃ (a : Nat) (u : Value) (lo hi : Nat), m = n - a ∧ a ≤ n ∧ t 6 = .int .i64 a ∧ t 0 = .int .i64 n ∧ t 5 = u ∧ t 3 = .pointer (some ⟨H.next, 0, none⟩) ∧ Up H.next H H' ∧ H'.row H.next = some ⟨46, true, ints r⟩ ∧
    H.next < lo ∧ lo ≤ hi ∧ hi ≤ H'.next ∧ Fr2 1 38 2 lo hi H' u (pairsL r a)) n ?_ ?_
  · refine ⟨0, .slice (some ⟨H.next + 1, 0, some 1⟩) 0 0, H.next + 1, H.next + 2, by omega, by omega, ?_⟩
    try simp (disch := first | omega | (simp only [ints_length, List.length_replicate]; done) | (simp only [ints_length, List.length_replicate]; omega)) only [Sall,evalOp,init,binE,binI,unE,convE,okNil,builtE,gv,TD.isAgg,resV,↓reduceIte,Nat.reduceEqDiff,reduceCtorEq,Nat.reduceAdd,Nat.reduceMul,Nat.reduceLeDiff,quietOp,blindOp,Int.reduceEq,Int.reduceLT,Int.reduceLE,Nat.reduceLT,ti2,ti3,ti4,ti45,ti46,ti38,ti25,ti30,ti22,ti32,ti24,ti95,ti172,ti169,ti165,ti166,ti65,ti143,ti87, Int.natCast_zero]
    refine ⟨((Up.refl _ H).push (by omega) _).push (Nat.le_succ _) _, by omega, by omega, ?_⟩
    exact .inr ⟨H.next + 1, [], fun _ => H.next + 2, by omega, by omega, rfl, by rw [AH.push_row, if_pos (by rw [AH.push_next])], rfl, by dsimp only; omega, by dsimp only; omega, .inl (by dsimp only; omega), fun _ => Nat.le_refl _, fun j hj => by simp [pairsL_zero] at hj⟩
  · rintro m t H' ⟨a, u, lo, hi, hm, h14, h9, h8, h5, h2, hup, hr1, hlo, hlh, hhi, hfr⟩
    try simp (disch := first | omega | (simp only [ints_length, List.length_replicate]; done) | (simp only [ints_length, List.length_replicate]; omega)) only [Sall,evalOp,init,binE,binI,unE,convE,okNil,builtE,gv,TD.isAgg,resV,↓reduceIte,Nat.reduceEqDiff,reduceCtorEq,Nat.reduceAdd,Nat.reduceMul,Nat.reduceLeDiff,quietOp,blindOp,Int.reduceEq,Int.reduceLT,Int.reduceLE,Nat.reduceLT,ti2,ti3,ti4,ti45,ti46,ti38,ti25,ti30,ti22,ti32,ti24,ti95,ti172,ti169,ti165,ti166,ti65,ti143,ti87, h9, h8]
    refine condC_dec (fun h => ?_) (fun h => ?_)
    · by_cases hp : (a : Int) < r.getD a 0
      · have hle := pairsL_le r a
        have ne1 : ¬ H.next = H'.next := by omega
        try simp (disch := first | omega | (simp only [ints_length, List.length_replicate]; done) | (simp only [ints_length, List.length_replicate]; omega)) only [Sall,evalOp,init,binE,binI,unE,convE,okNil,builtE,gv,TD.isAgg,resV,↓reduceIte,Nat.reduceEqDiff,reduceCtorEq,Nat.reduceAdd,Nat.reduceMul,Nat.reduceLeDiff,quietOp,blindOp,Int.reduceEq,Int.reduceLT,Int.reduceLE,Nat.reduceLT,ti2,ti3,ti4,ti45,ti46,ti38,ti25,ti30,ti22,ti32,ti24,ti95,ti172,ti169,ti165,ti166,ti65,ti143,ti87, h9, h8, h5, h2, hr1, ints_get?, hp, decide_true, zeros_one, zeros_two, slCells, ne1]
        refine ⟨⟨by omega, by omega⟩, ⟨by omega, by omega⟩, ?_⟩
        obtain ⟨H2, e2⟩ : ∃ H2, H2 = (H'.push ⟨2, true, [.int .i64 a, .int .i64 (r.getD a 0)]⟩).push ⟨38, true, [.slice (some ⟨H'.next, 0, some 1⟩) 2 2]⟩ := ⟨_, rfl⟩
        have n2 : H2.next = H'.next + 2 := by rw [e2]; rfl
        have s2 : ∀ i, i < H'.next → H2.row i = H'.row i := fun i hi => by rw [e2, AH.push_row, if_neg (by rw [AH.push_next]; omega), AH.push_row, if_neg (by omega)]
        have x2 : H2.row H'.next = some ⟨2, true, ints [(a : Int), r.getD a 0]⟩ := by rw [e2, AH.push_row, if_neg (by rw [AH.push_next]; omega), AH.push_row, if_pos rfl]; rfl
        rw [← e2]
        clear e2
        refine appE_fr2 (hfr.same fun i _ hi => s2 i (by omega)) (m := 2) (l := [(a : Int), r.getD a 0]) ⟨rfl, .inr ⟨H'.next, by omega, by omega, rfl, x2⟩⟩ rfl (by decide) (by omega) hlh (by omega) ?_
        intro v' H3 n3 s3 f3
        try simp (disch := first | omega | (simp only [ints_length, List.length_replicate]; done) | (simp only [ints_length, List.length_replicate]; omega)) only [Sall,evalOp,init,binE,binI,unE,convE,okNil,builtE,gv,TD.isAgg,resV,↓reduceIte,Nat.reduceEqDiff,reduceCtorEq,Nat.reduceAdd,Nat.reduceMul,Nat.reduceLeDiff,quietOp,blindOp,Int.reduceEq,Int.reduceLT,Int.reduceLE,Nat.reduceLT,ti2,ti3,ti4,ti45,ti46,ti38,ti25,ti30,ti22,ti32,ti24,ti95,ti172,ti169,ti165,ti166,ti65,ti143,ti87, h9, h8, h2, w64]
        refine ⟨n - (a + 1), by omega, a + 1, v', lo, H2.next + 1, rfl, by omega, by omega, rfl, ⟨by have := hup.next; omega, fun i hi => ?_⟩, ?_, by omega, by omega, by omega, ?_⟩
        · rw [s3 i (by omega) (by omega), s2 i (by have := hup.next; omega), hup.row i hi]
        · rw [s3 _ (by omega) (by omega), s2 _ (by omega), hr1]
        · rw [pairsL_yes r a hp]; exact f3
      · try simp (disch := first | omega | (simp only [ints_length, List.length_replicate]; done) | (simp only [ints_length, List.length_replicate]; omega)) only [Sall,evalOp,init,binE,binI,unE,convE,okNil,builtE,gv,TD.isAgg,resV,↓reduceIte,Nat.reduceEqDiff,reduceCtorEq,Nat.reduceAdd,Nat.reduceMul,Nat.reduceLeDiff,quietOp,blindOp,Int.reduceEq,Int.reduceLT,Int.reduceLE,Nat.reduceLT,ti2,ti3,ti4,ti45,ti46,ti38,ti25,ti30,ti22,ti32,ti24,ti95,ti172,ti169,ti165,ti166,ti65,ti143,ti87, h9, h8, h5, h2, hr1, ints_get?, hp, decide_false, w64]
        refine ⟨⟨by omega, by omega⟩, n - (a + 1), by omega, a + 1, u, lo, hi, rfl, by omega, by omega, ?_⟩
        rw [pairsL_no r a hp]
        and_intros <;> first | omega | rfl | assumption
    · have ha : a = n := by omega
      subst ha
      try simp (disch := first | omega | (simp only [ints_length, List.length_replicate]; done) | (simp only [ints_length, List.length_replicate]; omega)) only [Sall,evalOp,init,binE,binI,unE,convE,okNil,builtE,gv,TD.isAgg,resV,↓reduceIte,Nat.reduceEqDiff,reduceCtorEq,Nat.reduceAdd,Nat.reduceMul,Nat.reduceLeDiff,quietOp,blindOp,Int.reduceEq,Int.reduceLT,Int.reduceLE,Nat.reduceLT,ti2,ti3,ti4,ti45,ti46,ti38,ti25,ti30,ti22,ti32,ti24,ti95,ti172,ti169,ti165,ti166,ti65,ti143,ti87, h5]
      exact ⟨hup, hfr.wide (by omega) hhi⟩
end Go.Proofs.Ytgkmdfjjlghecaa.A
end

section
set_option linter.unusedSimpArgs false
set_option linter.unusedVariables false
set_option maxRecDepth 100000
namespace Go.Proofs.Ytgkmdfjjlghecaa.A
open Go Go.Abs Go.RowKit

theorem indexFuncI_c (g : FuncId) (cap : List Value) (p : Int → Bool) (v : Value) (k : Nat) (l : List Int) (H : AH) (hv : Rd 1 H v k l) (hk : k ≤ 4294967296)
    (hp : ∀ x : Int, ACalls Try.prog g (.int .i64 x :: cap) H (is (.bool (p x)) H)) :
    ACalls Try.prog 218 [v, .func (.func g) #[] cap.toArray] H (is (.int .i64 (firstI (fun i => p (l.getD i 0)) k)) H) := by
  refine acalls_of_awp [.tmp 4] Try.func218 (by kernel_rfl) rfl rfl (Nat.le_of_ble_eq_true rfl) (by kernel_rfl) ?_
  try simp (disch := first | omega | (simp only [ints_length, List.length_replicate]; done) | (simp only [ints_length, List.length_replicate]; omega)) only [Sall,evalOp,init,binE,binI,unE,convE,okNil,builtE,gv,TD.isAgg,resV,↓reduceIte,Nat.reduceEqDiff,reduceCtorEq,Nat.reduceAdd,Nat.reduceMul,Nat.reduceLeDiff,quietOp,blindOp,Int.reduceEq,Int.reduceLT,Int.reduceLE,Nat.reduceLT,ti2,ti3,ti4,ti45,ti46,ti38,ti25,ti30,ti22,ti32,ti24,ti95,ti172,ti169,ti165,ti166,ti65,ti143,ti87, builtE, hv.len]
  refine awp_loop (fun m t H' => ∃ a : Nat, m = k - a ∧ a ≤ k ∧ t 8 = .int .i64 a ∧ t 7 = .int .i64 k ∧ t 0 = v ∧ t 1 = .func (.func g) #[] cap.toArray ∧ H' = H ∧ (∀ x, x < a → p (l.getD x 0) = false)) k ?_ ?_
  · refine ⟨0, by omega, by omega, ?_⟩
    try simp (disch := first | omega | (simp only [ints_length, List.length_replicate]; done) | (simp only [ints_length, List.length_replicate]; omega)) only [Sall,evalOp,init,binE,binI,unE,convE,okNil,builtE,gv,TD.isAgg,resV,↓reduceIte,Nat.reduceEqDiff,reduceCtorEq,Nat.reduceAdd,Nat.reduceMul,Nat.reduceLeDiff,quietOp,blindOp,Int.reduceEq,Int.reduceLT,Int.reduceLE,Nat.reduceLT,ti2,ti3,ti4,ti45,ti46,ti38,ti25,ti30,ti22,ti32,ti24,ti95,ti172,ti169,ti165,ti166,ti65,ti143,ti87, Int.natCast_zero, Nat.not_lt_zero, false_implies]
  · rintro m t H' ⟨a, hm, h14, h8, h7, h0, h1, rfl, hall⟩
    try simp (disch := first | omega | (simp only [ints_length, List.length_replicate]; done) | (simp only [ints_length, List.length_replicate]; omega)) only [Sall,evalOp,init,binE,binI,unE,convE,okNil,builtE,gv,TD.isAgg,resV,↓reduceIte,Nat.reduceEqDiff,reduceCtorEq,Nat.reduceAdd,Nat.reduceMul,Nat.reduceLeDiff,quietOp,blindOp,Int.reduceEq,Int.reduceLT,Int.reduceLE,Nat.reduceLT,ti2,ti3,ti4,ti45,ti46,ti38,ti25,ti30,ti22,ti32,ti24,ti95,ti172,ti169,ti165,ti166,ti65,ti143,ti87, h8, h7]
    refine condC_dec (fun h => ?_) (fun h => ?_)
    · obtain ⟨i, o, u, c, r, rfl, hr, hc, hs1, hg⟩ := hv.get (by omega)
      try simp (disch := first | omega | (simp only [ints_length, List.length_replicate]; done) | (simp only [ints_length, List.length_replicate]; omega)) only [Sall,evalOp,init,binE,binI,unE,convE,okNil,builtE,gv,TD.isAgg,resV,↓reduceIte,Nat.reduceEqDiff,reduceCtorEq,Nat.reduceAdd,Nat.reduceMul,Nat.reduceLeDiff,quietOp,blindOp,Int.reduceEq,Int.reduceLT,Int.reduceLE,Nat.reduceLT,ti2,ti3,ti4,ti45,ti46,ti38,ti25,ti30,ti22,ti32,ti24,ti95,ti172,ti169,ti165,ti166,ti65,ti143,ti87, h8, h7, h0, h1, hr, hs1]
      refine ⟨⟨by omega, by omega⟩, (hp _).to ?_⟩
      cases hb : p (l.getD a 0) with
      | true =>
        try simp (disch := first | omega | (simp only [ints_length, List.length_replicate]; done) | (simp only [ints_length, List.length_replicate]; omega)) only [Sall,evalOp,init,binE,binI,unE,convE,okNil,builtE,gv,TD.isAgg,resV,↓reduceIte,Nat.reduceEqDiff,reduceCtorEq,Nat.reduceAdd,Nat.reduceMul,Nat.reduceLeDiff,quietOp,blindOp,Int.reduceEq,Int.reduceLT,Int.reduceLE,Nat.reduceLT,ti2,ti3,ti4,ti45,ti46,ti38,ti25,ti30,ti22,ti32,ti24,ti95,ti172,ti169,ti165,ti166,ti65,ti143,ti87, h8, h7, h0, h1, is]
        rw [firstI_at (p := fun i => p (l.getD i 0)) (by omega) hb hall]
      | false =>
        try simp (disch := first | omega | (simp only [ints_length, List.length_replicate]; done) | (simp only [ints_length, List.length_replicate]; omega)) only [Sall,evalOp,init,binE,binI,unE,convE,okNil,builtE,gv,TD.isAgg,resV,↓reduceIte,Nat.reduceEqDiff,reduceCtorEq,Nat.reduceAdd,Nat.reduceMul,Nat.reduceLeDiff,quietOp,blindOp,Int.reduceEq,Int.reduceLT,Int.reduceLE,Nat.reduceLT,ti2,ti3,ti4,ti45,ti46,ti38,ti25,ti30,ti22,ti32,ti24,ti95,ti172,ti169,ti165,ti166,ti65,ti143,ti87, h8, h7, h0, h1, w64]
        refine ⟨k - (a + 1), by omega, a + 1, rfl, by omega, by omega, fun x hx => ?_⟩
        by_cases e : x = a
        · rw [e]; exact hb
        · exact hall x (by omega)
    · try simp (disch := first | omega | (simp only [ints_length, List.length_replicate]; done) | (simp only [ints_length, List.length_replicate]; omega)) only [Sall,evalOp,init,binE,binI,unE,convE,okNil,builtE,gv,TD.isAgg,resV,↓reduceIte,Nat.reduceEqDiff,reduceCtorEq,Nat.reduceAdd,Nat.reduceMul,Nat.reduceLeDiff,quietOp,blindOp,Int.reduceEq,Int.reduceLT,Int.reduceLE,Nat.reduceLT,ti2,ti3,ti4,ti45,ti46,ti38,ti25,ti30,ti22,ti32,ti24,ti95,ti172,ti169,ti165,ti166,ti65,ti143,ti87, is]
      rw [firstI_none (p := fun i => p (l.getD i 0)) fun x hx => hall x (by omega)]

theorem containsFuncI_c (g : FuncId) (cap : List Value) (p : Int → Bool) (v : Value) (k : Nat) (l : List Int) (H : AH) (hv : Rd 1 H v k l) (hk : k ≤ 4294967296)
    (hp : ∀ x : Int, ACalls Try.prog g (.int .i64 x :: cap) H (is (.bool (p x)) H)) :
    ACalls Try.prog 194 [v, .func (.func g) #[] cap.toArray] H (is (.bool ((List.range k).any fun i => p (l.getD i 0))) H) := by
  refine acalls_of_awp [.tmp 4] Try.func194 (by kernel_rfl) rfl rfl (Nat.le_of_ble_eq_true rfl) (by kernel_rfl) ?_
  try simp (disch := first | omega | (simp only [ints_length, List.length_replicate]; done) | (simp only [ints_length, List.length_replicate]; omega)) only [Sall,evalOp,init,binE,binI,unE,convE,okNil,builtE,gv,TD.isAgg,resV,↓reduceIte,Nat.reduceEqDiff,reduceCtorEq,Nat.reduceAdd,Nat.reduceMul,Nat.reduceLeDiff,quietOp,blindOp,Int.reduceEq,Int.reduceLT,Int.reduceLE,Nat.reduceLT,ti2,ti3,ti4,ti45,ti46,ti38,ti25,ti30,ti22,ti32,ti24,ti95,ti172,ti169,ti165,ti166,ti65,ti143,ti87, true_and]
  refine (indexFuncI_c g cap p v k l H hv hk hp).to ?_
  try simp (disch := first | omega | (simp only [ints_length, List.length_replicate]; done) | (simp only [ints_length, List.length_replicate]; omega)) only [Sall,evalOp,init,binE,binI,unE,convE,okNil,builtE,gv,TD.isAgg,resV,↓reduceIte,Nat.reduceEqDiff,reduceCtorEq,Nat.reduceAdd,Nat.reduceMul,Nat.reduceLeDiff,quietOp,blindOp,Int.reduceEq,Int.reduceLT,Int.reduceLE,Nat.reduceLT,ti2,ti3,ti4,ti45,ti46,ti38,ti25,ti30,ti22,ti32,ti24,ti95,ti172,ti169,ti165,ti166,ti65,ti143,ti87, is, firstI_any]

theorem areResults1_c (x : Int) (H : AH) : ACalls Try.prog 204 [.int .i64 x] H (is (.bool (!decide (0 ≤ x ∧ x ≤ 2))) H) := by
  refine acalls_of_awp [.tmp 2] Try.func204 (by kernel_rfl) rfl rfl (Nat.le_of_ble_eq_true rfl) (by kernel_rfl) ?_
  try simp (disch := first | omega | (simp only [ints_length, List.length_replicate]; done) | (simp only [ints_length, List.length_replicate]; omega)) only [Sall,evalOp,init,binE,binI,unE,convE,okNil,builtE,gv,TD.isAgg,resV,↓reduceIte,Nat.reduceEqDiff,reduceCtorEq,Nat.reduceAdd,Nat.reduceMul,Nat.reduceLeDiff,quietOp,blindOp,Int.reduceEq,Int.reduceLT,Int.reduceLE,Nat.reduceLT,ti2,ti3,ti4,ti45,ti46,ti38,ti25,ti30,ti22,ti32,ti24,ti95,ti172,ti169,ti165,ti166,ti65,ti143,ti87, true_and]
  refine (between_c _ _ _ _).to ?_
  try simp (disch := first | omega | (simp only [ints_length, List.length_replicate]; done) | (simp only [ints_length, List.length_replicate]; omega)) only [Sall,evalOp,init,binE,binI,unE,convE,okNil,builtE,gv,TD.isAgg,resV,↓reduceIte,Nat.reduceEqDiff,reduceCtorEq,Nat.reduceAdd,Nat.reduceMul,Nat.reduceLeDiff,quietOp,blindOp,Int.reduceEq,Int.reduceLT,Int.reduceLE,Nat.reduceLT,ti2,ti3,ti4,ti45,ti46,ti38,ti25,ti30,ti22,ti32,ti24,ti95,ti172,ti169,ti165,ti166,ti65,ti143,ti87, is]

theorem areResults_c (n : Nat) (v : Value) (k : Nat) (l : List Int) (x : Value) (ll : List (List Int)) (H : AH) (hn : n ≤ 14) (hv : Rd 14 H v k l) (hk : k ≤ 4294967296) (hx : Rd2 1 H x ll) (hl : ll.length ≤ 4294967296) (hl2 : ∀ y ∈ ll, y.length ≤ 4294967296) :
    ACalls Try.prog 153 [.agg #[.int .i64 n, v], x] H (is (.bool (resB n k l ll)) H) := by
  refine ACalls.wf (by kernel_rfl) fun hs => acalls_up rfl (acalls_of_awp [.tmp 4] Try.func153 (by kernel_rfl) rfl rfl (Nat.le_of_ble_eq_true rfl) (by kernel_rfl) ?_)
  have up : Up H.next H (H.push ⟨32, true, [.int .i64 n, v]⟩) := (Up.refl _ H).push (Nat.le_refl _) _
  have e1 : (H.push ⟨32, true, [.int .i64 n, v]⟩).row H.next = some ⟨32, true, [.int .i64 n, v]⟩ := by rw [AH.push_row, if_pos rfl]
  have n1 : (H.push ⟨32, true, [.int .i64 n, v]⟩).next = H.next + 1 := rfl
  by_cases hlk : ll.length ≤ k
  · have hlk' : ¬ (k : Int) < (ll.length : Int) := by omega
    try simp (disch := first | omega | (simp only [ints_length, List.length_replicate]; done) | (simp only [ints_length, List.length_replicate]; omega)) only [Sall,evalOp,init,binE,binI,unE,convE,okNil,builtE,gv,TD.isAgg,resV,↓reduceIte,Nat.reduceEqDiff,reduceCtorEq,Nat.reduceAdd,Nat.reduceMul,Nat.reduceLeDiff,quietOp,blindOp,Int.reduceEq,Int.reduceLT,Int.reduceLE,Nat.reduceLT,ti2,ti3,ti4,ti45,ti46,ti38,ti25,ti30,ti22,ti32,ti24,ti95,ti172,ti169,ti165,ti166,ti65,ti143,ti87, builtE, hx.len, hv.len, hlk', decide_false]
    refine awp_loop (fun m t H' => ∃ a : Nat, m = ll.length - a ∧ a ≤ ll.length ∧ t 15 = .int .i64 a ∧ t 14 = .int .i64 ll.length ∧ t 13 = x ∧ t 2 = .pointer (some ⟨H.next, 0, none⟩) ∧ Up H.next H H' ∧ H.next < H'.next ∧ H'.row H.next = some ⟨32, true, [.int .i64 n, v]⟩ ∧ (∀ i, i < a → resAt n (rnd l i) (ll.getD i []) = true)) ll.length ?_ ?_
    · refine ⟨0, by omega, by omega, ?_⟩
      try simp (disch := first | omega | (simp only [ints_length, List.length_replicate]; done) | (simp only [ints_length, List.length_replicate]; omega)) only [Sall,evalOp,init,binE,binI,unE,convE,okNil,builtE,gv,TD.isAgg,resV,↓reduceIte,Nat.reduceEqDiff,reduceCtorEq,Nat.reduceAdd,Nat.reduceMul,Nat.reduceLeDiff,quietOp,blindOp,Int.reduceEq,Int.reduceLT,Int.reduceLE,Nat.reduceLT,ti2,ti3,ti4,ti45,ti46,ti38,ti25,ti30,ti22,ti32,ti24,ti95,ti172,ti169,ti165,ti166,ti65,ti143,ti87, Int.natCast_zero, Nat.not_lt_zero, false_implies]
      exact ⟨up, by omega⟩
    · rintro m t H' ⟨a, hm, h14, h15, h14', h13, h2, hup, hnx, hr1, hall⟩
      try simp (disch := first | omega | (simp only [ints_length, List.length_replicate]; done) | (simp only [ints_length, List.length_replicate]; omega)) only [Sall,evalOp,init,binE,binI,unE,convE,okNil,builtE,gv,TD.isAgg,resV,↓reduceIte,Nat.reduceEqDiff,reduceCtorEq,Nat.reduceAdd,Nat.reduceMul,Nat.reduceLeDiff,quietOp,blindOp,Int.reduceEq,Int.reduceLT,Int.reduceLE,Nat.reduceLT,ti2,ti3,ti4,ti45,ti46,ti38,ti25,ti30,ti22,ti32,ti24,ti95,ti172,ti169,ti165,ti166,ti65,ti143,ti87, h15, h14']
      refine condC_dec (fun h => ?_) (fun h => ?_)
      · have hx' : Rd2 1 H' x ll := hx.same fun i r hr => by have := hs i r hr; rw [hup.row i this, hr]
        have hv' : Rd 14 H' v k l := hv.same fun i r hr => by have := hs i r hr; rw [hup.row i this, hr]
        obtain ⟨i, o, u, c, r, y, my, rfl, hr, hy, hsx, hok⟩ := hx'.get (j := a) (by omega)
        obtain ⟨i', o', u', c', r', rfl, hr', hc', hs', hg'⟩ := hv'.get (by omega)
        have hml := hl2 _ (getD_mem (ll := ll) (a := a) (by omega))
        have hmm := hsx.lenK1
        try simp (disch := first | omega | (simp only [ints_length, List.length_replicate]; done) | (simp only [ints_length, List.length_replicate]; omega)) only [Sall,evalOp,init,binE,binI,unE,convE,okNil,builtE,gv,TD.isAgg,resV,↓reduceIte,Nat.reduceEqDiff,reduceCtorEq,Nat.reduceAdd,Nat.reduceMul,Nat.reduceLeDiff,quietOp,blindOp,Int.reduceEq,Int.reduceLT,Int.reduceLE,Nat.reduceLT,ti2,ti3,ti4,ti45,ti46,ti38,ti25,ti30,ti22,ti32,ti24,ti95,ti172,ti169,ti165,ti166,ti65,ti143,ti87, h15, h14', h13, h2, hr, hy, hok]
        refine ⟨by omega, ?_⟩
        refine draw_id (by kernel_rfl) (by kernel_rfl) ?_
        try simp (disch := first | omega | (simp only [ints_length, List.length_replicate]; done) | (simp only [ints_length, List.length_replicate]; omega)) only [Sall,evalOp,init,binE,binI,unE,convE,okNil,builtE,gv,TD.isAgg,resV,↓reduceIte,Nat.reduceEqDiff,reduceCtorEq,Nat.reduceAdd,Nat.reduceMul,Nat.reduceLeDiff,quietOp,blindOp,Int.reduceEq,Int.reduceLT,Int.reduceLE,Nat.reduceLT,ti2,ti3,ti4,ti45,ti46,ti38,ti25,ti30,ti22,ti32,ti24,ti95,ti172,ti169,ti165,ti166,ti65,ti143,ti87, builtE, hsx.len, h15, h2, hr1, hr', hg']
        have hrl : (rnd l a).length = 14 := rnd_length l a k hv.1 (by omega)
        refine ⟨⟨by omega, by omega⟩, by omega, ACalls.wf (by kernel_rfl) fun hs1 => (pairs_c n (rnd l a) hrl hn H').mono ?_⟩
        rintro p H3 ⟨up3, hp⟩
        have hpl := hp.rd.len
        refine ⟨.inr (.inr (up3.le hs1)), ?_⟩
        have hsx3 : Rd 1 H3 y my (ll.getD a []) := hsx.same (up3.le hs1).row
        have hr3 : H3.row H.next = some ⟨32, true, [.int .i64 n, .slice (some ⟨i', o', u'⟩) k c']⟩ := by rw [up3.row _ hnx, hr1]
        have n3 := up3.next
        refine Holds.mp ?_
        by_cases hq : my = (pairsL (rnd l a) n).length
        · have e2 : ((my : Int) != ((pairsL (rnd l a) n).length : Int)) = false := by rw [hq]; exact bne_self_eq_false _
          try simp (disch := first | omega | (simp only [ints_length, List.length_replicate]; done) | (simp only [ints_length, List.length_replicate]; omega)) only [Sall,evalOp,init,binE,binI,unE,convE,okNil,builtE,gv,TD.isAgg,resV,↓reduceIte,Nat.reduceEqDiff,reduceCtorEq,Nat.reduceAdd,Nat.reduceMul,Nat.reduceLeDiff,quietOp,blindOp,Int.reduceEq,Int.reduceLT,Int.reduceLE,Nat.reduceLT,ti2,ti3,ti4,ti45,ti46,ti38,ti25,ti30,ti22,ti32,ti24,ti95,ti172,ti169,ti165,ti166,ti65,ti143,ti87, builtE, hpl, e2, h15, h2]
          refine (containsFuncI_c 204 [] (fun z => !decide (0 ≤ z ∧ z ≤ 2)) y my _ H3 hsx3 (by omega) (fun z => areResults1_c z H3)).to ?_
          cases hb : (List.range my).any fun j => !decide (0 ≤ (ll.getD a []).getD j 0 ∧ (ll.getD a []).getD j 0 ≤ 2) with
          | true =>
            try simp (disch := first | omega | (simp only [ints_length, List.length_replicate]; done) | (simp only [ints_length, List.length_replicate]; omega)) only [Sall,evalOp,init,binE,binI,unE,convE,okNil,builtE,gv,TD.isAgg,resV,↓reduceIte,Nat.reduceEqDiff,reduceCtorEq,Nat.reduceAdd,Nat.reduceMul,Nat.reduceLeDiff,quietOp,blindOp,Int.reduceEq,Int.reduceLT,Int.reduceLE,Nat.reduceLT,ti2,ti3,ti4,ti45,ti46,ti38,ti25,ti30,ti22,ti32,ti24,ti95,ti172,ti169,ti165,ti166,ti65,ti143,ti87, true_and]
            refine ⟨.inr (.inr (LE.refl _)), ?_⟩
            rw [resB_bad (i := a) (by omega) (by rw [resAt_any, ← hmm, hb]; simp)]
            exact ⟨rfl, by have := hup.next; omega, fun i hi => by rw [up3.row i (by omega), hup.row i hi]⟩
          | false =>
            try simp (disch := first | omega | (simp only [ints_length, List.length_replicate]; done) | (simp only [ints_length, List.length_replicate]; omega)) only [Sall,evalOp,init,binE,binI,unE,convE,okNil,builtE,gv,TD.isAgg,resV,↓reduceIte,Nat.reduceEqDiff,reduceCtorEq,Nat.reduceAdd,Nat.reduceMul,Nat.reduceLeDiff,quietOp,blindOp,Int.reduceEq,Int.reduceLT,Int.reduceLE,Nat.reduceLT,ti2,ti3,ti4,ti45,ti46,ti38,ti25,ti30,ti22,ti32,ti24,ti95,ti172,ti169,ti165,ti166,ti65,ti143,ti87, h15, h14', h13, h2, w64]
            refine ⟨.inr (.inr (LE.refl _)), ll.length - (a + 1), by omega, a + 1, rfl, by omega, by omega, ⟨by have := hup.next; omega, fun i hi => by rw [up3.row i (by omega), hup.row i hi]⟩, by omega, hr3, fun i hi => ?_⟩
            by_cases e : i = a
            · rw [e, resAt_any, ← hmm, hb, hq]; simp
            · exact hall i (by omega)
        · have e2 : ((my : Int) != ((pairsL (rnd l a) n).length : Int)) = true := by rw [bne_iff_ne]; omega
          have e3 : resAt n (rnd l a) (ll.getD a []) = false := by
            unfold resAt
            rw [← hmm, show (my == (pairsL (rnd l a) n).length) = false by simpa using hq, Bool.false_and]
          try simp (disch := first | omega | (simp only [ints_length, List.length_replicate]; done) | (simp only [ints_length, List.length_replicate]; omega)) only [Sall,evalOp,init,binE,binI,unE,convE,okNil,builtE,gv,TD.isAgg,resV,↓reduceIte,Nat.reduceEqDiff,reduceCtorEq,Nat.reduceAdd,Nat.reduceMul,Nat.reduceLeDiff,quietOp,blindOp,Int.reduceEq,Int.reduceLT,Int.reduceLE,Nat.reduceLT,ti2,ti3,ti4,ti45,ti46,ti38,ti25,ti30,ti22,ti32,ti24,ti95,ti172,ti169,ti165,ti166,ti65,ti143,ti87, builtE, hpl, e2, h15, h2]
          rw [resB_bad (i := a) (by omega) e3]
          exact ⟨rfl, by have := hup.next; omega, fun i hi => by rw [up3.row i (by omega), hup.row i hi]⟩
      · try simp (disch := first | omega | (simp only [ints_length, List.length_replicate]; done) | (simp only [ints_length, List.length_replicate]; omega)) only [Sall,evalOp,init,binE,binI,unE,convE,okNil,builtE,gv,TD.isAgg,resV,↓reduceIte,Nat.reduceEqDiff,reduceCtorEq,Nat.reduceAdd,Nat.reduceMul,Nat.reduceLeDiff,quietOp,blindOp,Int.reduceEq,Int.reduceLT,Int.reduceLE,Nat.reduceLT,ti2,ti3,ti4,ti45,ti46,ti38,ti25,ti30,ti22,ti32,ti24,ti95,ti172,ti169,ti165,ti166,ti65,ti143,ti87, true_and]
        rw [resB_good hlk fun i hi => hall i (by omega)]
        exact ⟨rfl, hup⟩
  · have hlk' : (k : Int) < (ll.length : Int) := by omega
    try simp (disch := first | omega | (simp only [ints_length, List.length_replicate]; done) | (simp only [ints_length, List.length_replicate]; omega)) only [Sall,evalOp,init,binE,binI,unE,convE,okNil,builtE,gv,TD.isAgg,resV,↓reduceIte,Nat.reduceEqDiff,reduceCtorEq,Nat.reduceAdd,Nat.reduceMul,Nat.reduceLeDiff,quietOp,blindOp,Int.reduceEq,Int.reduceLT,Int.reduceLE,Nat.reduceLT,ti2,ti3,ti4,ti45,ti46,ti38,ti25,ti30,ti22,ti32,ti24,ti95,ti172,ti169,ti165,ti166,ti65,ti143,ti87, builtE, hx.len, hv.len, hlk', decide_true]
    unfold resB
    simp only [hlk, decide_false, Bool.false_and, true_and]
    exact up
end Go.Proofs.Ytgkmdfjjlghecaa.A
end

section
set_option linter.unusedSimpArgs false
set_option linter.unusedVariables false
namespace Go.Abs

def rowOkB (n : Nat) (r : List Int) : Bool := decide (r.length = n) && (List.range r.length).all fun j => decide (0 ≤ r.getD j 0 ∧ r.getD j 0 ≤ (n : Int) - 1)
def haveB (n : Int) (ll : List (List Int)) : Bool := decide (1 ≤ n ∧ n ≤ 14) && (decide (ll.length = n.toNat) && (List.range ll.length).all fun i => rowOkB n.toNat (ll.getD i []))
/-- The first c numbers of a column. -/
def colL (ll : List (List Int)) (i c : Nat) : List Int := (List.range c).map fun k => (ll.getD k []).getD i 0
theorem colL_succ (ll : List (List Int)) (i c : Nat) : colL ll i (c + 1) = colL ll i c ++ [(ll.getD c []).getD i 0] := by simp [colL, List.range_succ]
theorem colL_length (ll : List (List Int)) (i c : Nat) : (colL ll i c).length = c := by simp [colL]
def latAt (n : Nat) (ll : List (List Int)) (i : Nat) : Bool := ordB n (ll.getD i []) && ordB n (colL ll i n)
def latB (n : Nat) (ll : List (List Int)) : Bool := (List.range n).all fun i => latAt n ll i
theorem haveB_at {n : Int} {ll : List (List Int)} (h : haveB n ll = true) : ∃ m : Nat, n = m ∧ 1 ≤ m ∧ m ≤ 14 ∧ ll.length = m ∧ ∀ i, i < m → (ll.getD i []).length = m ∧ ∀ j, j < m → 0 ≤ (ll.getD i []).getD j 0 ∧ (ll.getD i []).getD j 0 < m := by
  unfold haveB at h
  rw [Bool.and_eq_true, Bool.and_eq_true, decide_eq_true_iff, decide_eq_true_iff, List.all_eq_true] at h
  obtain ⟨h1, h2, h3⟩ := h
  refine ⟨n.toNat, by omega, by omega, by omega, h2, fun i hi => ?_⟩
  have h4 := h3 i (by simp; omega)
  unfold rowOkB at h4
  rw [Bool.and_eq_true, decide_eq_true_iff, List.all_eq_true] at h4
  refine ⟨h4.1, fun j hj => ?_⟩
  have h5 := of_decide_eq_true (h4.2 j (by rw [h4.1]; simpa using hj))
  omega
/-- What IsSquareOf answers. -/
def sqoC (n : Int) (ll : List (List Int)) : Int := if haveB n ll = true then 0 else 2
def sqoB (n : Int) (ll : List (List Int)) : Bool := haveB n ll && latB n.toNat ll
end Go.Abs
end
