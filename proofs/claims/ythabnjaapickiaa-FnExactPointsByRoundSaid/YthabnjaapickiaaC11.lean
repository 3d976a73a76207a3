/- Contracts: PointsOf and SecondNumbers on both sides. -/
import Derived.Test.YthabnjaapickiaaC10
set_option linter.unusedSimpArgs false
set_option linter.unusedVariables false
set_option maxRecDepth 100000
set_option maxHeartbeats 2000000
--LEN ints_length, List.length_replicate, List.length_set
namespace Go.Proofs.Ythabnjaapickiaa.A
open Go Go.Abs Go.RowKit

theorem codeS_yes {q : Int} {k : Nat} {l : List Int} {b : Bool} (h : schedB q k l = true) (hb : b = true) : codeS q k l b = 0 := by unfold codeS; rw [if_pos h, if_pos hb]
theorem codeS_no {q : Int} {k : Nat} {l : List Int} {b : Bool} (h : ¬ (schedB q k l = true ∧ b = true)) : (codeS q k l b != 0) = true := by
  unfold codeS
  split
  · rename_i h1
    rw [if_neg (fun h2 => h ⟨h1, h2⟩)]; rfl
  · rfl
theorem fr_nil (ty lo hi : Nat) (H : AH) : Fr 1 ty lo hi H (.slice none 0 0) 0 [] := ⟨rfl, .inl ⟨rfl, rfl⟩⟩

/-- Points of all teams, if the schedule and the results are right. -/
def ptsR (q : Int) (k : Nat) (l : List Int) (ll : List (List Int)) : List Int := if schedB q k l = true ∧ resB q.toNat k l ll = true then sumsF q.toNat (fun _ o => o) (meets q.toNat l ll ll.length) else []
/-- Second or third numbers of all teams, if the schedule and the results are right. -/
def sumR (third : Bool) (q : Int) (k : Nat) (l : List Int) (ll : List (List Int)) : List Int := if schedB q k l = true ∧ resB q.toNat k l ll = true then sumsF q.toNat (sumF third (sumsF q.toNat (fun _ o => o) (meets q.toNat l ll ll.length))) (meets q.toNat l ll ll.length) else []
theorem second_sum (n : Nat) (l : List Int) (ll : List (List Int)) : sumsF n (fun b _ => (sumsF n (fun _ o => o) (meets n l ll ll.length)).getD b.toNat 0) (meets n l ll ll.length) = sumsF n (sumF false (sumsF n (fun _ o => o) (meets n l ll ll.length))) (meets n l ll ll.length) := by
  refine sumsF_congr (fun b o => ?_) _
  unfold sumF
  rw [if_neg (by simp), Int.one_mul, w64 (sumsF_range _ _ _ _)]
theorem ptsR_length (q : Int) (k : Nat) (l : List Int) (ll : List (List Int)) : (ptsR q k l ll).length ≤ 14 := by
  unfold ptsR
  split
  · rename_i h
    obtain ⟨h2, _, _⟩ := schedB_at h.1
    rw [sumsF_length]; omega
  · simp
theorem sumR_length (third : Bool) (q : Int) (k : Nat) (l : List Int) (ll : List (List Int)) : (sumR third q k l ll).length ≤ 14 := by
  unfold sumR
  split
  · rename_i h
    obtain ⟨h2, _, _⟩ := schedB_at h.1
    rw [sumsF_length]; omega
  · simp

theorem specPointsOf_c (q : Int) (v : Value) (k : Nat) (l : List Int) (x : Value) (ll : List (List Int)) (H : AH) (hv : Rd 14 H v k l) (hk : k ≤ 4294967296) (hx : Rd2 1 H x ll) (hl : ll.length ≤ 4294967296) (hl2 : ∀ y ∈ ll, y.length ≤ 4294967296) :
    ACalls Try.prog 50 [.agg #[.int .i64 q, v], x] H (fun r H' => ∃ u, r = .tuple #[u, .int .i64 (codeS q k l (resB q.toNat k l ll))] ∧ Up H.next H H' ∧ Fr 1 2 H.next H'.next H' u (ptsR q k l ll).length (ptsR q k l ll)) := by
  refine ACalls.wf (by kernel_rfl) fun hs => acalls_of_awp [.tmp 4, .tmp 5] Try.func50 (by kernel_rfl) rfl rfl (Nat.le_of_ble_eq_true rfl) (by kernel_rfl) ?_
  have hone := hv.one
  have up : Up H.next H (H.push ⟨30, true, [.int .i64 q, v]⟩) := (Up.refl _ H).push (Nat.le_refl _) _
  have e1 : (H.push ⟨30, true, [.int .i64 q, v]⟩).row H.next = some ⟨30, true, [.int .i64 q, v]⟩ := by rw [AH.push_row, if_pos rfl]
  have n1 : (H.push ⟨30, true, [.int .i64 q, v]⟩).next = H.next + 1 := rfl
  try simp (disch := first | omega | (simp only [ints_length, List.length_replicate, List.length_set]; done) | (simp only [ints_length, List.length_replicate, List.length_set]; omega)) only [Sall,evalOp,init,binE,binI,unE,convE,okNil,builtE,gv,TD.isAgg,resV,↓reduceIte,Nat.reduceEqDiff,reduceCtorEq,Nat.reduceAdd,Nat.reduceMul,Nat.reduceLeDiff,quietOp,blindOp,Int.reduceEq,Int.reduceLT,Int.reduceLE,Nat.reduceLT,ti2,ti3,ti4,ti94,ti95,ti22,ti46,ti28,ti37,ti30,ti39,ti36,ti114,ti32,ti41, hone]
  revert up e1 n1
  generalize H.push ⟨30, true, [.int .i64 q, v]⟩ = H1
  intro up e1 n1
  have hv1 := hv.same (up.le hs).row
  have hx1 := hx.same (up.le hs).row
  refine (l10Code_c q v k l x ll (.slice none 0 0) 0 [] H1 hv1 hk hx1 hl hl2 (fr_nil 0 0 0 _).rd (by omega)).to ?_
  rw [show (resB q.toNat k l ll && (List.range 0).all fun i => decide (0 ≤ ([] : List Int).getD i 0 ∧ ([] : List Int).getD i 0 ≤ q - 1)) = resB q.toNat k l ll from Bool.and_true _]
  by_cases hok : schedB q k l = true ∧ resB q.toNat k l ll = true
  · obtain ⟨hb, hres⟩ := hok
    obtain ⟨h2, _, _⟩ := schedB_at hb
    obtain ⟨n, rfl⟩ : ∃ n : Nat, q = n := ⟨q.toNat, by omega⟩
    unfold ptsR
    rw [if_pos ⟨hb, hres⟩, codeS_yes hb hres]
    rw [Int.toNat_natCast] at hres ⊢
    try simp (disch := first | omega | (simp only [ints_length, List.length_replicate, List.length_set]; done) | (simp only [ints_length, List.length_replicate, List.length_set]; omega)) only [Sall,evalOp,init,binE,binI,unE,convE,okNil,builtE,gv,TD.isAgg,resV,↓reduceIte,Nat.reduceEqDiff,reduceCtorEq,Nat.reduceAdd,Nat.reduceMul,Nat.reduceLeDiff,quietOp,blindOp,Int.reduceEq,Int.reduceLT,Int.reduceLE,Nat.reduceLT,ti2,ti3,ti4,ti94,ti95,ti22,ti46,ti28,ti37,ti30,ti39,ti36,ti114,ti32,ti41, bne_self_eq_false, e1, builtE, hx1.len]
    refine (l10Points_c n v k l x ll ll.length H1 hb hres (Nat.le_refl _) hl hv1 hx1).mono ?_
    rintro u H2 ⟨up2, hf⟩
    have hu := hf.rd.one
    refine Holds.mp ?_
    try simp (disch := first | omega | (simp only [ints_length, List.length_replicate, List.length_set]; done) | (simp only [ints_length, List.length_replicate, List.length_set]; omega)) only [Sall,evalOp,init,binE,binI,unE,convE,okNil,builtE,gv,TD.isAgg,resV,↓reduceIte,Nat.reduceEqDiff,reduceCtorEq,Nat.reduceAdd,Nat.reduceMul,Nat.reduceLeDiff,quietOp,blindOp,Int.reduceEq,Int.reduceLT,Int.reduceLE,Nat.reduceLT,ti2,ti3,ti4,ti94,ti95,ti22,ti46,ti28,ti37,ti30,ti39,ti36,ti114,ti32,ti41, hu]
    refine ⟨u, rfl, up.trans up2 (by omega), ?_⟩
    rw [sumsF_length]
    exact hf.wide (by omega) (Nat.le_refl _)
  · have ec := codeS_no hok
    unfold ptsR
    rw [if_neg hok]
    try simp (disch := first | omega | (simp only [ints_length, List.length_replicate, List.length_set]; done) | (simp only [ints_length, List.length_replicate, List.length_set]; omega)) only [Sall,evalOp,init,binE,binI,unE,convE,okNil,builtE,gv,TD.isAgg,resV,↓reduceIte,Nat.reduceEqDiff,reduceCtorEq,Nat.reduceAdd,Nat.reduceMul,Nat.reduceLeDiff,quietOp,blindOp,Int.reduceEq,Int.reduceLT,Int.reduceLE,Nat.reduceLT,ti2,ti3,ti4,ti94,ti95,ti22,ti46,ti28,ti37,ti30,ti39,ti36,ti114,ti32,ti41, ec]
    exact ⟨_, rfl, up, fr_nil _ _ _ _⟩

theorem PointsOf_c (q : Int) (v : Value) (k : Nat) (l : List Int) (x : Value) (ll : List (List Int)) (H : AH) (hv : Rd 14 H v k l) (hk : k ≤ 4294967296) (hx : Rd2 1 H x ll) (hl : ll.length ≤ 4294967296) (hl2 : ∀ y ∈ ll, y.length ≤ 4294967296) :
    ACalls Try.prog 51 [.agg #[.int .i64 q, v], x] H (fun r H' => ∃ u, r = .tuple #[u, .int .i64 (codeS q k l (resB q.toNat k l ll))] ∧ Up H.next H H' ∧ Fr 1 2 H.next H'.next H' u (ptsR q k l ll).length (ptsR q k l ll)) := by
  refine ACalls.wf (by kernel_rfl) fun hs => acalls_of_awp [.tmp 4, .tmp 5] Try.func51 (by kernel_rfl) rfl rfl (Nat.le_of_ble_eq_true rfl) (by kernel_rfl) ?_
  have hone := hv.one
  have up : Up H.next H (H.push ⟨30, true, [.int .i64 q, v]⟩) := (Up.refl _ H).push (Nat.le_refl _) _
  have e1 : (H.push ⟨30, true, [.int .i64 q, v]⟩).row H.next = some ⟨30, true, [.int .i64 q, v]⟩ := by rw [AH.push_row, if_pos rfl]
  have n1 : (H.push ⟨30, true, [.int .i64 q, v]⟩).next = H.next + 1 := rfl
  try simp (disch := first | omega | (simp only [ints_length, List.length_replicate, List.length_set]; done) | (simp only [ints_length, List.length_replicate, List.length_set]; omega)) only [Sall,evalOp,init,binE,binI,unE,convE,okNil,builtE,gv,TD.isAgg,resV,↓reduceIte,Nat.reduceEqDiff,reduceCtorEq,Nat.reduceAdd,Nat.reduceMul,Nat.reduceLeDiff,quietOp,blindOp,Int.reduceEq,Int.reduceLT,Int.reduceLE,Nat.reduceLT,ti2,ti3,ti4,ti94,ti95,ti22,ti46,ti28,ti37,ti30,ti39,ti36,ti114,ti32,ti41, hone]
  revert up e1 n1
  generalize H.push ⟨30, true, [.int .i64 q, v]⟩ = H1
  intro up e1 n1
  have hv1 := hv.same (up.le hs).row
  have hx1 := hx.same (up.le hs).row
  refine (resultsCode_c q v k l x ll 83 [] true H1 hv1 hk hx1 hl hl2 fun H' _ _ _ => always_c H').to ?_
  rw [Bool.and_true]
  by_cases hok : schedB q k l = true ∧ resB q.toNat k l ll = true
  · obtain ⟨hb, hres⟩ := hok
    obtain ⟨h2, _, _⟩ := schedB_at hb
    obtain ⟨n, rfl⟩ : ∃ n : Nat, q = n := ⟨q.toNat, by omega⟩
    unfold ptsR
    rw [if_pos ⟨hb, hres⟩, codeS_yes hb hres]
    rw [Int.toNat_natCast] at hres ⊢
    try simp (disch := first | omega | (simp only [ints_length, List.length_replicate, List.length_set]; done) | (simp only [ints_length, List.length_replicate, List.length_set]; omega)) only [Sall,evalOp,init,binE,binI,unE,convE,okNil,builtE,gv,TD.isAgg,resV,↓reduceIte,Nat.reduceEqDiff,reduceCtorEq,Nat.reduceAdd,Nat.reduceMul,Nat.reduceLeDiff,quietOp,blindOp,Int.reduceEq,Int.reduceLT,Int.reduceLE,Nat.reduceLT,ti2,ti3,ti4,ti94,ti95,ti22,ti46,ti28,ti37,ti30,ti39,ti36,ti114,ti32,ti41, bne_self_eq_false, e1, builtE, hx1.len]
    refine (points_c n v k l x ll  H1 hb hres  hl hv1 hx1).mono ?_
    rintro u H2 ⟨up2, hf⟩
    have hu := hf.rd.one
    refine Holds.mp ?_
    try simp (disch := first | omega | (simp only [ints_length, List.length_replicate, List.length_set]; done) | (simp only [ints_length, List.length_replicate, List.length_set]; omega)) only [Sall,evalOp,init,binE,binI,unE,convE,okNil,builtE,gv,TD.isAgg,resV,↓reduceIte,Nat.reduceEqDiff,reduceCtorEq,Nat.reduceAdd,Nat.reduceMul,Nat.reduceLeDiff,quietOp,blindOp,Int.reduceEq,Int.reduceLT,Int.reduceLE,Nat.reduceLT,ti2,ti3,ti4,ti94,ti95,ti22,ti46,ti28,ti37,ti30,ti39,ti36,ti114,ti32,ti41, hu]
    refine ⟨u, rfl, up.trans up2 (by omega), ?_⟩
    rw [sumsF_length]
    exact hf.wide (by omega) (Nat.le_refl _)
  · have ec := codeS_no hok
    unfold ptsR
    rw [if_neg hok]
    try simp (disch := first | omega | (simp only [ints_length, List.length_replicate, List.length_set]; done) | (simp only [ints_length, List.length_replicate, List.length_set]; omega)) only [Sall,evalOp,init,binE,binI,unE,convE,okNil,builtE,gv,TD.isAgg,resV,↓reduceIte,Nat.reduceEqDiff,reduceCtorEq,Nat.reduceAdd,Nat.reduceMul,Nat.reduceLeDiff,quietOp,blindOp,Int.reduceEq,Int.reduceLT,Int.reduceLE,Nat.reduceLT,ti2,ti3,ti4,ti94,ti95,ti22,ti46,ti28,ti37,ti30,ti39,ti36,ti114,ti32,ti41, ec]
    exact ⟨_, rfl, up, fr_nil _ _ _ _⟩

theorem specSecondNumbers_c (q : Int) (v : Value) (k : Nat) (l : List Int) (x : Value) (ll : List (List Int)) (H : AH) (hv : Rd 14 H v k l) (hk : k ≤ 4294967296) (hx : Rd2 1 H x ll) (hl : ll.length ≤ 4294967296) (hl2 : ∀ y ∈ ll, y.length ≤ 4294967296) :
    ACalls Try.prog 54 [.agg #[.int .i64 q, v], x] H (fun r H' => ∃ u, r = .tuple #[u, .int .i64 (codeS q k l (resB q.toNat k l ll))] ∧ Up H.next H H' ∧ Fr 1 2 H.next H'.next H' u (sumR false q k l ll).length (sumR false q k l ll)) := by
  refine ACalls.wf (by kernel_rfl) fun hs => acalls_of_awp [.tmp 4, .tmp 5] Try.func54 (by kernel_rfl) rfl rfl (Nat.le_of_ble_eq_true rfl) (by kernel_rfl) ?_
  have hone := hv.one
  have up : Up H.next H (H.push ⟨30, true, [.int .i64 q, v]⟩) := (Up.refl _ H).push (Nat.le_refl _) _
  have e1 : (H.push ⟨30, true, [.int .i64 q, v]⟩).row H.next = some ⟨30, true, [.int .i64 q, v]⟩ := by rw [AH.push_row, if_pos rfl]
  have n1 : (H.push ⟨30, true, [.int .i64 q, v]⟩).next = H.next + 1 := rfl
  try simp (disch := first | omega | (simp only [ints_length, List.length_replicate, List.length_set]; done) | (simp only [ints_length, List.length_replicate, List.length_set]; omega)) only [Sall,evalOp,init,binE,binI,unE,convE,okNil,builtE,gv,TD.isAgg,resV,↓reduceIte,Nat.reduceEqDiff,reduceCtorEq,Nat.reduceAdd,Nat.reduceMul,Nat.reduceLeDiff,quietOp,blindOp,Int.reduceEq,Int.reduceLT,Int.reduceLE,Nat.reduceLT,ti2,ti3,ti4,ti94,ti95,ti22,ti46,ti28,ti37,ti30,ti39,ti36,ti114,ti32,ti41, hone]
  revert up e1 n1
  generalize H.push ⟨30, true, [.int .i64 q, v]⟩ = H1
  intro up e1 n1
  have hv1 := hv.same (up.le hs).row
  have hx1 := hx.same (up.le hs).row
  refine (l10Code_c q v k l x ll (.slice none 0 0) 0 [] H1 hv1 hk hx1 hl hl2 (fr_nil 0 0 0 _).rd (by omega)).to ?_
  rw [show (resB q.toNat k l ll && (List.range 0).all fun i => decide (0 ≤ ([] : List Int).getD i 0 ∧ ([] : List Int).getD i 0 ≤ q - 1)) = resB q.toNat k l ll from Bool.and_true _]
  by_cases hok : schedB q k l = true ∧ resB q.toNat k l ll = true
  · obtain ⟨hb, hres⟩ := hok
    obtain ⟨h2, _, _⟩ := schedB_at hb
    obtain ⟨n, rfl⟩ : ∃ n : Nat, q = n := ⟨q.toNat, by omega⟩
    unfold sumR
    rw [if_pos ⟨hb, hres⟩, codeS_yes hb hres]
    rw [Int.toNat_natCast] at hres ⊢
    try simp (disch := first | omega | (simp only [ints_length, List.length_replicate, List.length_set]; done) | (simp only [ints_length, List.length_replicate, List.length_set]; omega)) only [Sall,evalOp,init,binE,binI,unE,convE,okNil,builtE,gv,TD.isAgg,resV,↓reduceIte,Nat.reduceEqDiff,reduceCtorEq,Nat.reduceAdd,Nat.reduceMul,Nat.reduceLeDiff,quietOp,blindOp,Int.reduceEq,Int.reduceLT,Int.reduceLE,Nat.reduceLT,ti2,ti3,ti4,ti94,ti95,ti22,ti46,ti28,ti37,ti30,ti39,ti36,ti114,ti32,ti41, bne_self_eq_false, e1, builtE, hx1.len]
    refine (l10Sums_c n v k l x ll false H1 hb hres  hl hv1 hx1).mono ?_
    rintro u H2 ⟨up2, hf⟩
    have hu := hf.rd.one
    refine Holds.mp ?_
    try simp (disch := first | omega | (simp only [ints_length, List.length_replicate, List.length_set]; done) | (simp only [ints_length, List.length_replicate, List.length_set]; omega)) only [Sall,evalOp,init,binE,binI,unE,convE,okNil,builtE,gv,TD.isAgg,resV,↓reduceIte,Nat.reduceEqDiff,reduceCtorEq,Nat.reduceAdd,Nat.reduceMul,Nat.reduceLeDiff,quietOp,blindOp,Int.reduceEq,Int.reduceLT,Int.reduceLE,Nat.reduceLT,ti2,ti3,ti4,ti94,ti95,ti22,ti46,ti28,ti37,ti30,ti39,ti36,ti114,ti32,ti41, hu]
    refine ⟨u, rfl, up.trans up2 (by omega), ?_⟩
    rw [sumsF_length]
    exact hf.wide (by omega) (Nat.le_refl _)
  · have ec := codeS_no hok
    unfold sumR
    rw [if_neg hok]
    try simp (disch := first | omega | (simp only [ints_length, List.length_replicate, List.length_set]; done) | (simp only [ints_length, List.length_replicate, List.length_set]; omega)) only [Sall,evalOp,init,binE,binI,unE,convE,okNil,builtE,gv,TD.isAgg,resV,↓reduceIte,Nat.reduceEqDiff,reduceCtorEq,Nat.reduceAdd,Nat.reduceMul,Nat.reduceLeDiff,quietOp,blindOp,Int.reduceEq,Int.reduceLT,Int.reduceLE,Nat.reduceLT,ti2,ti3,ti4,ti94,ti95,ti22,ti46,ti28,ti37,ti30,ti39,ti36,ti114,ti32,ti41, ec]
    exact ⟨_, rfl, up, fr_nil _ _ _ _⟩

theorem SecondNumbers_c (q : Int) (v : Value) (k : Nat) (l : List Int) (x : Value) (ll : List (List Int)) (H : AH) (hv : Rd 14 H v k l) (hk : k ≤ 4294967296) (hx : Rd2 1 H x ll) (hl : ll.length ≤ 4294967296) (hl2 : ∀ y ∈ ll, y.length ≤ 4294967296) :
    ACalls Try.prog 55 [.agg #[.int .i64 q, v], x] H (fun r H' => ∃ u, r = .tuple #[u, .int .i64 (codeS q k l (resB q.toNat k l ll))] ∧ Up H.next H H' ∧ Fr 1 2 H.next H'.next H' u (sumR false q k l ll).length (sumR false q k l ll)) := by
  refine ACalls.wf (by kernel_rfl) fun hs => acalls_of_awp [.tmp 4, .tmp 5] Try.func55 (by kernel_rfl) rfl rfl (Nat.le_of_ble_eq_true rfl) (by kernel_rfl) ?_
  have hone := hv.one
  have up : Up H.next H (H.push ⟨30, true, [.int .i64 q, v]⟩) := (Up.refl _ H).push (Nat.le_refl _) _
  have e1 : (H.push ⟨30, true, [.int .i64 q, v]⟩).row H.next = some ⟨30, true, [.int .i64 q, v]⟩ := by rw [AH.push_row, if_pos rfl]
  have n1 : (H.push ⟨30, true, [.int .i64 q, v]⟩).next = H.next + 1 := rfl
  try simp (disch := first | omega | (simp only [ints_length, List.length_replicate, List.length_set]; done) | (simp only [ints_length, List.length_replicate, List.length_set]; omega)) only [Sall,evalOp,init,binE,binI,unE,convE,okNil,builtE,gv,TD.isAgg,resV,↓reduceIte,Nat.reduceEqDiff,reduceCtorEq,Nat.reduceAdd,Nat.reduceMul,Nat.reduceLeDiff,quietOp,blindOp,Int.reduceEq,Int.reduceLT,Int.reduceLE,Nat.reduceLT,ti2,ti3,ti4,ti94,ti95,ti22,ti46,ti28,ti37,ti30,ti39,ti36,ti114,ti32,ti41, hone]
  revert up e1 n1
  generalize H.push ⟨30, true, [.int .i64 q, v]⟩ = H1
  intro up e1 n1
  have hv1 := hv.same (up.le hs).row
  have hx1 := hx.same (up.le hs).row
  refine (resultsCode_c q v k l x ll 83 [] true H1 hv1 hk hx1 hl hl2 fun H' _ _ _ => always_c H').to ?_
  rw [Bool.and_true]
  by_cases hok : schedB q k l = true ∧ resB q.toNat k l ll = true
  · obtain ⟨hb, hres⟩ := hok
    obtain ⟨h2, _, _⟩ := schedB_at hb
    obtain ⟨n, rfl⟩ : ∃ n : Nat, q = n := ⟨q.toNat, by omega⟩
    unfold sumR
    rw [if_pos ⟨hb, hres⟩, codeS_yes hb hres]
    rw [Int.toNat_natCast] at hres ⊢
    try simp (disch := first | omega | (simp only [ints_length, List.length_replicate, List.length_set]; done) | (simp only [ints_length, List.length_replicate, List.length_set]; omega)) only [Sall,evalOp,init,binE,binI,unE,convE,okNil,builtE,gv,TD.isAgg,resV,↓reduceIte,Nat.reduceEqDiff,reduceCtorEq,Nat.reduceAdd,Nat.reduceMul,Nat.reduceLeDiff,quietOp,blindOp,Int.reduceEq,Int.reduceLT,Int.reduceLE,Nat.reduceLT,ti2,ti3,ti4,ti94,ti95,ti22,ti46,ti28,ti37,ti30,ti39,ti36,ti114,ti32,ti41, bne_self_eq_false, e1, builtE, hx1.len]
    refine (second_c n v k l x ll  H1 hb hres  hl hv1 hx1).mono ?_
    rintro u H2 ⟨up2, hf⟩
    have hu := hf.rd.one
    refine Holds.mp ?_
    try simp (disch := first | omega | (simp only [ints_length, List.length_replicate, List.length_set]; done) | (simp only [ints_length, List.length_replicate, List.length_set]; omega)) only [Sall,evalOp,init,binE,binI,unE,convE,okNil,builtE,gv,TD.isAgg,resV,↓reduceIte,Nat.reduceEqDiff,reduceCtorEq,Nat.reduceAdd,Nat.reduceMul,Nat.reduceLeDiff,quietOp,blindOp,Int.reduceEq,Int.reduceLT,Int.reduceLE,Nat.reduceLT,ti2,ti3,ti4,ti94,ti95,ti22,ti46,ti28,ti37,ti30,ti39,ti36,ti114,ti32,ti41, hu]
    refine ⟨u, rfl, up.trans up2 (by omega), ?_⟩
    rw [sumsF_length]
    rw [second_sum] at hf
    exact hf.wide (by omega) (Nat.le_refl _)
  · have ec := codeS_no hok
    unfold sumR
    rw [if_neg hok]
    try simp (disch := first | omega | (simp only [ints_length, List.length_replicate, List.length_set]; done) | (simp only [ints_length, List.length_replicate, List.length_set]; omega)) only [Sall,evalOp,init,binE,binI,unE,convE,okNil,builtE,gv,TD.isAgg,resV,↓reduceIte,Nat.reduceEqDiff,reduceCtorEq,Nat.reduceAdd,Nat.reduceMul,Nat.reduceLeDiff,quietOp,blindOp,Int.reduceEq,Int.reduceLT,Int.reduceLE,Nat.reduceLT,ti2,ti3,ti4,ti94,ti95,ti22,ti46,ti28,ti37,ti30,ti39,ti36,ti114,ti32,ti41, ec]
    exact ⟨_, rfl, up, fr_nil _ _ _ _⟩
end Go.Proofs.Ythabnjaapickiaa.A
