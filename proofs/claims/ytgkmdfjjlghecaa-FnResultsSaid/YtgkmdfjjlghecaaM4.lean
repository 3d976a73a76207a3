/- What laws call: sums of lists, and whether a list has a number. And what follows. -/
import Derived.Test.YtgkmdfjjlghecaaM3
section
set_option linter.unusedSimpArgs false
set_option linter.unusedVariables false
set_option maxRecDepth 100000
set_option maxHeartbeats 2000000
namespace Go.Proofs.Ytgkmdfjjlghecaa.A
open Go Go.Abs Go.RowKit

theorem take_sum (l : List Int) (j : Nat) (hj : j < l.length) : (l.take (j + 1)).sum = (l.take j).sum + l.getD j 0 := by
  have e : l.take (j + 1) = l.take j ++ [l[j]] := by rw [List.take_add_one, List.getElem?_eq_getElem hj]; rfl
  have e2 : l.getD j 0 = l[j] := by rw [List.getD_eq_getElem?_getD, List.getElem?_eq_getElem hj]; rfl
  rw [e, e2, List.sum_append, List.sum_cons, List.sum_nil, Int.add_zero]
theorem sum_bound {l : List Int} (hb : ∀ x, x ∈ l → 0 ≤ x ∧ x ≤ 1000000) : ∀ j, j ≤ l.length → 0 ≤ (l.take j).sum ∧ (l.take j).sum ≤ (j : Int) * 1000000
  | 0, _ => by simp
  | j + 1, h => by
    have ih := sum_bound hb j (by omega)
    rw [take_sum l j (by omega)]
    have h2 : l.getD j 0 ∈ l := by
      rw [List.getD_eq_getElem?_getD, List.getElem?_eq_getElem (by omega)]
      exact List.getElem_mem _
    have := hb _ h2
    omega

theorem sum_c (v : Value) (n : Nat) (l : List Int) (H : AH) (hn : n ≤ 1000) (hv : Rd 1 H v n l) (hb : ∀ x, x ∈ l → 0 ≤ x ∧ x ≤ 1000000) : ACalls Try.prog 51 [v] H (is (.int .i64 l.sum) H) := by
  refine acalls_of_awp [.tmp 2] Try.func51 (by kernel_rfl) rfl rfl (Nat.le_of_ble_eq_true rfl) (by kernel_rfl) ?_
  have hln := hv.len
  have hl := hv.lenK1
  try simp (disch := first | omega | (simp only [ints_length, List.length_replicate, List.length_set] <;> omega)) only [Sall,evalOp,init,binE,binI,unE,convE,okNil,builtE,gv,TD.isAgg,resV,↓reduceIte,Nat.reduceEqDiff,reduceCtorEq,Nat.reduceAdd,Nat.reduceMul,Nat.reduceLeDiff,quietOp,blindOp,Int.reduceEq,Int.reduceLT,Int.reduceLE,Nat.reduceLT,tiA,tiXA, true_and]
  refine awp_loop (fun z t H' => H' = H ∧ ∃ j : Nat, z = n - j ∧ j ≤ n ∧ t 4 = .int .i64 j ∧ t 3 = .int .i64 (l.take j).sum ∧ t 0 = v) n ?_ ?_
  · refine ⟨rfl, 0, by omega, by omega, ?_⟩
    try simp (disch := first | omega | (simp only [ints_length, List.length_replicate, List.length_set] <;> omega)) only [Sall,evalOp,init,binE,binI,unE,convE,okNil,builtE,gv,TD.isAgg,resV,↓reduceIte,Nat.reduceEqDiff,reduceCtorEq,Nat.reduceAdd,Nat.reduceMul,Nat.reduceLeDiff,quietOp,blindOp,Int.reduceEq,Int.reduceLT,Int.reduceLE,Nat.reduceLT,tiA,tiXA, Int.natCast_zero, List.take_zero, List.sum_nil]
  · rintro z t H' ⟨rfl, j, hz, hj, h4, h3, h0⟩
    try simp (disch := first | omega | (simp only [ints_length, List.length_replicate, List.length_set] <;> omega)) only [Sall,evalOp,init,binE,binI,unE,convE,okNil,builtE,gv,TD.isAgg,resV,↓reduceIte,Nat.reduceEqDiff,reduceCtorEq,Nat.reduceAdd,Nat.reduceMul,Nat.reduceLeDiff,quietOp,blindOp,Int.reduceEq,Int.reduceLT,Int.reduceLE,Nat.reduceLT,tiA,tiXA, h4, h0, hln, builtE]
    refine condC_dec (fun hh => ?_) (fun hh => ?_)
    · obtain ⟨ai, ao, au, ac, ar, rfl, a1, a2, a3, a4⟩ := hv.get (by omega)
      have a5 := a3 j (by omega)
      have hs := sum_bound hb j (by omega)
      have hs1 := sum_bound hb (j + 1) (by omega)
      have hst := take_sum l j (by omega)
      have ew : IntKind.i64.wrap ((l.take j).sum + l.getD j 0) = (l.take (j + 1)).sum := by
        rw [← hst]; exact w64 (by omega)
      try simp (disch := first | omega | (simp only [ints_length, List.length_replicate, List.length_set] <;> omega)) only [Sall,evalOp,init,binE,binI,unE,convE,okNil,builtE,gv,TD.isAgg,resV,↓reduceIte,Nat.reduceEqDiff,reduceCtorEq,Nat.reduceAdd,Nat.reduceMul,Nat.reduceLeDiff,quietOp,blindOp,Int.reduceEq,Int.reduceLT,Int.reduceLE,Nat.reduceLT,tiA,tiXA, h4, h3, h0, a1, a5, ew, w64]
      (repeat refine And.intro (by omega) ?_)
      try simp (disch := first | omega | (simp only [ints_length, List.length_replicate, List.length_set] <;> omega)) only [Sall,evalOp,init,binE,binI,unE,convE,okNil,builtE,gv,TD.isAgg,resV,↓reduceIte,Nat.reduceEqDiff,reduceCtorEq,Nat.reduceAdd,Nat.reduceMul,Nat.reduceLeDiff,quietOp,blindOp,Int.reduceEq,Int.reduceLT,Int.reduceLE,Nat.reduceLT,tiA,tiXA, h4, h3, h0, a1, a5, ew, w64]
      exact ⟨n - (j + 1), by omega, j + 1, rfl, by omega, rfl, rfl⟩
    · have e : l.take j = l := List.take_of_length_le (by omega)
      rw [e] at h3
      try simp (disch := first | omega | (simp only [ints_length, List.length_replicate, List.length_set] <;> omega)) only [Sall,evalOp,init,binE,binI,unE,convE,okNil,builtE,gv,TD.isAgg,resV,↓reduceIte,Nat.reduceEqDiff,reduceCtorEq,Nat.reduceAdd,Nat.reduceMul,Nat.reduceLeDiff,quietOp,blindOp,Int.reduceEq,Int.reduceLT,Int.reduceLE,Nat.reduceLT,tiA,tiXA, h3]
      exact ⟨rfl, rfl⟩

theorem hasInt_c (v : Value) (a : Int) (n : Nat) (l : List Int) (H : AH) (hn : n ≤ 4294967296) (hv : Rd 1 H v n l) : ACalls Try.prog 80 [v, .int .i64 a] H (is (.bool (decide (a ∈ l))) H) := by
  refine acalls_of_awp [.tmp 4] Try.func80 (by kernel_rfl) rfl rfl (Nat.le_of_ble_eq_true rfl) (by kernel_rfl) ?_
  have hln := hv.len
  have hl := hv.lenK1
  try simp (disch := first | omega | (simp only [ints_length, List.length_replicate, List.length_set] <;> omega)) only [Sall,evalOp,init,binE,binI,unE,convE,okNil,builtE,gv,TD.isAgg,resV,↓reduceIte,Nat.reduceEqDiff,reduceCtorEq,Nat.reduceAdd,Nat.reduceMul,Nat.reduceLeDiff,quietOp,blindOp,Int.reduceEq,Int.reduceLT,Int.reduceLE,Nat.reduceLT,tiA,tiXA, true_and]
  refine awp_loop (fun z t H' => H' = H ∧ ∃ j : Nat, z = n - j ∧ j ≤ n ∧ t 5 = .int .i64 j ∧ t 1 = .int .i64 a ∧ t 0 = v ∧ ∀ i, i < j → l.getD i 0 ≠ a) n ?_ ?_
  · refine ⟨rfl, 0, by omega, by omega, ?_⟩
    try simp (disch := first | omega | (simp only [ints_length, List.length_replicate, List.length_set] <;> omega)) only [Sall,evalOp,init,binE,binI,unE,convE,okNil,builtE,gv,TD.isAgg,resV,↓reduceIte,Nat.reduceEqDiff,reduceCtorEq,Nat.reduceAdd,Nat.reduceMul,Nat.reduceLeDiff,quietOp,blindOp,Int.reduceEq,Int.reduceLT,Int.reduceLE,Nat.reduceLT,tiA,tiXA, Int.natCast_zero]
    try exact fun i hi => by omega
  · rintro z t H' ⟨rfl, j, hz, hj, h5, h1, h0, hno⟩
    try simp (disch := first | omega | (simp only [ints_length, List.length_replicate, List.length_set] <;> omega)) only [Sall,evalOp,init,binE,binI,unE,convE,okNil,builtE,gv,TD.isAgg,resV,↓reduceIte,Nat.reduceEqDiff,reduceCtorEq,Nat.reduceAdd,Nat.reduceMul,Nat.reduceLeDiff,quietOp,blindOp,Int.reduceEq,Int.reduceLT,Int.reduceLE,Nat.reduceLT,tiA,tiXA, h5, h0, hln, builtE]
    refine condC_dec (fun hh => ?_) (fun hh => ?_)
    · obtain ⟨ai, ao, au, ac, ar, rfl, a1, a2, a3, a4⟩ := hv.get (by omega)
      have a5 := a3 j (by omega)
      by_cases c : l.getD j 0 = a
      · have e : (l.getD j 0 == a) = true := beq_iff_eq.2 c
        have hm : decide (a ∈ l) = true := decide_eq_true (by
          rw [← c, List.getD_eq_getElem?_getD, List.getElem?_eq_getElem (by omega)]
          exact List.getElem_mem _)
        try simp (disch := first | omega | (simp only [ints_length, List.length_replicate, List.length_set] <;> omega)) only [Sall,evalOp,init,binE,binI,unE,convE,okNil,builtE,gv,TD.isAgg,resV,↓reduceIte,Nat.reduceEqDiff,reduceCtorEq,Nat.reduceAdd,Nat.reduceMul,Nat.reduceLeDiff,quietOp,blindOp,Int.reduceEq,Int.reduceLT,Int.reduceLE,Nat.reduceLT,tiA,tiXA, h5, h1, h0, a1, a5, e, w64]
        (repeat refine And.intro (by omega) ?_)
        first | exact ⟨by rw [hm], rfl⟩ | exact ⟨by omega, by rw [hm], rfl⟩
      · have e : (l.getD j 0 == a) = false := beq_eq_false_iff_ne.2 c
        try simp (disch := first | omega | (simp only [ints_length, List.length_replicate, List.length_set] <;> omega)) only [Sall,evalOp,init,binE,binI,unE,convE,okNil,builtE,gv,TD.isAgg,resV,↓reduceIte,Nat.reduceEqDiff,reduceCtorEq,Nat.reduceAdd,Nat.reduceMul,Nat.reduceLeDiff,quietOp,blindOp,Int.reduceEq,Int.reduceLT,Int.reduceLE,Nat.reduceLT,tiA,tiXA, h5, h1, h0, a1, a5, e, w64]
        (repeat refine And.intro (by omega) ?_)
        try simp (disch := first | omega | (simp only [ints_length, List.length_replicate, List.length_set] <;> omega)) only [Sall,evalOp,init,binE,binI,unE,convE,okNil,builtE,gv,TD.isAgg,resV,↓reduceIte,Nat.reduceEqDiff,reduceCtorEq,Nat.reduceAdd,Nat.reduceMul,Nat.reduceLeDiff,quietOp,blindOp,Int.reduceEq,Int.reduceLT,Int.reduceLE,Nat.reduceLT,tiA,tiXA, h5, h1, h0, a1, a5, e, w64]
        exact ⟨n - (j + 1), by omega, j + 1, rfl, by omega, rfl, fun i hi => by
          by_cases h : i = j
          · rw [h]; exact c
          · exact hno i (by omega)⟩
    · have hm : decide (a ∈ l) = false := decide_eq_false (fun hm => by
        obtain ⟨i, hi, e⟩ := List.getElem_of_mem hm
        refine hno i (by omega) ?_
        rw [List.getD_eq_getElem?_getD, List.getElem?_eq_getElem hi]; exact e)
      try simp (disch := first | omega | (simp only [ints_length, List.length_replicate, List.length_set] <;> omega)) only [Sall,evalOp,init,binE,binI,unE,convE,okNil,builtE,gv,TD.isAgg,resV,↓reduceIte,Nat.reduceEqDiff,reduceCtorEq,Nat.reduceAdd,Nat.reduceMul,Nat.reduceLeDiff,quietOp,blindOp,Int.reduceEq,Int.reduceLT,Int.reduceLE,Nat.reduceLT,tiA,tiXA, true_and]
      exact ⟨by rw [hm], rfl⟩
end Go.Proofs.Ytgkmdfjjlghecaa.A
end

section
set_option linter.unusedSimpArgs false
set_option linter.unusedVariables false
set_option maxRecDepth 100000
namespace Go.Proofs.Ytgkmdfjjlghecaa.A
open Go Go.Abs Go.RowKit

theorem indexFuncI_c (g : FuncId) (cap : List Value) (p : Int → Bool) (v : Value) (k : Nat) (l : List Int) (H : AH) (hv : Rd 1 H v k l) (hk : k ≤ 4294967296)
    (hp : ∀ x : Int, ACalls Try.prog g (.int .i64 x :: cap) H (is (.bool (p x)) H)) :
    ACalls Try.prog 218 [v, .func (.func g) #[] cap.toArray] H (is (.int .i64 (firstI (fun i => p (l.getD i 0)) k)) H) := by
  refine acalls_of_awp [.tmp 4] Try.func218 (by kernel_rfl) rfl rfl (Nat.le_of_ble_eq_true rfl) (by kernel_rfl) ?_
  try simp (disch := first | omega | (simp only [ints_length, List.length_replicate] <;> omega)) only [Sall,evalOp,init,binE,binI,unE,convE,okNil,builtE,gv,TD.isAgg,resV,↓reduceIte,Nat.reduceEqDiff,reduceCtorEq,Nat.reduceAdd,Nat.reduceMul,Nat.reduceLeDiff,quietOp,blindOp,Int.reduceEq,Int.reduceLT,Int.reduceLE,Nat.reduceLT,tiA, builtE, hv.len]
  refine awp_loop (fun m t H' => ∃ a : Nat, m = k - a ∧ a ≤ k ∧ t 8 = .int .i64 a ∧ t 7 = .int .i64 k ∧ t 0 = v ∧ t 1 = .func (.func g) #[] cap.toArray ∧ H' = H ∧ (∀ x, x < a → p (l.getD x 0) = false)) k ?_ ?_
  · refine ⟨0, by omega, by omega, ?_⟩
    try simp (disch := first | omega | (simp only [ints_length, List.length_replicate] <;> omega)) only [Sall,evalOp,init,binE,binI,unE,convE,okNil,builtE,gv,TD.isAgg,resV,↓reduceIte,Nat.reduceEqDiff,reduceCtorEq,Nat.reduceAdd,Nat.reduceMul,Nat.reduceLeDiff,quietOp,blindOp,Int.reduceEq,Int.reduceLT,Int.reduceLE,Nat.reduceLT,tiA, Int.natCast_zero, Nat.not_lt_zero, false_implies]
  · rintro m t H' ⟨a, hm, h14, h8, h7, h0, h1, rfl, hall⟩
    try simp (disch := first | omega | (simp only [ints_length, List.length_replicate] <;> omega)) only [Sall,evalOp,init,binE,binI,unE,convE,okNil,builtE,gv,TD.isAgg,resV,↓reduceIte,Nat.reduceEqDiff,reduceCtorEq,Nat.reduceAdd,Nat.reduceMul,Nat.reduceLeDiff,quietOp,blindOp,Int.reduceEq,Int.reduceLT,Int.reduceLE,Nat.reduceLT,tiA, h8, h7]
    refine condC_dec (fun h => ?_) (fun h => ?_)
    · obtain ⟨i, o, u, c, r, rfl, hr, hc, hs1, hg⟩ := hv.get (by omega)
      try simp (disch := first | omega | (simp only [ints_length, List.length_replicate] <;> omega)) only [Sall,evalOp,init,binE,binI,unE,convE,okNil,builtE,gv,TD.isAgg,resV,↓reduceIte,Nat.reduceEqDiff,reduceCtorEq,Nat.reduceAdd,Nat.reduceMul,Nat.reduceLeDiff,quietOp,blindOp,Int.reduceEq,Int.reduceLT,Int.reduceLE,Nat.reduceLT,tiA, h8, h7, h0, h1, hr, hs1]
      refine ⟨⟨by omega, by omega⟩, (hp _).to ?_⟩
      cases hb : p (l.getD a 0) with
      | true =>
        try simp (disch := first | omega | (simp only [ints_length, List.length_replicate] <;> omega)) only [Sall,evalOp,init,binE,binI,unE,convE,okNil,builtE,gv,TD.isAgg,resV,↓reduceIte,Nat.reduceEqDiff,reduceCtorEq,Nat.reduceAdd,Nat.reduceMul,Nat.reduceLeDiff,quietOp,blindOp,Int.reduceEq,Int.reduceLT,Int.reduceLE,Nat.reduceLT,tiA, h8, h7, h0, h1, is]
        rw [firstI_at (p := fun i => p (l.getD i 0)) (by omega) hb hall]
      | false =>
        try simp (disch := first | omega | (simp only [ints_length, List.length_replicate] <;> omega)) only [Sall,evalOp,init,binE,binI,unE,convE,okNil,builtE,gv,TD.isAgg,resV,↓reduceIte,Nat.reduceEqDiff,reduceCtorEq,Nat.reduceAdd,Nat.reduceMul,Nat.reduceLeDiff,quietOp,blindOp,Int.reduceEq,Int.reduceLT,Int.reduceLE,Nat.reduceLT,tiA, h8, h7, h0, h1, w64]
        refine ⟨k - (a + 1), by omega, a + 1, rfl, by omega, by omega, fun x hx => ?_⟩
        by_cases e : x = a
        · rw [e]; exact hb
        · exact hall x (by omega)
    · try simp (disch := first | omega | (simp only [ints_length, List.length_replicate] <;> omega)) only [Sall,evalOp,init,binE,binI,unE,convE,okNil,builtE,gv,TD.isAgg,resV,↓reduceIte,Nat.reduceEqDiff,reduceCtorEq,Nat.reduceAdd,Nat.reduceMul,Nat.reduceLeDiff,quietOp,blindOp,Int.reduceEq,Int.reduceLT,Int.reduceLE,Nat.reduceLT,tiA, is]
      rw [firstI_none (p := fun i => p (l.getD i 0)) fun x hx => hall x (by omega)]

theorem containsFuncI_c (g : FuncId) (cap : List Value) (p : Int → Bool) (v : Value) (k : Nat) (l : List Int) (H : AH) (hv : Rd 1 H v k l) (hk : k ≤ 4294967296)
    (hp : ∀ x : Int, ACalls Try.prog g (.int .i64 x :: cap) H (is (.bool (p x)) H)) :
    ACalls Try.prog 194 [v, .func (.func g) #[] cap.toArray] H (is (.bool ((List.range k).any fun i => p (l.getD i 0))) H) := by
  refine acalls_of_awp [.tmp 4] Try.func194 (by kernel_rfl) rfl rfl (Nat.le_of_ble_eq_true rfl) (by kernel_rfl) ?_
  try simp (disch := first | omega | (simp only [ints_length, List.length_replicate] <;> omega)) only [Sall,evalOp,init,binE,binI,unE,convE,okNil,builtE,gv,TD.isAgg,resV,↓reduceIte,Nat.reduceEqDiff,reduceCtorEq,Nat.reduceAdd,Nat.reduceMul,Nat.reduceLeDiff,quietOp,blindOp,Int.reduceEq,Int.reduceLT,Int.reduceLE,Nat.reduceLT,tiA, true_and]
  refine (indexFuncI_c g cap p v k l H hv hk hp).to ?_
  try simp (disch := first | omega | (simp only [ints_length, List.length_replicate] <;> omega)) only [Sall,evalOp,init,binE,binI,unE,convE,okNil,builtE,gv,TD.isAgg,resV,↓reduceIte,Nat.reduceEqDiff,reduceCtorEq,Nat.reduceAdd,Nat.reduceMul,Nat.reduceLeDiff,quietOp,blindOp,Int.reduceEq,Int.reduceLT,Int.reduceLE,Nat.reduceLT,tiA, is, firstI_any]

theorem areResults1_c (x : Int) (H : AH) : ACalls Try.prog 204 [.int .i64 x] H (is (.bool (!decide (0 ≤ x ∧ x ≤ 2))) H) := by
  refine acalls_of_awp [.tmp 2] Try.func204 (by kernel_rfl) rfl rfl (Nat.le_of_ble_eq_true rfl) (by kernel_rfl) ?_
  try simp (disch := first | omega | (simp only [ints_length, List.length_replicate] <;> omega)) only [Sall,evalOp,init,binE,binI,unE,convE,okNil,builtE,gv,TD.isAgg,resV,↓reduceIte,Nat.reduceEqDiff,reduceCtorEq,Nat.reduceAdd,Nat.reduceMul,Nat.reduceLeDiff,quietOp,blindOp,Int.reduceEq,Int.reduceLT,Int.reduceLE,Nat.reduceLT,tiA, true_and]
  refine (between_c _ _ _ _).to ?_
  try simp (disch := first | omega | (simp only [ints_length, List.length_replicate] <;> omega)) only [Sall,evalOp,init,binE,binI,unE,convE,okNil,builtE,gv,TD.isAgg,resV,↓reduceIte,Nat.reduceEqDiff,reduceCtorEq,Nat.reduceAdd,Nat.reduceMul,Nat.reduceLeDiff,quietOp,blindOp,Int.reduceEq,Int.reduceLT,Int.reduceLE,Nat.reduceLT,tiA, is]

theorem areResults_c (n : Nat) (v : Value) (k : Nat) (l : List Int) (x : Value) (ll : List (List Int)) (H : AH) (hn : n ≤ 14) (hv : Rd 14 H v k l) (hk : k ≤ 4294967296) (hx : Rd2 1 H x ll) (hl : ll.length ≤ 4294967296) (hl2 : ∀ y ∈ ll, y.length ≤ 4294967296) :
    ACalls Try.prog 153 [.agg #[.int .i64 n, v], x] H (is (.bool (resB n k l ll)) H) := by
  refine ACalls.wf (by kernel_rfl) fun hs => acalls_up rfl (acalls_of_awp [.tmp 4] Try.func153 (by kernel_rfl) rfl rfl (Nat.le_of_ble_eq_true rfl) (by kernel_rfl) ?_)
  have up : Up H.next H (H.push ⟨32, true, [.int .i64 n, v]⟩) := (Up.refl _ H).push (Nat.le_refl _) _
  have e1 : (H.push ⟨32, true, [.int .i64 n, v]⟩).row H.next = some ⟨32, true, [.int .i64 n, v]⟩ := by rw [AH.push_row, if_pos rfl]
  have n1 : (H.push ⟨32, true, [.int .i64 n, v]⟩).next = H.next + 1 := rfl
  by_cases hlk : ll.length ≤ k
  · have hlk' : ¬ (k : Int) < (ll.length : Int) := by omega
    try simp (disch := first | omega | (simp only [ints_length, List.length_replicate] <;> omega)) only [Sall,evalOp,init,binE,binI,unE,convE,okNil,builtE,gv,TD.isAgg,resV,↓reduceIte,Nat.reduceEqDiff,reduceCtorEq,Nat.reduceAdd,Nat.reduceMul,Nat.reduceLeDiff,quietOp,blindOp,Int.reduceEq,Int.reduceLT,Int.reduceLE,Nat.reduceLT,tiA, builtE, hx.len, hv.len, hlk', decide_false]
    refine awp_loop (fun m t H' => ∃ a : Nat, m = ll.length - a ∧ a ≤ ll.length ∧ t 15 = .int .i64 a ∧ t 14 = .int .i64 ll.length ∧ t 13 = x ∧ t 2 = .pointer (some ⟨H.next, 0, none⟩) ∧ Up H.next H H' ∧ H.next < H'.next ∧ H'.row H.next = some ⟨32, true, [.int .i64 n, v]⟩ ∧ (∀ i, i < a → resAt n (rnd l i) (ll.getD i []) = true)) ll.length ?_ ?_
    · refine ⟨0, by omega, by omega, ?_⟩
      try simp (disch := first | omega | (simp only [ints_length, List.length_replicate] <;> omega)) only [Sall,evalOp,init,binE,binI,unE,convE,okNil,builtE,gv,TD.isAgg,resV,↓reduceIte,Nat.reduceEqDiff,reduceCtorEq,Nat.reduceAdd,Nat.reduceMul,Nat.reduceLeDiff,quietOp,blindOp,Int.reduceEq,Int.reduceLT,Int.reduceLE,Nat.reduceLT,tiA, Int.natCast_zero, Nat.not_lt_zero, false_implies]
      exact ⟨up, by omega⟩
    · rintro m t H' ⟨a, hm, h14, h15, h14', h13, h2, hup, hnx, hr1, hall⟩
      try simp (disch := first | omega | (simp only [ints_length, List.length_replicate] <;> omega)) only [Sall,evalOp,init,binE,binI,unE,convE,okNil,builtE,gv,TD.isAgg,resV,↓reduceIte,Nat.reduceEqDiff,reduceCtorEq,Nat.reduceAdd,Nat.reduceMul,Nat.reduceLeDiff,quietOp,blindOp,Int.reduceEq,Int.reduceLT,Int.reduceLE,Nat.reduceLT,tiA, h15, h14']
      refine condC_dec (fun h => ?_) (fun h => ?_)
      · have hx' : Rd2 1 H' x ll := hx.same fun i r hr => by have := hs i r hr; rw [hup.row i this, hr]
        have hv' : Rd 14 H' v k l := hv.same fun i r hr => by have := hs i r hr; rw [hup.row i this, hr]
        obtain ⟨i, o, u, c, r, y, my, rfl, hr, hy, hsx, hok⟩ := hx'.get (j := a) (by omega)
        obtain ⟨i', o', u', c', r', rfl, hr', hc', hs', hg'⟩ := hv'.get (by omega)
        have hml := hl2 _ (getD_mem (ll := ll) (a := a) (by omega))
        have hmm := hsx.lenK1
        try simp (disch := first | omega | (simp only [ints_length, List.length_replicate] <;> omega)) only [Sall,evalOp,init,binE,binI,unE,convE,okNil,builtE,gv,TD.isAgg,resV,↓reduceIte,Nat.reduceEqDiff,reduceCtorEq,Nat.reduceAdd,Nat.reduceMul,Nat.reduceLeDiff,quietOp,blindOp,Int.reduceEq,Int.reduceLT,Int.reduceLE,Nat.reduceLT,tiA, h15, h14', h13, h2, hr, hy, hok]
        refine ⟨by omega, ?_⟩
        refine draw_id (by kernel_rfl) (by kernel_rfl) ?_
        try simp (disch := first | omega | (simp only [ints_length, List.length_replicate] <;> omega)) only [Sall,evalOp,init,binE,binI,unE,convE,okNil,builtE,gv,TD.isAgg,resV,↓reduceIte,Nat.reduceEqDiff,reduceCtorEq,Nat.reduceAdd,Nat.reduceMul,Nat.reduceLeDiff,quietOp,blindOp,Int.reduceEq,Int.reduceLT,Int.reduceLE,Nat.reduceLT,tiA, builtE, hsx.len, h15, h2, hr1, hr', hg']
        have hrl : (rnd l a).length = 14 := rnd_length l a k hv.1 (by omega)
        refine ⟨⟨by omega, by omega⟩, by omega, ACalls.wf (by kernel_rfl) fun hs1 => (pairs_c n (rnd l a) hrl hn H').mono ?_⟩
        rintro p H3 ⟨up3, hp⟩
        have hpl := hp.rd.len
        refine ⟨.inr (.inr (up3.le hs1)), ?_⟩
        have hsx3 : Rd 1 H3 y my (ll.getD a []) := hsx.same (up3.le hs1).row
        have hr3 : H3.row H.next = some ⟨32, true, [.int .i64 n, .slice (some ⟨i', o', u'⟩) k c']⟩ := by rw [up3.row _ hnx, hr1]
        have n3 := up3.next
        refine Holds.mp ?_
        by_cases hq : my = (pairsL (rnd l a) n).length
        · have e2 : ((my : Int) != ((pairsL (rnd l a) n).length : Int)) = false := by rw [hq]; exact bne_self_eq_false _
          try simp (disch := first | omega | (simp only [ints_length, List.length_replicate] <;> omega)) only [Sall,evalOp,init,binE,binI,unE,convE,okNil,builtE,gv,TD.isAgg,resV,↓reduceIte,Nat.reduceEqDiff,reduceCtorEq,Nat.reduceAdd,Nat.reduceMul,Nat.reduceLeDiff,quietOp,blindOp,Int.reduceEq,Int.reduceLT,Int.reduceLE,Nat.reduceLT,tiA, builtE, hpl, e2, h15, h2]
          refine (containsFuncI_c 204 [] (fun z => !decide (0 ≤ z ∧ z ≤ 2)) y my _ H3 hsx3 (by omega) (fun z => areResults1_c z H3)).to ?_
          cases hb : (List.range my).any fun j => !decide (0 ≤ (ll.getD a []).getD j 0 ∧ (ll.getD a []).getD j 0 ≤ 2) with
          | true =>
            try simp (disch := first | omega | (simp only [ints_length, List.length_replicate] <;> omega)) only [Sall,evalOp,init,binE,binI,unE,convE,okNil,builtE,gv,TD.isAgg,resV,↓reduceIte,Nat.reduceEqDiff,reduceCtorEq,Nat.reduceAdd,Nat.reduceMul,Nat.reduceLeDiff,quietOp,blindOp,Int.reduceEq,Int.reduceLT,Int.reduceLE,Nat.reduceLT,tiA, true_and]
            refine ⟨.inr (.inr (LE.refl _)), ?_⟩
            rw [resB_bad (i := a) (by omega) (by rw [resAt_any, ← hmm, hb]; simp)]
            exact ⟨rfl, by have := hup.next; omega, fun i hi => by rw [up3.row i (by omega), hup.row i hi]⟩
          | false =>
            try simp (disch := first | omega | (simp only [ints_length, List.length_replicate] <;> omega)) only [Sall,evalOp,init,binE,binI,unE,convE,okNil,builtE,gv,TD.isAgg,resV,↓reduceIte,Nat.reduceEqDiff,reduceCtorEq,Nat.reduceAdd,Nat.reduceMul,Nat.reduceLeDiff,quietOp,blindOp,Int.reduceEq,Int.reduceLT,Int.reduceLE,Nat.reduceLT,tiA, h15, h14', h13, h2, w64]
            refine ⟨.inr (.inr (LE.refl _)), ll.length - (a + 1), by omega, a + 1, rfl, by omega, by omega, ⟨by have := hup.next; omega, fun i hi => by rw [up3.row i (by omega), hup.row i hi]⟩, by omega, hr3, fun i hi => ?_⟩
            by_cases e : i = a
            · rw [e, resAt_any, ← hmm, hb, hq]; simp
            · exact hall i (by omega)
        · have e2 : ((my : Int) != ((pairsL (rnd l a) n).length : Int)) = true := by rw [bne_iff_ne]; omega
          have e3 : resAt n (rnd l a) (ll.getD a []) = false := by
            unfold resAt
            rw [← hmm, show (my == (pairsL (rnd l a) n).length) = false by simpa using hq, Bool.false_and]
          try simp (disch := first | omega | (simp only [ints_length, List.length_replicate] <;> omega)) only [Sall,evalOp,init,binE,binI,unE,convE,okNil,builtE,gv,TD.isAgg,resV,↓reduceIte,Nat.reduceEqDiff,reduceCtorEq,Nat.reduceAdd,Nat.reduceMul,Nat.reduceLeDiff,quietOp,blindOp,Int.reduceEq,Int.reduceLT,Int.reduceLE,Nat.reduceLT,tiA, builtE, hpl, e2, h15, h2]
          rw [resB_bad (i := a) (by omega) e3]
          exact ⟨rfl, by have := hup.next; omega, fun i hi => by rw [up3.row i (by omega), hup.row i hi]⟩
      · try simp (disch := first | omega | (simp only [ints_length, List.length_replicate] <;> omega)) only [Sall,evalOp,init,binE,binI,unE,convE,okNil,builtE,gv,TD.isAgg,resV,↓reduceIte,Nat.reduceEqDiff,reduceCtorEq,Nat.reduceAdd,Nat.reduceMul,Nat.reduceLeDiff,quietOp,blindOp,Int.reduceEq,Int.reduceLT,Int.reduceLE,Nat.reduceLT,tiA, true_and]
        rw [resB_good hlk fun i hi => hall i (by omega)]
        exact ⟨rfl, hup⟩
  · have hlk' : (k : Int) < (ll.length : Int) := by omega
    try simp (disch := first | omega | (simp only [ints_length, List.length_replicate] <;> omega)) only [Sall,evalOp,init,binE,binI,unE,convE,okNil,builtE,gv,TD.isAgg,resV,↓reduceIte,Nat.reduceEqDiff,reduceCtorEq,Nat.reduceAdd,Nat.reduceMul,Nat.reduceLeDiff,quietOp,blindOp,Int.reduceEq,Int.reduceLT,Int.reduceLE,Nat.reduceLT,tiA, builtE, hx.len, hv.len, hlk', decide_true]
    unfold resB
    simp only [hlk, decide_false, Bool.false_and, true_and]
    exact up
end Go.Proofs.Ytgkmdfjjlghecaa.A
end

section
set_option linter.unusedSimpArgs false
set_option linter.unusedVariables false
set_option maxRecDepth 100000
namespace Go.Proofs.Ytgkmdfjjlghecaa.A
open Go Go.Abs Go.RowKit

theorem l10Is_c (n : Nat) (v : Value) (k : Nat) (l : List Int) (x : Value) (ll : List (List Int)) (H : AH) (hn : n ≤ 14) (hv : Rd 14 H v k l) (hk : k ≤ 4294967296) (hx : Rd2 1 H x ll) (hl : ll.length ≤ 4294967296) (hl2 : ∀ y ∈ ll, y.length ≤ 4294967296) :
    ACalls Try.prog 155 [.agg #[.int .i64 n, v], x] H (is (.bool (resB n k l ll)) H) := by
  refine ACalls.wf (by kernel_rfl) fun hs => acalls_up rfl (acalls_of_awp [.tmp 4] Try.func155 (by kernel_rfl) rfl rfl (Nat.le_of_ble_eq_true rfl) (by kernel_rfl) ?_)
  have up : Up H.next H (H.push ⟨32, true, [.int .i64 n, v]⟩) := (Up.refl _ H).push (Nat.le_refl _) _
  have n1 : (H.push ⟨32, true, [.int .i64 n, v]⟩).next = H.next + 1 := rfl
  by_cases hlk : ll.length ≤ k
  · have hlk' : ¬ (k : Int) < (ll.length : Int) := by omega
    try simp (disch := first | omega | (simp only [ints_length, List.length_replicate] <;> omega)) only [Sall,evalOp,init,binE,binI,unE,convE,okNil,builtE,gv,TD.isAgg,resV,↓reduceIte,Nat.reduceEqDiff,reduceCtorEq,Nat.reduceAdd,Nat.reduceMul,Nat.reduceLeDiff,quietOp,blindOp,Int.reduceEq,Int.reduceLT,Int.reduceLE,Nat.reduceLT,tiA, builtE, hx.len, hv.len, hlk', decide_false]
    refine awp_loop (fun m t H' => ∃ a : Nat, m = ll.length - a ∧ a ≤ ll.length ∧ t 5 = .int .i64 a ∧ t 1 = x ∧ t 2 = .pointer (some ⟨H.next, 0, none⟩) ∧ Up H.next H H' ∧ H.next < H'.next ∧ H'.row H.next = some ⟨32, true, [.int .i64 n, v]⟩ ∧ (∀ i, i < a → resAt n (rnd l i) (ll.getD i []) = true)) ll.length ?_ ?_
    · refine ⟨0, by omega, by omega, ?_⟩
      try simp (disch := first | omega | (simp only [ints_length, List.length_replicate] <;> omega)) only [Sall,evalOp,init,binE,binI,unE,convE,okNil,builtE,gv,TD.isAgg,resV,↓reduceIte,Nat.reduceEqDiff,reduceCtorEq,Nat.reduceAdd,Nat.reduceMul,Nat.reduceLeDiff,quietOp,blindOp,Int.reduceEq,Int.reduceLT,Int.reduceLE,Nat.reduceLT,tiA, Int.natCast_zero, Nat.not_lt_zero, false_implies]
      exact ⟨up, by omega⟩
    · rintro m t H' ⟨a, hm, h14, h5, h1, h2, hup, hnx, hr1, hall⟩
      have hxl := hx.len
      try simp (disch := first | omega | (simp only [ints_length, List.length_replicate] <;> omega)) only [Sall,evalOp,init,binE,binI,unE,convE,okNil,builtE,gv,TD.isAgg,resV,↓reduceIte,Nat.reduceEqDiff,reduceCtorEq,Nat.reduceAdd,Nat.reduceMul,Nat.reduceLeDiff,quietOp,blindOp,Int.reduceEq,Int.reduceLT,Int.reduceLE,Nat.reduceLT,tiA, h5, h1, builtE, hx.len]
      refine condC_dec (fun h => ?_) (fun h => ?_)
      · have hx' : Rd2 1 H' x ll := hx.same fun i r hr => by have := hs i r hr; rw [hup.row i this, hr]
        have hv' : Rd 14 H' v k l := hv.same fun i r hr => by have := hs i r hr; rw [hup.row i this, hr]
        obtain ⟨i, o, u, c, r, y, my, rfl, hr, hy, hsx, hok⟩ := hx'.get (j := a) (by omega)
        obtain ⟨i', o', u', c', r', rfl, hr', hc', hs', hg'⟩ := hv'.get (by omega)
        have hml := hl2 _ (getD_mem (ll := ll) (a := a) (by omega))
        have hmm := hsx.lenK1
        have hlh := hup.next
        have hrl : (rnd l a).length = 14 := rnd_length l a k hv.1 (by omega)
        refine draw_id (by kernel_rfl) (by kernel_rfl) ?_
        try simp (disch := first | omega | (simp only [ints_length, List.length_replicate] <;> omega)) only [Sall,evalOp,init,binE,binI,unE,convE,okNil,builtE,gv,TD.isAgg,resV,↓reduceIte,Nat.reduceEqDiff,reduceCtorEq,Nat.reduceAdd,Nat.reduceMul,Nat.reduceLeDiff,quietOp,blindOp,Int.reduceEq,Int.reduceLT,Int.reduceLE,Nat.reduceLT,tiA, h5, h1, h2, hr, hy, hok, hsx.len, hr1, hr', hg', builtE]
        refine ⟨⟨by omega, by omega⟩, ⟨by omega, by omega⟩, by omega, ACalls.wf (by kernel_rfl) fun hs1 => (l01Pairs_c n (rnd l a) hrl hn H').mono ?_⟩
        rintro p H3 ⟨up3, hp⟩
        have hpl := hp.rd.len
        refine ⟨.inr (.inr (up3.le hs1)), ?_⟩
        have hsx3 : Rd 1 H3 y my (ll.getD a []) := hsx.same (up3.le hs1).row
        have hr3 : H3.row H.next = some ⟨32, true, [.int .i64 n, .slice (some ⟨i', o', u'⟩) k c']⟩ := by rw [up3.row _ hnx, hr1]
        have n3 := up3.next
        have hri : H3.row i = some r := (up3.le hs1).row _ _ hr
        refine Holds.mp ?_
        by_cases hq : my = (pairsL (rnd l a) n).length
        · have e2 : ((my : Int) != ((pairsL (rnd l a) n).length : Int)) = false := by rw [hq]; exact bne_self_eq_false _
          try simp (disch := first | omega | (simp only [ints_length, List.length_replicate] <;> omega)) only [Sall,evalOp,init,binE,binI,unE,convE,okNil,builtE,gv,TD.isAgg,resV,↓reduceIte,Nat.reduceEqDiff,reduceCtorEq,Nat.reduceAdd,Nat.reduceMul,Nat.reduceLeDiff,quietOp,blindOp,Int.reduceEq,Int.reduceLT,Int.reduceLE,Nat.reduceLT,tiA, builtE, hpl, e2]
          refine awp_loop (fun z t H' => ∃ b : Nat, z = my - b ∧ b ≤ my ∧ t 6 = .int .i64 b ∧ t 5 = .int .i64 a ∧ t 1 = .slice (some ⟨i, o, u⟩) ll.length c ∧ t 2 = .pointer (some ⟨H.next, 0, none⟩) ∧ H' = H3 ∧ (∀ j, j < b → (0 ≤ (ll.getD a []).getD j 0 ∧ (ll.getD a []).getD j 0 ≤ 2))) my ?_ ?_
          · refine ⟨0, by omega, by omega, ?_⟩
            try simp (disch := first | omega | (simp only [ints_length, List.length_replicate] <;> omega)) only [Sall,evalOp,init,binE,binI,unE,convE,okNil,builtE,gv,TD.isAgg,resV,↓reduceIte,Nat.reduceEqDiff,reduceCtorEq,Nat.reduceAdd,Nat.reduceMul,Nat.reduceLeDiff,quietOp,blindOp,Int.reduceEq,Int.reduceLT,Int.reduceLE,Nat.reduceLT,tiA, Int.natCast_zero, Nat.not_lt_zero, false_implies, h5, h1, h2]
          · rintro z t H4 ⟨b, hz, hb, h6, h5, h1, h2, rfl, hin⟩
            try simp (disch := first | omega | (simp only [ints_length, List.length_replicate] <;> omega)) only [Sall,evalOp,init,binE,binI,unE,convE,okNil,builtE,gv,TD.isAgg,resV,↓reduceIte,Nat.reduceEqDiff,reduceCtorEq,Nat.reduceAdd,Nat.reduceMul,Nat.reduceLeDiff,quietOp,blindOp,Int.reduceEq,Int.reduceLT,Int.reduceLE,Nat.reduceLT,tiA, h6, h5, h1, hri, hy, hok, builtE, hsx3.len]
            refine ⟨⟨by omega, by omega⟩, ?_⟩
            refine condC_dec (fun hh => ?_) (fun hh => ?_)
            · obtain ⟨i7, o7, u7, c7, r7, rfl, hr7, hc7, hs7, hg7⟩ := hsx3.get (by omega)
              have g1 := hs7 b (by omega)
              try simp (disch := first | omega | (simp only [ints_length, List.length_replicate] <;> omega)) only [Sall,evalOp,init,binE,binI,unE,convE,okNil,builtE,gv,TD.isAgg,resV,↓reduceIte,Nat.reduceEqDiff,reduceCtorEq,Nat.reduceAdd,Nat.reduceMul,Nat.reduceLeDiff,quietOp,blindOp,Int.reduceEq,Int.reduceLT,Int.reduceLE,Nat.reduceLT,tiA, h6, h5, h1, hri, hy, hok, hr7, g1]
              refine ⟨⟨by omega, by omega⟩, ⟨by omega, by omega⟩, (l01In_c _ _ _ _).to ?_⟩
              by_cases hin2 : 0 ≤ (ll.getD a []).getD b 0 ∧ (ll.getD a []).getD b 0 ≤ 2
              · try simp (disch := first | omega | (simp only [ints_length, List.length_replicate] <;> omega)) only [Sall,evalOp,init,binE,binI,unE,convE,okNil,builtE,gv,TD.isAgg,resV,↓reduceIte,Nat.reduceEqDiff,reduceCtorEq,Nat.reduceAdd,Nat.reduceMul,Nat.reduceLeDiff,quietOp,blindOp,Int.reduceEq,Int.reduceLT,Int.reduceLE,Nat.reduceLT,tiA, hin2, decide_true, Bool.not_true, h6, w64]
                refine ⟨my - (b + 1), by omega, b + 1, rfl, by omega, by omega, h5, h1, h2, fun j hj => ?_⟩
                by_cases e : j = b
                · rw [e]; exact hin2
                · exact hin j (by omega)
              · try simp (disch := first | omega | (simp only [ints_length, List.length_replicate] <;> omega)) only [Sall,evalOp,init,binE,binI,unE,convE,okNil,builtE,gv,TD.isAgg,resV,↓reduceIte,Nat.reduceEqDiff,reduceCtorEq,Nat.reduceAdd,Nat.reduceMul,Nat.reduceLeDiff,quietOp,blindOp,Int.reduceEq,Int.reduceLT,Int.reduceLE,Nat.reduceLT,tiA, hin2, decide_false, Bool.not_false]
                rw [resB_bad (i := a) (by omega) (by unfold resAt; rw [all_false_of (i := b) (by omega) (decide_eq_false hin2), Bool.and_false])]
                exact ⟨rfl, by omega, fun i hi => by rw [up3.row i (by omega), hup.row i hi]⟩
            · try simp (disch := first | omega | (simp only [ints_length, List.length_replicate] <;> omega)) only [Sall,evalOp,init,binE,binI,unE,convE,okNil,builtE,gv,TD.isAgg,resV,↓reduceIte,Nat.reduceEqDiff,reduceCtorEq,Nat.reduceAdd,Nat.reduceMul,Nat.reduceLeDiff,quietOp,blindOp,Int.reduceEq,Int.reduceLT,Int.reduceLE,Nat.reduceLT,tiA, h5, w64]
              refine ⟨ll.length - (a + 1), by omega, a + 1, rfl, by omega, by omega, h1, h2, ⟨by omega, fun i hi => by rw [up3.row i (by omega), hup.row i hi]⟩, by omega, hr3, fun i hi => ?_⟩
              by_cases e : i = a
              · rw [e]; unfold resAt
                rw [all_true_of (fun j hj => decide_eq_true (hin j (by omega))), Bool.and_true, ← hmm, hq]; simp
              · exact hall i (by omega)
        · have e2 : ((my : Int) != ((pairsL (rnd l a) n).length : Int)) = true := by rw [bne_iff_ne]; omega
          have e3 : resAt n (rnd l a) (ll.getD a []) = false := by
            unfold resAt
            rw [← hmm, show (my == (pairsL (rnd l a) n).length) = false by simpa using hq, Bool.false_and]
          try simp (disch := first | omega | (simp only [ints_length, List.length_replicate] <;> omega)) only [Sall,evalOp,init,binE,binI,unE,convE,okNil,builtE,gv,TD.isAgg,resV,↓reduceIte,Nat.reduceEqDiff,reduceCtorEq,Nat.reduceAdd,Nat.reduceMul,Nat.reduceLeDiff,quietOp,blindOp,Int.reduceEq,Int.reduceLT,Int.reduceLE,Nat.reduceLT,tiA, builtE, hpl, e2]
          rw [resB_bad (i := a) (by omega) e3]
          exact ⟨rfl, by omega, fun i hi => by rw [up3.row i (by omega), hup.row i hi]⟩
      · try simp (disch := first | omega | (simp only [ints_length, List.length_replicate] <;> omega)) only [Sall,evalOp,init,binE,binI,unE,convE,okNil,builtE,gv,TD.isAgg,resV,↓reduceIte,Nat.reduceEqDiff,reduceCtorEq,Nat.reduceAdd,Nat.reduceMul,Nat.reduceLeDiff,quietOp,blindOp,Int.reduceEq,Int.reduceLT,Int.reduceLE,Nat.reduceLT,tiA, true_and]
        rw [resB_good hlk fun i hi => hall i (by omega)]
        exact ⟨rfl, hup⟩
  · have hlk' : (k : Int) < (ll.length : Int) := by omega
    try simp (disch := first | omega | (simp only [ints_length, List.length_replicate] <;> omega)) only [Sall,evalOp,init,binE,binI,unE,convE,okNil,builtE,gv,TD.isAgg,resV,↓reduceIte,Nat.reduceEqDiff,reduceCtorEq,Nat.reduceAdd,Nat.reduceMul,Nat.reduceLeDiff,quietOp,blindOp,Int.reduceEq,Int.reduceLT,Int.reduceLE,Nat.reduceLT,tiA, builtE, hx.len, hv.len, hlk', decide_true]
    unfold resB
    simp only [hlk, decide_false, Bool.false_and, true_and]
    exact up

theorem always_c (H : AH) : ACalls Try.prog 92 [] H (is (.bool true) H) := by
  refine acalls_of_awp [.tmp 0] Try.func92 (by kernel_rfl) rfl rfl (Nat.le_of_ble_eq_true rfl) (by kernel_rfl) ?_
  try simp (disch := first | omega | (simp only [ints_length, List.length_replicate] <;> omega)) only [Sall,evalOp,init,binE,binI,unE,convE,okNil,builtE,gv,TD.isAgg,resV,↓reduceIte,Nat.reduceEqDiff,reduceCtorEq,Nat.reduceAdd,Nat.reduceMul,Nat.reduceLeDiff,quietOp,blindOp,Int.reduceEq,Int.reduceLT,Int.reduceLE,Nat.reduceLT,tiA, is]

def codeS (q : Int) (k : Nat) (l : List Int) (b : Bool) : Int := if schedB q k l = true then (if b = true then 0 else 2) else 1
theorem scheduleCode_c (q : Int) (v : Value) (k : Nat) (l : List Int) (g : FuncId) (cap : List Value) (b : Bool) (H : AH) (hv : Rd 14 H v k l) (hk : k ≤ 4294967296)
    (hg : ∀ H', Up H.next H H' → schedB q k l = true → ACalls Try.prog g cap H' (is (.bool b) H')) :
    ACalls Try.prog 152 [.agg #[.int .i64 q, v], .func (.func g) #[] cap.toArray] H (is (.int .i64 (codeS q k l b)) H) := by
  refine ACalls.wf (by kernel_rfl) fun hs => acalls_up rfl (acalls_of_awp [.tmp 4] Try.func152 (by kernel_rfl) rfl rfl (Nat.le_of_ble_eq_true rfl) (by kernel_rfl) ?_)
  have up : Up H.next H (H.push ⟨32, true, [.int .i64 q, v]⟩) := (Up.refl _ H).push (Nat.le_refl _) _
  have e1 : (H.push ⟨32, true, [.int .i64 q, v]⟩).row H.next = some ⟨32, true, [.int .i64 q, v]⟩ := by rw [AH.push_row, if_pos rfl]
  have hv1 := hv.same (up.le hs).row
  have hone := hv.one
  try simp (disch := first | omega | (simp only [ints_length, List.length_replicate] <;> omega)) only [Sall,evalOp,init,binE,binI,unE,convE,okNil,builtE,gv,TD.isAgg,resV,↓reduceIte,Nat.reduceEqDiff,reduceCtorEq,Nat.reduceAdd,Nat.reduceMul,Nat.reduceLeDiff,quietOp,blindOp,Int.reduceEq,Int.reduceLT,Int.reduceLE,Nat.reduceLT,tiA, true_and]
  refine (IsSchedule_c q v k l _ hv1 hk).to ?_
  unfold codeS
  by_cases hb : schedB q k l = true
  · try simp (disch := first | omega | (simp only [ints_length, List.length_replicate] <;> omega)) only [Sall,evalOp,init,binE,binI,unE,convE,okNil,builtE,gv,TD.isAgg,resV,↓reduceIte,Nat.reduceEqDiff,reduceCtorEq,Nat.reduceAdd,Nat.reduceMul,Nat.reduceLeDiff,quietOp,blindOp,Int.reduceEq,Int.reduceLT,Int.reduceLE,Nat.reduceLT,tiA, hb, Bool.not_true]
    refine (hg _ up hb).to ?_
    cases b with
    | true =>
      try simp (disch := first | omega | (simp only [ints_length, List.length_replicate] <;> omega)) only [Sall,evalOp,init,binE,binI,unE,convE,okNil,builtE,gv,TD.isAgg,resV,↓reduceIte,Nat.reduceEqDiff,reduceCtorEq,Nat.reduceAdd,Nat.reduceMul,Nat.reduceLeDiff,quietOp,blindOp,Int.reduceEq,Int.reduceLT,Int.reduceLE,Nat.reduceLT,tiA, Bool.not_true]
      rw [if_pos hb]
      exact ⟨rfl, up⟩
    | false =>
      try simp (disch := first | omega | (simp only [ints_length, List.length_replicate] <;> omega)) only [Sall,evalOp,init,binE,binI,unE,convE,okNil,builtE,gv,TD.isAgg,resV,↓reduceIte,Nat.reduceEqDiff,reduceCtorEq,Nat.reduceAdd,Nat.reduceMul,Nat.reduceLeDiff,quietOp,blindOp,Int.reduceEq,Int.reduceLT,Int.reduceLE,Nat.reduceLT,tiA, Bool.not_false]
      rw [if_pos hb]
      exact ⟨rfl, up⟩
  · have hb' : schedB q k l = false := by simpa using hb
    try simp (disch := first | omega | (simp only [ints_length, List.length_replicate] <;> omega)) only [Sall,evalOp,init,binE,binI,unE,convE,okNil,builtE,gv,TD.isAgg,resV,↓reduceIte,Nat.reduceEqDiff,reduceCtorEq,Nat.reduceAdd,Nat.reduceMul,Nat.reduceLeDiff,quietOp,blindOp,Int.reduceEq,Int.reduceLT,Int.reduceLE,Nat.reduceLT,tiA, hb', Bool.not_false]
    exact up

theorem specAreResults_c (q : Int) (v : Value) (k : Nat) (l : List Int) (x : Value) (ll : List (List Int)) (H : AH) (hv : Rd 14 H v k l) (hk : k ≤ 4294967296) (hx : Rd2 1 H x ll) (hl : ll.length ≤ 4294967296) (hl2 : ∀ y ∈ ll, y.length ≤ 4294967296) :
    ACalls Try.prog 79 [.agg #[.int .i64 q, v], x] H (is (.tuple #[.bool (schedB q k l && resB q.toNat k l ll), .int .i64 (codeS q k l true)]) H) := by
  refine ACalls.wf (by kernel_rfl) fun hs => acalls_up (by simp [flat, Abs.scal]) (acalls_of_awp [.tmp 4, .tmp 5] Try.func79 (by kernel_rfl) rfl rfl (Nat.le_of_ble_eq_true rfl) (by kernel_rfl) ?_)
  have up : Up H.next H (H.push ⟨32, true, [.int .i64 q, v]⟩) := (Up.refl _ H).push (Nat.le_refl _) _
  have hv1 := hv.same (up.le hs).row
  have hx1 := hx.same (up.le hs).row
  try simp (disch := first | omega | (simp only [ints_length, List.length_replicate] <;> omega)) only [Sall,evalOp,init,binE,binI,unE,convE,okNil,builtE,gv,TD.isAgg,resV,↓reduceIte,Nat.reduceEqDiff,reduceCtorEq,Nat.reduceAdd,Nat.reduceMul,Nat.reduceLeDiff,quietOp,blindOp,Int.reduceEq,Int.reduceLT,Int.reduceLE,Nat.reduceLT,tiA, true_and]
  refine (l01Is_c q v k l _ hv1 hk).to ?_
  unfold codeS
  by_cases hb : schedB q k l = true
  · obtain ⟨h2, _, _⟩ := schedB_at hb
    obtain ⟨n, rfl⟩ : ∃ n : Nat, q = n := ⟨q.toNat, by omega⟩
    try simp (disch := first | omega | (simp only [ints_length, List.length_replicate] <;> omega)) only [Sall,evalOp,init,binE,binI,unE,convE,okNil,builtE,gv,TD.isAgg,resV,↓reduceIte,Nat.reduceEqDiff,reduceCtorEq,Nat.reduceAdd,Nat.reduceMul,Nat.reduceLeDiff,quietOp,blindOp,Int.reduceEq,Int.reduceLT,Int.reduceLE,Nat.reduceLT,tiA, hb, Bool.not_true]
    refine (l10Is_c n v k l x ll _ (by omega) hv1 hk hx1 hl hl2).to ?_
    try simp (disch := first | omega | (simp only [ints_length, List.length_replicate] <;> omega)) only [Sall,evalOp,init,binE,binI,unE,convE,okNil,builtE,gv,TD.isAgg,resV,↓reduceIte,Nat.reduceEqDiff,reduceCtorEq,Nat.reduceAdd,Nat.reduceMul,Nat.reduceLeDiff,quietOp,blindOp,Int.reduceEq,Int.reduceLT,Int.reduceLE,Nat.reduceLT,tiA, Int.toNat_natCast, Bool.true_and]
    rw [hb]
    exact ⟨rfl, up⟩
  · have hb' : schedB q k l = false := by simpa using hb
    try simp (disch := first | omega | (simp only [ints_length, List.length_replicate] <;> omega)) only [Sall,evalOp,init,binE,binI,unE,convE,okNil,builtE,gv,TD.isAgg,resV,↓reduceIte,Nat.reduceEqDiff,reduceCtorEq,Nat.reduceAdd,Nat.reduceMul,Nat.reduceLeDiff,quietOp,blindOp,Int.reduceEq,Int.reduceLT,Int.reduceLE,Nat.reduceLT,tiA, hb', Bool.not_false, Bool.false_and]
    exact up

theorem AreResults_c (q : Int) (v : Value) (k : Nat) (l : List Int) (x : Value) (ll : List (List Int)) (H : AH) (hv : Rd 14 H v k l) (hk : k ≤ 4294967296) (hx : Rd2 1 H x ll) (hl : ll.length ≤ 4294967296) (hl2 : ∀ y ∈ ll, y.length ≤ 4294967296) :
    ACalls Try.prog 78 [.agg #[.int .i64 q, v], x] H (is (.tuple #[.bool (schedB q k l && resB q.toNat k l ll), .int .i64 (codeS q k l true)]) H) := by
  refine ACalls.wf (by kernel_rfl) fun hs => acalls_up (by simp [flat, Abs.scal]) (acalls_of_awp [.tmp 4, .tmp 5] Try.func78 (by kernel_rfl) rfl rfl (Nat.le_of_ble_eq_true rfl) (by kernel_rfl) ?_)
  have up : Up H.next H (H.push ⟨32, true, [.int .i64 q, v]⟩) := (Up.refl _ H).push (Nat.le_refl _) _
  have hv1 := hv.same (up.le hs).row
  have hx1 := hx.same (up.le hs).row
  try simp (disch := first | omega | (simp only [ints_length, List.length_replicate] <;> omega)) only [Sall,evalOp,init,binE,binI,unE,convE,okNil,builtE,gv,TD.isAgg,resV,↓reduceIte,Nat.reduceEqDiff,reduceCtorEq,Nat.reduceAdd,Nat.reduceMul,Nat.reduceLeDiff,quietOp,blindOp,Int.reduceEq,Int.reduceLT,Int.reduceLE,Nat.reduceLT,tiA, true_and]
  refine (scheduleCode_c q v k l 92 [] true _ hv1 hk fun H' _ _ => always_c H').to ?_
  unfold codeS
  by_cases hb : schedB q k l = true
  · obtain ⟨h2, _, _⟩ := schedB_at hb
    obtain ⟨n, rfl⟩ : ∃ n : Nat, q = n := ⟨q.toNat, by omega⟩
    try simp (disch := first | omega | (simp only [ints_length, List.length_replicate] <;> omega)) only [Sall,evalOp,init,binE,binI,unE,convE,okNil,builtE,gv,TD.isAgg,resV,↓reduceIte,Nat.reduceEqDiff,reduceCtorEq,Nat.reduceAdd,Nat.reduceMul,Nat.reduceLeDiff,quietOp,blindOp,Int.reduceEq,Int.reduceLT,Int.reduceLE,Nat.reduceLT,tiA, hb, bne_self_eq_false]
    refine (areResults_c n v k l x ll _ (by omega) hv1 hk hx1 hl hl2).to ?_
    try simp (disch := first | omega | (simp only [ints_length, List.length_replicate] <;> omega)) only [Sall,evalOp,init,binE,binI,unE,convE,okNil,builtE,gv,TD.isAgg,resV,↓reduceIte,Nat.reduceEqDiff,reduceCtorEq,Nat.reduceAdd,Nat.reduceMul,Nat.reduceLeDiff,quietOp,blindOp,Int.reduceEq,Int.reduceLT,Int.reduceLE,Nat.reduceLT,tiA, Int.toNat_natCast, Bool.true_and]
    rw [hb]
    exact ⟨rfl, up⟩
  · have hb' : schedB q k l = false := by simpa using hb
    have e0 : ((1 : Int) != 0) = true := rfl
    try simp (disch := first | omega | (simp only [ints_length, List.length_replicate] <;> omega)) only [Sall,evalOp,init,binE,binI,unE,convE,okNil,builtE,gv,TD.isAgg,resV,↓reduceIte,Nat.reduceEqDiff,reduceCtorEq,Nat.reduceAdd,Nat.reduceMul,Nat.reduceLeDiff,quietOp,blindOp,Int.reduceEq,Int.reduceLT,Int.reduceLE,Nat.reduceLT,tiA, hb', e0, Bool.false_and]
    exact up
end Go.Proofs.Ytgkmdfjjlghecaa.A
end

section
set_option linter.unusedSimpArgs false
set_option linter.unusedVariables false
set_option maxRecDepth 100000
namespace Go.Proofs.Ytgkmdfjjlghecaa.A
open Go Go.Abs Go.RowKit

theorem won_cases (z : Int) : ((z == 1) = true ∧ (z == 2) = false ∧ wonI z = 2) ∨ ((z == 1) = false ∧ (z == 2) = true ∧ wonI z = 0) ∨ ((z == 1) = false ∧ (z == 2) = false ∧ wonI z = 1) := by
  unfold wonI
  by_cases h1 : z = 1
  · subst h1; exact .inl ⟨rfl, rfl, rfl⟩
  · by_cases h2 : z = 2
    · subst h2; exact .inr (.inl ⟨rfl, rfl, rfl⟩)
    · exact .inr (.inr ⟨beq_eq_false_iff_ne.2 h1, beq_eq_false_iff_ne.2 h2, by rw [if_neg h1, if_neg h2]⟩)

theorem games_c (n : Nat) (v : Value) (k : Nat) (l : List Int) (x : Value) (ll : List (List Int)) (g : FuncId) (cap : List Value) (S : List Ev → AH → Prop) (B H : AH)
    (hb : schedB n k l = true) (hres : resB n k l ll = true) (S0 : S [] H) (hl : ll.length ≤ 4294967296)
    (hv : Rd 14 B v k l) (hx : Rd2 1 B x ll) (hSr : ∀ es H', S es H' → ∀ i r, B.row i = some r → H'.row i = some r)
    (hSt : ∀ es H1 H2, S es H1 → H1.next ≤ H2.next → (∀ i, i < H.next → H2.row i = H1.row i) → S es H2)
    (hstep : ∀ es (rd : Nat) (p q o : Int) H1, S es H1 → H.next ≤ H1.next → rd < ll.length → (0 ≤ p ∧ p < n) → (0 ≤ q ∧ q < n) → (0 ≤ o ∧ o ≤ 2) →
      ACalls Try.prog g (.int .i64 rd :: .int .i64 p :: .int .i64 q :: .int .i64 o :: cap) H1 (fun _ H2 => S (es ++ [(rd, p, q, o)]) H2 ∧ H1.next ≤ H2.next ∧ ∀ i, H.next ≤ i → i < H1.next → H2.row i = H1.row i)) :
    ACalls Try.prog 221 [.agg #[.int .i64 n, v], x, .func (.func g) #[] cap.toArray] H (fun _ H' => S (meets n l ll ll.length) H' ∧ H.next ≤ H'.next) := by
  refine acalls_of_awp [] Try.func221 (by kernel_rfl) rfl rfl (Nat.le_of_ble_eq_true rfl) (by kernel_rfl) ?_
  obtain ⟨hn, hk40, hrounds⟩ := schedB_at hb
  obtain ⟨hlk, hrs⟩ := resB_at hres
  have hone := hv.one
  have e1 : (H.push ⟨32, true, [.int .i64 n, v]⟩).row H.next = some ⟨32, true, [.int .i64 n, v]⟩ := by rw [AH.push_row, if_pos rfl]
  have n1 : (H.push ⟨32, true, [.int .i64 n, v]⟩).next = H.next + 1 := rfl
  have hx0 := hx
  try simp (disch := first | omega | (simp only [ints_length, List.length_replicate] <;> omega)) only [Sall,evalOp,init,binE,binI,unE,convE,okNil,builtE,gv,TD.isAgg,resV,↓reduceIte,Nat.reduceEqDiff,reduceCtorEq,Nat.reduceAdd,Nat.reduceMul,Nat.reduceLeDiff,quietOp,blindOp,Int.reduceEq,Int.reduceLT,Int.reduceLE,Nat.reduceLT,tiA, hone, builtE, hx0.len]
  refine awp_loop (fun m t H' => ∃ a : Nat, m = ll.length - a ∧ a ≤ ll.length ∧ t 13 = .int .i64 a ∧ t 12 = .int .i64 ll.length ∧ t 11 = x ∧ t 2 = .func (.func g) #[] cap.toArray ∧ t 3 = .pointer (some ⟨H.next, 0, none⟩) ∧ H.next < H'.next ∧ H'.row H.next = some ⟨32, true, [.int .i64 n, v]⟩ ∧ S (meets n l ll a) H') ll.length ?_ ?_
  · refine ⟨0, by omega, by omega, ?_⟩
    try simp (disch := first | omega | (simp only [ints_length, List.length_replicate] <;> omega)) only [Sall,evalOp,init,binE,binI,unE,convE,okNil,builtE,gv,TD.isAgg,resV,↓reduceIte,Nat.reduceEqDiff,reduceCtorEq,Nat.reduceAdd,Nat.reduceMul,Nat.reduceLeDiff,quietOp,blindOp,Int.reduceEq,Int.reduceLT,Int.reduceLE,Nat.reduceLT,tiA, Int.natCast_zero, meets_zero]
    exact ⟨by omega, hSt _ _ _ S0 (by omega) fun i hi => by rw [AH.push_row, if_neg (by omega)]⟩
  · rintro m t H' ⟨a, hm, h14, h13, h12, h11, h2, h3, hnx, hr1, hS⟩
    try simp (disch := first | omega | (simp only [ints_length, List.length_replicate] <;> omega)) only [Sall,evalOp,init,binE,binI,unE,convE,okNil,builtE,gv,TD.isAgg,resV,↓reduceIte,Nat.reduceEqDiff,reduceCtorEq,Nat.reduceAdd,Nat.reduceMul,Nat.reduceLeDiff,quietOp,blindOp,Int.reduceEq,Int.reduceLT,Int.reduceLE,Nat.reduceLT,tiA, h13, h12]
    refine condC_dec (fun h => ?_) (fun h => ?_)
    · obtain ⟨i, o, u, c, r, y, my, ex, hrB, hy, hsx, hok⟩ := hx.get (j := a) (by omega)
      obtain ⟨i', o', u', c', r', ev, hrB', hc', hs', hg'⟩ := hv.get (by omega)
      have hr := hSr _ _ hS _ _ hrB
      have hr' := hSr _ _ hS _ _ hrB'
      have hmm := hsx.lenK1
      obtain ⟨hlen, hvals⟩ := hrs a (by omega)
      have hrl : (rnd l a).length = 14 := rnd_length l a k hv.1 (by omega)
      try simp (disch := first | omega | (simp only [ints_length, List.length_replicate] <;> omega)) only [Sall,evalOp,init,binE,binI,unE,convE,okNil,builtE,gv,TD.isAgg,resV,↓reduceIte,Nat.reduceEqDiff,reduceCtorEq,Nat.reduceAdd,Nat.reduceMul,Nat.reduceLeDiff,quietOp,blindOp,Int.reduceEq,Int.reduceLT,Int.reduceLE,Nat.reduceLT,tiA, h13, h12, h11, ex, hr, hy, hok]
      refine ⟨⟨by omega, by omega⟩, ?_⟩
      refine draw_in [0, 1, 2, 3, 4, 5, 6, 9, 7, 8] (by kernel_rfl) (by kernel_rfl) rfl ?_
      try simp (disch := first | omega | (simp only [ints_length, List.length_replicate] <;> omega)) only [Sall,evalOp,init,binE,binI,unE,convE,okNil,builtE,gv,TD.isAgg,resV,↓reduceIte,Nat.reduceEqDiff,reduceCtorEq,Nat.reduceAdd,Nat.reduceMul,Nat.reduceLeDiff,quietOp,blindOp,Int.reduceEq,Int.reduceLT,Int.reduceLE,Nat.reduceLT,tiA, h3, hr1, ev, hr', hg', builtE]
      refine ⟨⟨by omega, by omega⟩, by omega, ACalls.wf (by kernel_rfl) fun hs1 => (pairs_c n (rnd l a) hrl (by omega) H').mono ?_⟩
      rintro p H3 ⟨up3, hp⟩
      have hpl := hp.rd.len
      refine ⟨.inr (.inr (up3.le hs1)), ?_⟩
      have n3 := up3.next
      have hr3 : H3.row H.next = some ⟨32, true, [.int .i64 n, .slice (some ⟨i', o', u'⟩) k c']⟩ := by rw [up3.row _ hnx, hr1, ev]
      have hS3 : S (meets n l ll a) H3 := hSt _ _ _ hS n3 fun i hi => up3.row i (by omega)
      have hplen := pairsL_le (rnd l a) n
      have hround := hrounds a (by omega)
      refine Holds.mp ?_
      try simp (disch := first | omega | (simp only [ints_length, List.length_replicate] <;> omega)) only [Sall,evalOp,init,binE,binI,unE,convE,okNil,builtE,gv,TD.isAgg,resV,↓reduceIte,Nat.reduceEqDiff,reduceCtorEq,Nat.reduceAdd,Nat.reduceMul,Nat.reduceLeDiff,quietOp,blindOp,Int.reduceEq,Int.reduceLT,Int.reduceLE,Nat.reduceLT,tiA, builtE, hpl, h13, h12, h11, h2, h3]
      refine awp_loop (fun z t H4 => ∃ b : Nat, z = (pairsL (rnd l a) n).length - b ∧ b ≤ (pairsL (rnd l a) n).length ∧ t 27 = .int .i64 b ∧ t 26 = .int .i64 (pairsL (rnd l a) n).length ∧ t 25 = p ∧ t 6 = .int .i64 a ∧ t 7 = y ∧ t 13 = .int .i64 a ∧ t 12 = .int .i64 ll.length ∧ t 11 = x ∧ t 2 = .func (.func g) #[] cap.toArray ∧ t 3 = .pointer (some ⟨H.next, 0, none⟩) ∧ H3.next ≤ H4.next ∧ H4.row H.next = some ⟨32, true, [.int .i64 n, v]⟩ ∧
          Fr2 1 38 2 H'.next H3.next H4 p (pairsL (rnd l a) n) ∧ S (meets n l ll a ++ evRound n a (rnd l a) (ll.getD a []) b) H4) (pairsL (rnd l a) n).length ?_ ?_
      · refine ⟨0, by omega, by omega, ?_⟩
        try simp (disch := first | omega | (simp only [ints_length, List.length_replicate] <;> omega)) only [Sall,evalOp,init,binE,binI,unE,convE,okNil,builtE,gv,TD.isAgg,resV,↓reduceIte,Nat.reduceEqDiff,reduceCtorEq,Nat.reduceAdd,Nat.reduceMul,Nat.reduceLeDiff,quietOp,blindOp,Int.reduceEq,Int.reduceLT,Int.reduceLE,Nat.reduceLT,tiA, Int.natCast_zero, evRound_zero, List.append_nil, h13, h12, h11, h2, h3, ex]
        exact ⟨hr3.trans (by rw [ev]), hp, hS3⟩
      · rintro z t H4 ⟨b, hz, hbp, h27, h26, h25, h6, h7, h13, h12, h11, h2, h3, hn4, hr4, hp4, hS4⟩
        try simp (disch := first | omega | (simp only [ints_length, List.length_replicate] <;> omega)) only [Sall,evalOp,init,binE,binI,unE,convE,okNil,builtE,gv,TD.isAgg,resV,↓reduceIte,Nat.reduceEqDiff,reduceCtorEq,Nat.reduceAdd,Nat.reduceMul,Nat.reduceLeDiff,quietOp,blindOp,Int.reduceEq,Int.reduceLT,Int.reduceLE,Nat.reduceLT,tiA, h27, h26]
        refine condC_dec (fun hh => ?_) (fun hh => ?_)
        · obtain ⟨pi, pvs, px, pm, pb, pc, rfl, q1, q2, q3, q4, q5, q6, q7, q8⟩ := hp4.getF (j := b) (by omega)
          have hpm := q8.lenK1
          obtain ⟨aa, ha1, ha2, ha3⟩ := pairsL_get (rnd l a) n b (by omega)
          obtain ⟨_, ha4, ha5, _⟩ := roundB_at hround (a := aa) (by omega)
          obtain ⟨i5, o5, u5, c5, r5, rfl, gB, g2, g3, _⟩ := hsx.get (by omega)
          have g1 := hSr _ _ hS4 _ _ gB
          have g4 := g3 b (by omega)
          rw [ha3] at q8 hpm
          simp only [List.length_cons, List.length_nil] at hpm
          obtain rfl : pm = 2 := hpm
          obtain ⟨i6, w1, w2, rfl, w3⟩ := q8.get (by omega)
          have evs0 : meets n l ll a ++ evRound n a (rnd l a) (ll.getD a []) (b + 1) = ((meets n l ll a ++ evRound n a (rnd l a) (ll.getD a []) b) ++ [(a, (aa : Int), (rnd l a).getD aa 0, wonI ((ll.getD a []).getD b 0))]) ++ [(a, (rnd l a).getD aa 0, (aa : Int), 2 - wonI ((ll.getD a []).getD b 0))] := by
            rw [evRound_succ, ha3]; simp [evPair]
          have i0 : (ints [(aa : Int), (rnd l a).getD aa 0])[Int.toNat 0]? = some (.int .i64 aa) := rfl
          have i1 : (ints [(aa : Int), (rnd l a).getD aa 0])[Int.toNat 1]? = some (.int .i64 ((rnd l a).getD aa 0)) := rfl
          have st1 := fun o (ho : 0 ≤ o ∧ o ≤ 2) => hstep _ a (aa : Int) ((rnd l a).getD aa 0) o H4 hS4 (by omega) (by omega) (by omega) (by omega) ho
          refine Holds.mp ?_
          rcases won_cases ((ll.getD a []).getD b 0) with ⟨f1, f2, fw⟩ | ⟨f1, f2, fw⟩ | ⟨f1, f2, fw⟩ <;> rw [fw] at evs0 <;> rw [holds_def]
          all_goals
            try simp (disch := first | omega | (simp only [ints_length, List.length_replicate] <;> omega)) only [Sall,evalOp,init,binE,binI,unE,convE,okNil,builtE,gv,TD.isAgg,resV,↓reduceIte,Nat.reduceEqDiff,reduceCtorEq,Nat.reduceAdd,Nat.reduceMul,Nat.reduceLeDiff,quietOp,blindOp,Int.reduceEq,Int.reduceLT,Int.reduceLE,Nat.reduceLT,tiA, h27, h26, h25, h6, h7, q3, q5, g1, g4, f1, f2]
            refine ⟨⟨by omega, by omega⟩, ⟨by omega, by omega⟩, ?_⟩
            refine draw_id (by kernel_rfl) (by kernel_rfl) ?_
            try simp (disch := first | omega | (simp only [ints_length, List.length_replicate] <;> omega)) only [Sall,evalOp,init,binE,binI,unE,convE,okNil,builtE,gv,TD.isAgg,resV,↓reduceIte,Nat.reduceEqDiff,reduceCtorEq,Nat.reduceAdd,Nat.reduceMul,Nat.reduceLeDiff,quietOp,blindOp,Int.reduceEq,Int.reduceLT,Int.reduceLE,Nat.reduceLT,tiA, h27, h6, h2, w3, i0, i1]
            refine ⟨by omega, by omega, (st1 _ (by omega)).mono ?_⟩
            rintro _ H5 ⟨hS5, n5, s5⟩
            refine ⟨.inr (.inl (by kernel_rfl)), ?_⟩
            have w5 : H5.row i6 = some ⟨2, true, ints [(aa : Int), (rnd l a).getD aa 0]⟩ := by rw [s5 _ (by omega) (by omega), w3]
            refine Holds.mp ?_
            try simp (disch := first | omega | (simp only [ints_length, List.length_replicate] <;> omega)) only [Sall,evalOp,init,binE,binI,unE,convE,okNil,builtE,gv,TD.isAgg,resV,↓reduceIte,Nat.reduceEqDiff,reduceCtorEq,Nat.reduceAdd,Nat.reduceMul,Nat.reduceLeDiff,quietOp,blindOp,Int.reduceEq,Int.reduceLT,Int.reduceLE,Nat.reduceLT,tiA, h27, h6, h2]
            refine draw_id (by kernel_rfl) (by kernel_rfl) ?_
            try simp (disch := first | omega | (simp only [ints_length, List.length_replicate] <;> omega)) only [Sall,evalOp,init,binE,binI,unE,convE,okNil,builtE,gv,TD.isAgg,resV,↓reduceIte,Nat.reduceEqDiff,reduceCtorEq,Nat.reduceAdd,Nat.reduceMul,Nat.reduceLeDiff,quietOp,blindOp,Int.reduceEq,Int.reduceLT,Int.reduceLE,Nat.reduceLT,tiA, h27, h6, h2, w5, i0, i1, w64]
            refine ⟨by omega, by omega, (hstep _ a ((rnd l a).getD aa 0) (aa : Int) _ H5 hS5 (by omega) (by omega) (by omega) (by omega) (by omega)).mono ?_⟩
            rintro _ H6 ⟨hS6, n6, s6⟩
            refine ⟨.inr (.inl (by kernel_rfl)), ?_⟩
            refine Holds.mp ?_
            try simp (disch := first | omega | (simp only [ints_length, List.length_replicate] <;> omega)) only [Sall,evalOp,init,binE,binI,unE,convE,okNil,builtE,gv,TD.isAgg,resV,↓reduceIte,Nat.reduceEqDiff,reduceCtorEq,Nat.reduceAdd,Nat.reduceMul,Nat.reduceLeDiff,quietOp,blindOp,Int.reduceEq,Int.reduceLT,Int.reduceLE,Nat.reduceLT,tiA, h27, h26, h6, h7, h13, h12, h11, h2, h3, w64]
            refine ⟨(pairsL (rnd l a) n).length - (b + 1), by omega, b + 1, rfl, by omega, by omega, h25, by omega, ?_, ?_, ?_⟩
            · rw [s6 _ (by omega) (by omega), s5 _ (by omega) (by omega), hr4]
            · exact hp4.same fun z hz1 hz2 => by rw [s6 _ (by omega) (by omega), s5 _ (by omega) (by omega)]
            · rw [evs0]; exact hS6
        · try simp (disch := first | omega | (simp only [ints_length, List.length_replicate] <;> omega)) only [Sall,evalOp,init,binE,binI,unE,convE,okNil,builtE,gv,TD.isAgg,resV,↓reduceIte,Nat.reduceEqDiff,reduceCtorEq,Nat.reduceAdd,Nat.reduceMul,Nat.reduceLeDiff,quietOp,blindOp,Int.reduceEq,Int.reduceLT,Int.reduceLE,Nat.reduceLT,tiA, h13, h12, h11, h2, h3, w64]
          have hbb : b = (pairsL (rnd l a) n).length := by omega
          refine ⟨ll.length - (a + 1), by omega, a + 1, rfl, by omega, by omega, by omega, hr4, ?_⟩
          rw [meets_succ, ← hbb]; exact hS4
    · try simp (disch := first | omega | (simp only [ints_length, List.length_replicate] <;> omega)) only [Sall,evalOp,init,binE,binI,unE,convE,okNil,builtE,gv,TD.isAgg,resV,↓reduceIte,Nat.reduceEqDiff,reduceCtorEq,Nat.reduceAdd,Nat.reduceMul,Nat.reduceLeDiff,quietOp,blindOp,Int.reduceEq,Int.reduceLT,Int.reduceLE,Nat.reduceLT,tiA, true_and]
      have ha : a = ll.length := by omega
      subst ha
      exact ⟨hS, by omega⟩
end Go.Proofs.Ytgkmdfjjlghecaa.A
end

section
set_option linter.unusedSimpArgs false
set_option linter.unusedVariables false
set_option maxRecDepth 100000
namespace Go.Proofs.Ytgkmdfjjlghecaa.A
open Go Go.Abs Go.RowKit

theorem zeros_int1 (n : Nat) : zeros n [.int .i64 0] = ints (List.replicate n 0) := by
  have h := zeros_ints n 1
  rw [Nat.mul_one] at h; exact h

theorem points1_c (b own : Int) (H : AH) : ACalls Try.prog 199 [.int .i64 b, .int .i64 own] H (is (.int .i64 own) H) := by
  refine acalls_of_awp [.tmp 4] Try.func199 (by kernel_rfl) rfl rfl (Nat.le_of_ble_eq_true rfl) (by kernel_rfl) ?_
  try simp (disch := first | omega | (simp only [ints_length, List.length_replicate] <;> omega)) only [Sall,evalOp,init,binE,binI,unE,convE,okNil,builtE,gv,TD.isAgg,resV,↓reduceIte,Nat.reduceEqDiff,reduceCtorEq,Nat.reduceAdd,Nat.reduceMul,Nat.reduceLeDiff,quietOp,blindOp,Int.reduceEq,Int.reduceLT,Int.reduceLE,Nat.reduceLT,tiA, is]

theorem second1_c (b own : Int) (pp : Nat) (pv : Value) (m : Nat) (pts : List Int) (H : AH) (hp : H.row pp = some ⟨38, true, [pv]⟩) (hv : Rd 1 H pv m pts) (hb : 0 ≤ b ∧ b < m) :
    ACalls Try.prog 201 [.int .i64 b, .int .i64 own, .pointer (some ⟨pp, 0, none⟩)] H (is (.int .i64 (pts.getD b.toNat 0)) H) := by
  refine acalls_of_awp [.tmp 5] Try.func201 (by kernel_rfl) rfl rfl (Nat.le_of_ble_eq_true rfl) (by kernel_rfl) ?_
  obtain ⟨i, o, u, c, r, rfl, hr, hc, hs, _⟩ := hv.get (by omega)
  have h1 := hs b.toNat (by omega)
  try simp (disch := first | omega | (simp only [ints_length, List.length_replicate] <;> omega)) only [Sall,evalOp,init,binE,binI,unE,convE,okNil,builtE,gv,TD.isAgg,resV,↓reduceIte,Nat.reduceEqDiff,reduceCtorEq,Nat.reduceAdd,Nat.reduceMul,Nat.reduceLeDiff,quietOp,blindOp,Int.reduceEq,Int.reduceLT,Int.reduceLE,Nat.reduceLT,tiA, hp, hr, h1, is]
  exact hb

theorem summed1_c (rd a b own z : Int) (g2 : FuncId) (cap2 : List Value) (oi fi i n : Nat) (outl : List Int) (H : AH) (ho : H.row oi = some ⟨38, true, [.slice (some ⟨i, 0, some 1⟩) n n]⟩)
    (hi : H.row i = some ⟨2, true, ints outl⟩) (hf : H.row fi = some ⟨172, true, [.func (.func g2) #[] cap2.toArray]⟩) (hl : outl.length = n) (ha : 0 ≤ a ∧ a < n)
    (hc : ACalls Try.prog g2 (.int .i64 b :: .int .i64 own :: cap2) H (is (.int .i64 z) H)) :
    ACalls Try.prog 222 [.int .i64 rd, .int .i64 a, .int .i64 b, .int .i64 own, .pointer (some ⟨oi, 0, none⟩), .pointer (some ⟨fi, 0, none⟩)] H (fun _ H' => H' = H.setCells i (ints (addAt outl a z))) := by
  refine acalls_of_awp [] Try.func222 (by kernel_rfl) rfl rfl (Nat.le_of_ble_eq_true rfl) (by kernel_rfl) ?_
  refine draw_id (by kernel_rfl) (by kernel_rfl) ?_
  have hc' : ACalls Try.prog g2 ([.int .i64 b, .int .i64 own] ++ cap2) H (is (.int .i64 z) H) := hc
  try simp (disch := first | omega | (simp only [ints_length, List.length_replicate] <;> omega)) only [Sall,evalOp,init,binE,binI,unE,convE,okNil,builtE,gv,TD.isAgg,resV,↓reduceIte,Nat.reduceEqDiff,reduceCtorEq,Nat.reduceAdd,Nat.reduceMul,Nat.reduceLeDiff,quietOp,blindOp,Int.reduceEq,Int.reduceLT,Int.reduceLE,Nat.reduceLT,tiA, ho, hi, hf, ints_get?]
  refine ⟨by omega, hc'.to ?_⟩
  refine ⟨.inr (.inr (LE.refl _)), ?_⟩
  try simp (disch := first | omega | (simp only [ints_length, List.length_replicate] <;> omega)) only [Sall,evalOp,init,binE,binI,unE,convE,okNil,builtE,gv,TD.isAgg,resV,↓reduceIte,Nat.reduceEqDiff,reduceCtorEq,Nat.reduceAdd,Nat.reduceMul,Nat.reduceLeDiff,quietOp,blindOp,Int.reduceEq,Int.reduceLT,Int.reduceLE,Nat.reduceLT,tiA, ho, hi, hf, ints_set]
  refine ⟨by omega, by omega, .inr (.inl (by kernel_rfl)), ?_⟩
  rfl

theorem summed_c (n : Nat) (v : Value) (k : Nat) (l : List Int) (x : Value) (ll : List (List Int)) (g : FuncId) (cap : List Value) (f : Int → Int → Int) (H : AH)
    (hb : schedB n k l = true) (hres : resB n k l ll = true) (hl : ll.length ≤ 4294967296) (hv : Rd 14 H v k l) (hx : Rd2 1 H x ll)
    (hc : ∀ (H' : AH) (b own : Int), Up H.next H H' → (0 ≤ b ∧ b < n) → (0 ≤ own ∧ own ≤ 2) → ACalls Try.prog g (.int .i64 b :: .int .i64 own :: cap) H' (is (.int .i64 (f b own)) H')) :
    ACalls Try.prog 198 [.agg #[.int .i64 n, v], x, .func (.func g) #[] cap.toArray] H (fun u H' => Up H.next H H' ∧ Fr 1 2 H.next H'.next H' u n (sumsF n f (meets n l ll ll.length))) := by
  refine ACalls.wf (by kernel_rfl) fun hs => acalls_of_awp [.tmp 6] Try.func198 (by kernel_rfl) rfl rfl (Nat.le_of_ble_eq_true rfl) (by kernel_rfl) ?_
  obtain ⟨hn, hk40, hrounds⟩ := schedB_at hb
  have hone := hv.one
  have ne0 : ¬ H.next = H.next + 1 + 2 := by omega
  try simp (disch := first | omega | (simp only [ints_length, List.length_replicate] <;> omega)) only [Sall,evalOp,init,binE,binI,unE,convE,okNil,builtE,gv,TD.isAgg,resV,↓reduceIte,Nat.reduceEqDiff,reduceCtorEq,Nat.reduceAdd,Nat.reduceMul,Nat.reduceLeDiff,quietOp,blindOp,Int.reduceEq,Int.reduceLT,Int.reduceLE,Nat.reduceLT,tiA, hone, zeros_int1, ne0]
  refine ⟨by omega, ?_⟩
  obtain ⟨Hg, eg⟩ : ∃ Hg, Hg = ((((H.push ⟨32, true, [.int .i64 n, v]⟩).push ⟨172, true, [.func (.func g) #[] cap.toArray]⟩).push ⟨2, true, ints (List.replicate n 0)⟩).push ⟨38, true, [.slice none 0 0]⟩).setCells (H.next + 1 + 2) [.slice (some ⟨H.next + 2, 0, some 1⟩) n n] := ⟨_, rfl⟩
  have up0 : Up H.next H Hg := by rw [eg]; exact (((((Up.refl _ H).push (by omega) _).push (by simp only [AH.push_next]; omega) _).push (by simp only [AH.push_next]; omega) _).push (by simp only [AH.push_next]; omega) _).set (by omega) _
  have ng : Hg.next = H.next + 4 := by rw [eg]; rfl
  have g0 : Hg.row H.next = some ⟨32, true, [.int .i64 n, v]⟩ := by rw [eg]; simp [AH.setCells_row, AH.push_row, AH.push_next] <;> (repeat rw [if_neg (by omega)])
  have g1 : Hg.row (H.next + 1) = some ⟨172, true, [.func (.func g) #[] cap.toArray]⟩ := by rw [eg]; simp [AH.setCells_row, AH.push_row, AH.push_next] <;> (repeat rw [if_neg (by omega)])
  have g2 : Hg.row (H.next + 2) = some ⟨2, true, ints (List.replicate n 0)⟩ := by rw [eg]; simp [AH.setCells_row, AH.push_row, AH.push_next] <;> (repeat rw [if_neg (by omega)])
  have g3 : Hg.row (H.next + 3) = some ⟨38, true, [.slice (some ⟨H.next + 2, 0, some 1⟩) n n]⟩ := by rw [eg]; simp [AH.setCells_row, AH.push_row, AH.push_next] <;> (repeat rw [if_neg (by omega)])
  rw [← eg]
  clear eg
  try simp (disch := first | omega | (simp only [ints_length, List.length_replicate] <;> omega)) only [Sall,evalOp,init,binE,binI,unE,convE,okNil,builtE,gv,TD.isAgg,resV,↓reduceIte,Nat.reduceEqDiff,reduceCtorEq,Nat.reduceAdd,Nat.reduceMul,Nat.reduceLeDiff,quietOp,blindOp,Int.reduceEq,Int.reduceLT,Int.reduceLE,Nat.reduceLT,tiA, g0, List.mem_cons, List.not_mem_nil, or_false, forall_eq_or_imp, forall_eq, Array.size_empty]
  refine (games_c n v k l x ll 222 [.pointer (some ⟨H.next + 3, 0, none⟩), .pointer (some ⟨H.next + 1, 0, none⟩)]
    (fun es H1 => Up H.next H H1 ∧ H.next + 4 ≤ H1.next ∧ H1.row (H.next + 1) = some ⟨172, true, [.func (.func g) #[] cap.toArray]⟩ ∧ H1.row (H.next + 2) = some ⟨2, true, ints (sumsF n f es)⟩ ∧ H1.row (H.next + 3) = some ⟨38, true, [.slice (some ⟨H.next + 2, 0, some 1⟩) n n]⟩)
    H Hg hb hres ⟨up0, by omega, g1, by rw [sumsF_nil]; exact g2, g3⟩ hl hv hx (fun es H' hS i r hr => by rw [hS.1.row i (hs _ _ hr), hr]) ?_ ?_).mono ?_
  · rintro es H1 H2 ⟨u1, m1, k1, k2, k3⟩ hn2 hr2
    exact ⟨⟨by have := u1.next; omega, fun i hi => by rw [hr2 i (by omega), u1.row i hi]⟩, by omega, by rw [hr2 _ (by omega), k1], by rw [hr2 _ (by omega), k2], by rw [hr2 _ (by omega), k3]⟩
  · rintro es rd p q o H1 ⟨u1, m1, k1, k2, k3⟩ hn1 hrd hp hq ho
    have hc1 := hc H1 q o u1 hq ho
    have hlen := sumsF_length n f es
    refine (summed1_c rd p q o _ g cap (H.next + 3) (H.next + 1) (H.next + 2) n _ H1 k3 k2 k1 hlen hp hc1).mono ?_
    rintro _ H2 rfl
    refine ⟨⟨u1.set (by omega) _, by rw [AH.setCells_next]; omega, ?_, ?_, ?_⟩, by rw [AH.setCells_next]; omega, fun i hi1 hi2 => ?_⟩
    · rw [AH.setCells_row, if_neg (by omega), k1]
    · rw [AH.setCells_row, if_pos rfl, k2, sumsF_append]; rfl
    · rw [AH.setCells_row, if_neg (by omega), k3]
    · rw [AH.setCells_row, if_neg (by omega)]
  · rintro _ H2 ⟨⟨u1, m1, k1, k2, k3⟩, hn2⟩
    refine Holds.mp ?_
    try simp (disch := first | omega | (simp only [ints_length, List.length_replicate] <;> omega)) only [Sall,evalOp,init,binE,binI,unE,convE,okNil,builtE,gv,TD.isAgg,resV,↓reduceIte,Nat.reduceEqDiff,reduceCtorEq,Nat.reduceAdd,Nat.reduceMul,Nat.reduceLeDiff,quietOp,blindOp,Int.reduceEq,Int.reduceLT,Int.reduceLE,Nat.reduceLT,tiA, k3]
    refine ⟨u1, sumsF_length n f _ |>.trans (Nat.mul_one n).symm, .inr ⟨H.next + 2, by omega, by omega, rfl, k2⟩⟩

theorem points_c (n : Nat) (v : Value) (k : Nat) (l : List Int) (x : Value) (ll : List (List Int)) (H : AH) (hb : schedB n k l = true) (hres : resB n k l ll = true) (hl : ll.length ≤ 4294967296) (hv : Rd 14 H v k l) (hx : Rd2 1 H x ll) :
    ACalls Try.prog 147 [.agg #[.int .i64 n, v], x] H (fun u H' => Up H.next H H' ∧ Fr 1 2 H.next H'.next H' u n (sumsF n (fun _ o => o) (meets n l ll ll.length))) := by
  refine ACalls.wf (by kernel_rfl) fun hs => acalls_of_awp [.tmp 4] Try.func147 (by kernel_rfl) rfl rfl (Nat.le_of_ble_eq_true rfl) (by kernel_rfl) ?_
  have hone := hv.one
  have up : Up H.next H (H.push ⟨32, true, [.int .i64 n, v]⟩) := (Up.refl _ H).push (Nat.le_refl _) _
  have hv1 := hv.same (up.le hs).row
  have hx1 := hx.same (up.le hs).row
  try simp (disch := first | omega | (simp only [ints_length, List.length_replicate] <;> omega)) only [Sall,evalOp,init,binE,binI,unE,convE,okNil,builtE,gv,TD.isAgg,resV,↓reduceIte,Nat.reduceEqDiff,reduceCtorEq,Nat.reduceAdd,Nat.reduceMul,Nat.reduceLeDiff,quietOp,blindOp,Int.reduceEq,Int.reduceLT,Int.reduceLE,Nat.reduceLT,tiA, hone]
  refine (summed_c n v k l x ll 199 [] (fun _ o => o) _ hb hres hl hv1 hx1 fun H' b own _ _ _ => points1_c b own H').mono ?_
  rintro u H' ⟨up2, hf⟩
  refine Holds.mp ?_
  try simp (disch := first | omega | (simp only [ints_length, List.length_replicate] <;> omega)) only [Sall,evalOp,init,binE,binI,unE,convE,okNil,builtE,gv,TD.isAgg,resV,↓reduceIte,Nat.reduceEqDiff,reduceCtorEq,Nat.reduceAdd,Nat.reduceMul,Nat.reduceLeDiff,quietOp,blindOp,Int.reduceEq,Int.reduceLT,Int.reduceLE,Nat.reduceLT,tiA, true_and]
  exact ⟨up.trans up2 (Nat.le_succ _), hf.wide (Nat.le_succ _) (Nat.le_refl _)⟩
end Go.Proofs.Ytgkmdfjjlghecaa.A
end

section
set_option linter.unusedSimpArgs false
set_option linter.unusedVariables false
set_option maxRecDepth 100000
namespace Go.Proofs.Ytgkmdfjjlghecaa.A
open Go Go.Abs Go.RowKit

theorem second_c (n : Nat) (v : Value) (k : Nat) (l : List Int) (x : Value) (ll : List (List Int)) (H : AH) (hb : schedB n k l = true) (hres : resB n k l ll = true) (hl : ll.length ≤ 4294967296) (hv : Rd 14 H v k l) (hx : Rd2 1 H x ll) :
    ACalls Try.prog 149 [.agg #[.int .i64 n, v], x] H (fun u H' => Up H.next H H' ∧ Fr 1 2 H.next H'.next H' u n (sumsF n (fun b _ => (sumsF n (fun _ o => o) (meets n l ll ll.length)).getD b.toNat 0) (meets n l ll ll.length))) := by
  refine ACalls.wf (by kernel_rfl) fun hs => acalls_of_awp [.tmp 4] Try.func149 (by kernel_rfl) rfl rfl (Nat.le_of_ble_eq_true rfl) (by kernel_rfl) ?_
  have hone := hv.one
  have up : Up H.next H (H.push ⟨32, true, [.int .i64 n, v]⟩) := (Up.refl _ H).push (Nat.le_refl _) _
  have e1 : (H.push ⟨32, true, [.int .i64 n, v]⟩).row H.next = some ⟨32, true, [.int .i64 n, v]⟩ := by rw [AH.push_row, if_pos rfl]
  have n1 : (H.push ⟨32, true, [.int .i64 n, v]⟩).next = H.next + 1 := rfl
  try simp (disch := first | omega | (simp only [ints_length, List.length_replicate] <;> omega)) only [Sall,evalOp,init,binE,binI,unE,convE,okNil,builtE,gv,TD.isAgg,resV,↓reduceIte,Nat.reduceEqDiff,reduceCtorEq,Nat.reduceAdd,Nat.reduceMul,Nat.reduceLeDiff,quietOp,blindOp,Int.reduceEq,Int.reduceLT,Int.reduceLE,Nat.reduceLT,tiA, hone]
  revert up e1 n1
  generalize H.push ⟨32, true, [.int .i64 n, v]⟩ = H1
  intro up e1 n1
  refine (points_c n v k l x ll H1 hb hres hl (hv.same (up.le hs).row) (hx.same (up.le hs).row)).mono ?_
  rintro u H2 ⟨up2, hf⟩
  have n2 := up2.next
  have u2 : Up H.next H H2 := up.trans up2 (by omega)
  have e2 : H2.row H.next = some ⟨32, true, [.int .i64 n, v]⟩ := by rw [up2.row _ (by omega), e1]
  have hu := hf.rd.one
  have ne : ¬ H.next = H2.next := by omega
  refine Holds.mp ?_
  try simp (disch := first | omega | (simp only [ints_length, List.length_replicate] <;> omega)) only [Sall,evalOp,init,binE,binI,unE,convE,okNil,builtE,gv,TD.isAgg,resV,↓reduceIte,Nat.reduceEqDiff,reduceCtorEq,Nat.reduceAdd,Nat.reduceMul,Nat.reduceLeDiff,quietOp,blindOp,Int.reduceEq,Int.reduceLT,Int.reduceLE,Nat.reduceLT,tiA, hone, hu, e2, ne, push_setCells, List.mem_cons, List.not_mem_nil, or_false, forall_eq_or_imp, forall_eq, Array.size_empty]
  obtain ⟨H3, e3⟩ : ∃ H3, H3 = H2.push ⟨38, true, [u]⟩ := ⟨_, rfl⟩
  have s3 : ∀ i, i < H2.next → H3.row i = H2.row i := fun i hi => by rw [e3, AH.push_row, if_neg (by omega)]
  have r3 : H3.row H2.next = some ⟨38, true, [u]⟩ := by rw [e3, AH.push_row, if_pos rfl]
  have n3 : H3.next = H2.next + 1 := by rw [e3]; rfl
  rw [← e3]
  clear e3
  have u3 : Up H.next H H3 := ⟨by have := u2.next; omega, fun i hi => by rw [s3 i (by omega), u2.row i hi]⟩
  have hf3 : Fr 1 2 H1.next H2.next H3 u n (sumsF n (fun _ o => o) (meets n l ll ll.length)) := hf.same fun i _ hi => s3 i hi
  refine (summed_c n v k l x ll 201 [.pointer (some ⟨H2.next, 0, none⟩)] (fun b _ => (sumsF n (fun _ o => o) (meets n l ll ll.length)).getD b.toNat 0) H3 hb hres hl (hv.same (u3.le hs).row) (hx.same (u3.le hs).row) ?_).mono ?_
  · intro H' b own up' hb' _
    exact second1_c b own H2.next u n _ H' (by rw [up'.row _ (by omega), r3]) (hf3.same (fun i _ hi => up'.row i (by omega))).rd hb'
  · rintro w H4 ⟨up4, hg⟩
    refine Holds.mp ?_
    try simp (disch := first | omega | (simp only [ints_length, List.length_replicate] <;> omega)) only [Sall,evalOp,init,binE,binI,unE,convE,okNil,builtE,gv,TD.isAgg,resV,↓reduceIte,Nat.reduceEqDiff,reduceCtorEq,Nat.reduceAdd,Nat.reduceMul,Nat.reduceLeDiff,quietOp,blindOp,Int.reduceEq,Int.reduceLT,Int.reduceLE,Nat.reduceLT,tiA, true_and]
    exact ⟨u3.trans up4 (by omega), hg.wide (by omega) (Nat.le_refl _)⟩

theorem resultsCode1_c (q : Int) (v : Value) (k : Nat) (l : List Int) (x : Value) (ll : List (List Int)) (g : FuncId) (cap : List Value) (b : Bool) (a0 a1 a2 : Nat) (H : AH) (hb : schedB q k l = true)
    (h0 : H.row a0 = some ⟨32, true, [.int .i64 q, v]⟩) (h1 : H.row a1 = some ⟨25, true, [x]⟩) (h2 : H.row a2 = some ⟨95, true, [.func (.func g) #[] cap.toArray]⟩)
    (hv : Rd 14 H v k l) (hk : k ≤ 4294967296) (hx : Rd2 1 H x ll) (hl : ll.length ≤ 4294967296) (hl2 : ∀ y ∈ ll, y.length ≤ 4294967296)
    (hg : resB q.toNat k l ll = true → ACalls Try.prog g cap H (is (.bool b) H)) :
    ACalls Try.prog 159 [.pointer (some ⟨a0, 0, none⟩), .pointer (some ⟨a1, 0, none⟩), .pointer (some ⟨a2, 0, none⟩)] H (is (.bool (resB q.toNat k l ll && b)) H) := by
  refine acalls_of_awp [.tmp 3] Try.func159 (by kernel_rfl) rfl rfl (Nat.le_of_ble_eq_true rfl) (by kernel_rfl) ?_
  have hone := hv.one
  have hx1 := hx.one
  obtain ⟨hn, _, _⟩ := schedB_at hb
  obtain ⟨n, rfl⟩ : ∃ n : Nat, q = n := ⟨q.toNat, by omega⟩
  rw [Int.toNat_natCast] at hg ⊢
  try simp (disch := first | omega | (simp only [ints_length, List.length_replicate] <;> omega)) only [Sall,evalOp,init,binE,binI,unE,convE,okNil,builtE,gv,TD.isAgg,resV,↓reduceIte,Nat.reduceEqDiff,reduceCtorEq,Nat.reduceAdd,Nat.reduceMul,Nat.reduceLeDiff,quietOp,blindOp,Int.reduceEq,Int.reduceLT,Int.reduceLE,Nat.reduceLT,tiA, h0, h1]
  refine (areResults_c n v k l x ll H (by omega) hv hk hx hl hl2).to ?_
  cases hr : resB n k l ll with
  | true =>
    have hg' := hg hr
    try simp (disch := first | omega | (simp only [ints_length, List.length_replicate] <;> omega)) only [Sall,evalOp,init,binE,binI,unE,convE,okNil,builtE,gv,TD.isAgg,resV,↓reduceIte,Nat.reduceEqDiff,reduceCtorEq,Nat.reduceAdd,Nat.reduceMul,Nat.reduceLeDiff,quietOp,blindOp,Int.reduceEq,Int.reduceLT,Int.reduceLE,Nat.reduceLT,tiA, h2]
    refine hg'.to ?_
    try simp (disch := first | omega | (simp only [ints_length, List.length_replicate] <;> omega)) only [Sall,evalOp,init,binE,binI,unE,convE,okNil,builtE,gv,TD.isAgg,resV,↓reduceIte,Nat.reduceEqDiff,reduceCtorEq,Nat.reduceAdd,Nat.reduceMul,Nat.reduceLeDiff,quietOp,blindOp,Int.reduceEq,Int.reduceLT,Int.reduceLE,Nat.reduceLT,tiA, is, Bool.true_and]
  | false =>
    try simp (disch := first | omega | (simp only [ints_length, List.length_replicate] <;> omega)) only [Sall,evalOp,init,binE,binI,unE,convE,okNil,builtE,gv,TD.isAgg,resV,↓reduceIte,Nat.reduceEqDiff,reduceCtorEq,Nat.reduceAdd,Nat.reduceMul,Nat.reduceLeDiff,quietOp,blindOp,Int.reduceEq,Int.reduceLT,Int.reduceLE,Nat.reduceLT,tiA, is, Bool.false_and]

theorem resultsCode_c (q : Int) (v : Value) (k : Nat) (l : List Int) (x : Value) (ll : List (List Int)) (g : FuncId) (cap : List Value) (b : Bool) (H : AH)
    (hv : Rd 14 H v k l) (hk : k ≤ 4294967296) (hx : Rd2 1 H x ll) (hl : ll.length ≤ 4294967296) (hl2 : ∀ y ∈ ll, y.length ≤ 4294967296)
    (hg : ∀ H', Up H.next H H' → schedB q k l = true → resB q.toNat k l ll = true → ACalls Try.prog g cap H' (is (.bool b) H')) :
    ACalls Try.prog 87 [.agg #[.int .i64 q, v], x, .func (.func g) #[] cap.toArray] H (is (.int .i64 (codeS q k l (resB q.toNat k l ll && b))) H) := by
  refine ACalls.wf (by kernel_rfl) fun hs => acalls_up rfl (acalls_of_awp [.tmp 6] Try.func87 (by kernel_rfl) rfl rfl (Nat.le_of_ble_eq_true rfl) (by kernel_rfl) ?_)
  have hone := hv.one
  have hx1 := hx.one
  have ne : ¬ H.next = H.next + 2 := by omega
  have ne1 : ¬ H.next = H.next + 1 + 1 := by omega
  try simp (disch := first | omega | (simp only [ints_length, List.length_replicate] <;> omega)) only [Sall,evalOp,init,binE,binI,unE,convE,okNil,builtE,gv,TD.isAgg,resV,↓reduceIte,Nat.reduceEqDiff,reduceCtorEq,Nat.reduceAdd,Nat.reduceMul,Nat.reduceLeDiff,quietOp,blindOp,Int.reduceEq,Int.reduceLT,Int.reduceLE,Nat.reduceLT,tiA, hone, asCells_one hx1, ne, ne1, List.mem_cons, List.not_mem_nil, or_false, forall_eq_or_imp, forall_eq, Array.size_empty]
  obtain ⟨Hg, eg⟩ : ∃ Hg, Hg = ((H.push ⟨32, true, [.int .i64 q, v]⟩).push ⟨25, true, [x]⟩).push ⟨95, true, [.func (.func g) #[] cap.toArray]⟩ := ⟨_, rfl⟩
  have up0 : Up H.next H Hg := by rw [eg]; exact (((Up.refl _ H).push (by omega) _).push (by simp only [AH.push_next]; omega) _).push (by simp only [AH.push_next]; omega) _
  have g0 : Hg.row H.next = some ⟨32, true, [.int .i64 q, v]⟩ := by rw [eg]; (simp [AH.setCells_row, AH.push_row, AH.push_next] <;> (try omega) <;> (repeat rw [if_neg (by omega)]))
  have g1 : Hg.row (H.next + 1) = some ⟨25, true, [x]⟩ := by rw [eg]; (simp [AH.setCells_row, AH.push_row, AH.push_next] <;> (try omega) <;> (repeat rw [if_neg (by omega)]))
  have g2 : Hg.row (H.next + 2) = some ⟨95, true, [.func (.func g) #[] cap.toArray]⟩ := by rw [eg]; (simp [AH.setCells_row, AH.push_row, AH.push_next] <;> (try omega) <;> (repeat rw [if_neg (by omega)]))
  have ng : Hg.next = H.next + 3 := by rw [eg]; rfl
  rw [← eg]
  clear eg
  refine (scheduleCode_c q v k l 159 [.pointer (some ⟨H.next, 0, none⟩), .pointer (some ⟨H.next + 1, 0, none⟩), .pointer (some ⟨H.next + 2, 0, none⟩)] (resB q.toNat k l ll && b) Hg (hv.same (up0.le hs).row) hk ?_).to ?_
  · intro H' up' hb'
    have u' : Up H.next H H' := up0.trans up' (by omega)
    exact resultsCode1_c q v k l x ll g cap b _ _ _ H' hb' (by rw [up'.row _ (by omega), g0]) (by rw [up'.row _ (by omega), g1]) (by rw [up'.row _ (by omega), g2]) (hv.same (u'.le hs).row) hk (hx.same (u'.le hs).row) hl hl2 (hg H' u' hb')
  · try simp (disch := first | omega | (simp only [ints_length, List.length_replicate] <;> omega)) only [Sall,evalOp,init,binE,binI,unE,convE,okNil,builtE,gv,TD.isAgg,resV,↓reduceIte,Nat.reduceEqDiff,reduceCtorEq,Nat.reduceAdd,Nat.reduceMul,Nat.reduceLeDiff,quietOp,blindOp,Int.reduceEq,Int.reduceLT,Int.reduceLE,Nat.reduceLT,tiA, true_and]
    exact up0

theorem l10Won_c (r : Int) (H : AH) : ACalls Try.prog 200 [.int .i64 r] H (is (.tuple #[.int .i64 (wonI r), .int .i64 (2 - wonI r)]) H) := by
  refine acalls_of_awp [.tmp 2, .tmp 3] Try.func200 (by kernel_rfl) rfl rfl (Nat.le_of_ble_eq_true rfl) (by kernel_rfl) ?_
  refine Holds.mp ?_
  rcases won_cases r with ⟨f1, f2, fw⟩ | ⟨f1, f2, fw⟩ | ⟨f1, f2, fw⟩ <;> rw [holds_def]
  all_goals
    try simp (disch := first | omega | (simp only [ints_length, List.length_replicate] <;> omega)) only [Sall,evalOp,init,binE,binI,unE,convE,okNil,builtE,gv,TD.isAgg,resV,↓reduceIte,Nat.reduceEqDiff,reduceCtorEq,Nat.reduceAdd,Nat.reduceMul,Nat.reduceLeDiff,quietOp,blindOp,Int.reduceEq,Int.reduceLT,Int.reduceLE,Nat.reduceLT,tiA, f1, f2, is]
    rw [fw]
    rfl

theorem l10Code_c (q : Int) (v : Value) (k : Nat) (l : List Int) (x : Value) (ll : List (List Int)) (tv : Value) (m : Nat) (ts : List Int) (H : AH)
    (hv : Rd 14 H v k l) (hk : k ≤ 4294967296) (hx : Rd2 1 H x ll) (hl : ll.length ≤ 4294967296) (hl2 : ∀ y ∈ ll, y.length ≤ 4294967296) (ht : Rd 1 H tv m ts) (hm : m ≤ 4294967296) :
    ACalls Try.prog 83 [.agg #[.int .i64 q, v], x, tv] H (is (.int .i64 (codeS q k l (resB q.toNat k l ll && (List.range m).all fun i => decide (0 ≤ ts.getD i 0 ∧ ts.getD i 0 ≤ q - 1)))) H) := by
  refine ACalls.wf (by kernel_rfl) fun hs => acalls_up rfl (acalls_of_awp [.tmp 6] Try.func83 (by kernel_rfl) rfl rfl (Nat.le_of_ble_eq_true rfl) (by kernel_rfl) ?_)
  have hone := hv.one
  have up : Up H.next H (H.push ⟨32, true, [.int .i64 q, v]⟩) := (Up.refl _ H).push (Nat.le_refl _) _
  have e1 : (H.push ⟨32, true, [.int .i64 q, v]⟩).row H.next = some ⟨32, true, [.int .i64 q, v]⟩ := by rw [AH.push_row, if_pos rfl]
  try simp (disch := first | omega | (simp only [ints_length, List.length_replicate] <;> omega)) only [Sall,evalOp,init,binE,binI,unE,convE,okNil,builtE,gv,TD.isAgg,resV,↓reduceIte,Nat.reduceEqDiff,reduceCtorEq,Nat.reduceAdd,Nat.reduceMul,Nat.reduceLeDiff,quietOp,blindOp,Int.reduceEq,Int.reduceLT,Int.reduceLE,Nat.reduceLT,tiA, hone]
  revert up e1
  generalize H.push ⟨32, true, [.int .i64 q, v]⟩ = H1
  intro up e1
  have hv1 := hv.same (up.le hs).row
  have hx1 := hx.same (up.le hs).row
  have ht1 := ht.same (up.le hs).row
  refine (l01Is_c q v k l H1 hv1 hk).to ?_
  unfold codeS
  by_cases hb : schedB q k l = true
  · obtain ⟨h2, _, _⟩ := schedB_at hb
    obtain ⟨n, rfl⟩ : ∃ n : Nat, q = n := ⟨q.toNat, by omega⟩
    rw [if_pos hb, Int.toNat_natCast]
    try simp (disch := first | omega | (simp only [ints_length, List.length_replicate] <;> omega)) only [Sall,evalOp,init,binE,binI,unE,convE,okNil,builtE,gv,TD.isAgg,resV,↓reduceIte,Nat.reduceEqDiff,reduceCtorEq,Nat.reduceAdd,Nat.reduceMul,Nat.reduceLeDiff,quietOp,blindOp,Int.reduceEq,Int.reduceLT,Int.reduceLE,Nat.reduceLT,tiA, hb, Bool.not_true, e1]
    refine (l10Is_c n v k l x ll _ (by omega) hv1 hk hx1 hl hl2).to ?_
    cases hr : resB n k l ll with
    | false =>
      try simp (disch := first | omega | (simp only [ints_length, List.length_replicate] <;> omega)) only [Sall,evalOp,init,binE,binI,unE,convE,okNil,builtE,gv,TD.isAgg,resV,↓reduceIte,Nat.reduceEqDiff,reduceCtorEq,Nat.reduceAdd,Nat.reduceMul,Nat.reduceLeDiff,quietOp,blindOp,Int.reduceEq,Int.reduceLT,Int.reduceLE,Nat.reduceLT,tiA, Bool.not_false, Bool.false_and]
      exact up
    | true =>
      rw [Bool.true_and]
      try simp (disch := first | omega | (simp only [ints_length, List.length_replicate] <;> omega)) only [Sall,evalOp,init,binE,binI,unE,convE,okNil,builtE,gv,TD.isAgg,resV,↓reduceIte,Nat.reduceEqDiff,reduceCtorEq,Nat.reduceAdd,Nat.reduceMul,Nat.reduceLeDiff,quietOp,blindOp,Int.reduceEq,Int.reduceLT,Int.reduceLE,Nat.reduceLT,tiA, Bool.not_true]
      refine awp_loop (fun z t H' => ∃ a : Nat, z = m - a ∧ a ≤ m ∧ t 7 = .int .i64 a ∧ t 2 = tv ∧ t 3 = .pointer (some ⟨H.next, 0, none⟩) ∧ H' = H1 ∧ (∀ i, i < a → (0 ≤ ts.getD i 0 ∧ ts.getD i 0 ≤ (n : Int) - 1))) m ?_ ?_
      · refine ⟨0, by omega, by omega, ?_⟩
        try simp (disch := first | omega | (simp only [ints_length, List.length_replicate] <;> omega)) only [Sall,evalOp,init,binE,binI,unE,convE,okNil,builtE,gv,TD.isAgg,resV,↓reduceIte,Nat.reduceEqDiff,reduceCtorEq,Nat.reduceAdd,Nat.reduceMul,Nat.reduceLeDiff,quietOp,blindOp,Int.reduceEq,Int.reduceLT,Int.reduceLE,Nat.reduceLT,tiA, Int.natCast_zero, Nat.not_lt_zero, false_implies]
      · rintro z t H' ⟨a, hz, ham, h7, h2, h3, rfl, hall⟩
        try simp (disch := first | omega | (simp only [ints_length, List.length_replicate] <;> omega)) only [Sall,evalOp,init,binE,binI,unE,convE,okNil,builtE,gv,TD.isAgg,resV,↓reduceIte,Nat.reduceEqDiff,reduceCtorEq,Nat.reduceAdd,Nat.reduceMul,Nat.reduceLeDiff,quietOp,blindOp,Int.reduceEq,Int.reduceLT,Int.reduceLE,Nat.reduceLT,tiA, h7, h2, builtE, ht1.len]
        refine condC_dec (fun h => ?_) (fun h => ?_)
        · obtain ⟨i, o, u, c, r, rfl, hr, hc, hs2, _⟩ := ht1.get (by omega)
          have g1 := hs2 a (by omega)
          refine draw_id (by kernel_rfl) (by kernel_rfl) ?_
          try simp (disch := first | omega | (simp only [ints_length, List.length_replicate] <;> omega)) only [Sall,evalOp,init,binE,binI,unE,convE,okNil,builtE,gv,TD.isAgg,resV,↓reduceIte,Nat.reduceEqDiff,reduceCtorEq,Nat.reduceAdd,Nat.reduceMul,Nat.reduceLeDiff,quietOp,blindOp,Int.reduceEq,Int.reduceLT,Int.reduceLE,Nat.reduceLT,tiA, h7, h2, h3, hr, g1, e1, w64]
          refine ⟨⟨by omega, by omega⟩, (l01In_c _ _ _ _).to ?_⟩
          refine ⟨.inr (.inr (LE.refl _)), ?_⟩
          by_cases hin : 0 ≤ ts.getD a 0 ∧ ts.getD a 0 ≤ (n : Int) - 1
          · try simp (disch := first | omega | (simp only [ints_length, List.length_replicate] <;> omega)) only [Sall,evalOp,init,binE,binI,unE,convE,okNil,builtE,gv,TD.isAgg,resV,↓reduceIte,Nat.reduceEqDiff,reduceCtorEq,Nat.reduceAdd,Nat.reduceMul,Nat.reduceLeDiff,quietOp,blindOp,Int.reduceEq,Int.reduceLT,Int.reduceLE,Nat.reduceLT,tiA, hin, decide_true, Bool.not_true, h7, w64]
            refine ⟨m - (a + 1), by omega, a + 1, rfl, by omega, by omega, h2, h3, fun i hi => ?_⟩
            by_cases e : i = a
            · rw [e]; exact hin
            · exact hall i (by omega)
          · try simp (disch := first | omega | (simp only [ints_length, List.length_replicate] <;> omega)) only [Sall,evalOp,init,binE,binI,unE,convE,okNil,builtE,gv,TD.isAgg,resV,↓reduceIte,Nat.reduceEqDiff,reduceCtorEq,Nat.reduceAdd,Nat.reduceMul,Nat.reduceLeDiff,quietOp,blindOp,Int.reduceEq,Int.reduceLT,Int.reduceLE,Nat.reduceLT,tiA, hin, decide_false, Bool.not_false]
            rw [all_false_of (i := a) (by omega) (decide_eq_false hin)]
            exact ⟨rfl, up⟩
        · try simp (disch := first | omega | (simp only [ints_length, List.length_replicate] <;> omega)) only [Sall,evalOp,init,binE,binI,unE,convE,okNil,builtE,gv,TD.isAgg,resV,↓reduceIte,Nat.reduceEqDiff,reduceCtorEq,Nat.reduceAdd,Nat.reduceMul,Nat.reduceLeDiff,quietOp,blindOp,Int.reduceEq,Int.reduceLT,Int.reduceLE,Nat.reduceLT,tiA, true_and]
          rw [all_true_of (fun i hi => decide_eq_true (hall i (by omega)))]
          exact ⟨rfl, up⟩
  · have hb' : schedB q k l = false := by simpa using hb
    try simp (disch := first | omega | (simp only [ints_length, List.length_replicate] <;> omega)) only [Sall,evalOp,init,binE,binI,unE,convE,okNil,builtE,gv,TD.isAgg,resV,↓reduceIte,Nat.reduceEqDiff,reduceCtorEq,Nat.reduceAdd,Nat.reduceMul,Nat.reduceLeDiff,quietOp,blindOp,Int.reduceEq,Int.reduceLT,Int.reduceLE,Nat.reduceLT,tiA, hb', Bool.not_false]
    exact up
end Go.Proofs.Ytgkmdfjjlghecaa.A
end

section
set_option linter.unusedSimpArgs false
set_option linter.unusedVariables false
set_option maxRecDepth 100000
set_option maxHeartbeats 2000000
namespace Go.Proofs.Ytgkmdfjjlghecaa.A
open Go Go.Abs Go.RowKit

theorem l10Points_c (n : Nat) (v : Value) (k : Nat) (l : List Int) (x : Value) (ll : List (List Int)) (R : Nat) (H : AH) (hb : schedB n k l = true) (hres : resB n k l ll = true) (hR : R ≤ ll.length) (hl : ll.length ≤ 4294967296) (hv : Rd 14 H v k l) (hx : Rd2 1 H x ll) :
    ACalls Try.prog 148 [.agg #[.int .i64 n, v], x, .int .i64 R] H (fun u H' => Up H.next H H' ∧ Fr 1 2 H.next H'.next H' u n (sumsF n (fun _ o => o) (meets n l ll R))) := by
  refine ACalls.wf (by kernel_rfl) fun hs => acalls_of_awp [.tmp 6] Try.func148 (by kernel_rfl) rfl rfl (Nat.le_of_ble_eq_true rfl) (by kernel_rfl) ?_
  obtain ⟨hn, hk40, hrounds⟩ := schedB_at hb
  obtain ⟨hlk, hrs⟩ := resB_at hres
  have hone := hv.one
  try simp (disch := first | omega | (simp only [ints_length, List.length_replicate, List.length_set] <;> omega)) only [Sall,evalOp,init,binE,binI,unE,convE,okNil,builtE,gv,TD.isAgg,resV,↓reduceIte,Nat.reduceEqDiff,reduceCtorEq,Nat.reduceAdd,Nat.reduceMul,Nat.reduceLeDiff,quietOp,blindOp,Int.reduceEq,Int.reduceLT,Int.reduceLE,Nat.reduceLT,tiA, hone, zeros_int1]
  refine ⟨by omega, ?_⟩
  refine awp_loop (fun m t H' => ∃ a : Nat, m = R - a ∧ a ≤ R ∧ t 8 = .int .i64 a ∧ t 7 = .slice (some ⟨H.next + 1, 0, some 1⟩) n n ∧ t 2 = .int .i64 R ∧ t 1 = x ∧ t 3 = .pointer (some ⟨H.next, 0, none⟩) ∧ Up H.next H H' ∧ H.next + 1 < H'.next ∧ H'.row H.next = some ⟨32, true, [.int .i64 n, v]⟩ ∧ H'.row (H.next + 1) = some ⟨2, true, ints (sumsF n (fun _ o => o) (meets n l ll a))⟩) R ?_ ?_
  · refine ⟨0, by omega, by omega, ?_⟩
    try simp (disch := first | omega | (simp only [ints_length, List.length_replicate, List.length_set] <;> omega)) only [Sall,evalOp,init,binE,binI,unE,convE,okNil,builtE,gv,TD.isAgg,resV,↓reduceIte,Nat.reduceEqDiff,reduceCtorEq,Nat.reduceAdd,Nat.reduceMul,Nat.reduceLeDiff,quietOp,blindOp,Int.reduceEq,Int.reduceLT,Int.reduceLE,Nat.reduceLT,tiA, Int.natCast_zero, meets_zero, sumsF_nil]
    exact ⟨((Up.refl _ H).push (by omega) _).push (by simp only [AH.push_next]; omega) _, by omega⟩
  · rintro m t H' ⟨a, hm, h14, h8, h7, h2, h1, h3, hup, hnx, hr1, hr2⟩
    try simp (disch := first | omega | (simp only [ints_length, List.length_replicate, List.length_set] <;> omega)) only [Sall,evalOp,init,binE,binI,unE,convE,okNil,builtE,gv,TD.isAgg,resV,↓reduceIte,Nat.reduceEqDiff,reduceCtorEq,Nat.reduceAdd,Nat.reduceMul,Nat.reduceLeDiff,quietOp,blindOp,Int.reduceEq,Int.reduceLT,Int.reduceLE,Nat.reduceLT,tiA, h8, h2]
    refine condC_dec (fun h => ?_) (fun h => ?_)
    · obtain ⟨i, o, u, c, r, y, my, ex, hrB, hy, hsx, hok⟩ := hx.get (j := a) (by omega)
      obtain ⟨i', o', u', c', r', ev, hrB', hc', hs', hg'⟩ := hv.get (by omega)
      have hr' : H'.row i' = some r' := by rw [hup.row _ (hs _ _ hrB'), hrB']
      have hiB := hs _ _ hrB
      obtain ⟨hlen, hvals⟩ := hrs a (by omega)
      have hrl : (rnd l a).length = 14 := rnd_length l a k hv.1 (by omega)
      have hlh := hup.next
      refine draw_id (by kernel_rfl) (by kernel_rfl) ?_
      try simp (disch := first | omega | (simp only [ints_length, List.length_replicate, List.length_set] <;> omega)) only [Sall,evalOp,init,binE,binI,unE,convE,okNil,builtE,gv,TD.isAgg,resV,↓reduceIte,Nat.reduceEqDiff,reduceCtorEq,Nat.reduceAdd,Nat.reduceMul,Nat.reduceLeDiff,quietOp,blindOp,Int.reduceEq,Int.reduceLT,Int.reduceLE,Nat.reduceLT,tiA, h8, h3, hr1, ev, hr', hg']
      refine ⟨⟨by omega, by omega⟩, by omega, ACalls.wf (by kernel_rfl) fun hs1 => (l01Pairs_c n (rnd l a) hrl (by omega) H').mono ?_⟩
      rintro p H3 ⟨up3, hp⟩
      have hpl := hp.rd.len
      refine ⟨.inr (.inr (up3.le hs1)), ?_⟩
      have n3 := up3.next
      have hr3 : H3.row H.next = some ⟨32, true, [.int .i64 n, v]⟩ := by rw [up3.row _ (by omega), hr1]
      have hr4 : H3.row (H.next + 1) = some ⟨2, true, ints (sumsF n (fun _ o => o) (meets n l ll a))⟩ := by rw [up3.row _ hnx, hr2]
      have hplen := pairsL_le (rnd l a) n
      have hround := hrounds a (by omega)
      refine Holds.mp ?_
      try simp (disch := first | omega | (simp only [ints_length, List.length_replicate, List.length_set] <;> omega)) only [Sall,evalOp,init,binE,binI,unE,convE,okNil,builtE,gv,TD.isAgg,resV,↓reduceIte,Nat.reduceEqDiff,reduceCtorEq,Nat.reduceAdd,Nat.reduceMul,Nat.reduceLeDiff,quietOp,blindOp,Int.reduceEq,Int.reduceLT,Int.reduceLE,Nat.reduceLT,tiA, h8, h7, h2, h1, h3]
      refine awp_loop (fun z t H4 => ∃ b : Nat, z = (pairsL (rnd l a) n).length - b ∧ b ≤ (pairsL (rnd l a) n).length ∧ t 10 = .int .i64 b ∧ t 9 = p ∧ t 8 = .int .i64 a ∧ t 7 = .slice (some ⟨H.next + 1, 0, some 1⟩) n n ∧ t 2 = .int .i64 R ∧ t 1 = x ∧ t 3 = .pointer (some ⟨H.next, 0, none⟩) ∧ Up H.next H H4 ∧ H3.next ≤ H4.next ∧ H4.row H.next = some ⟨32, true, [.int .i64 n, v]⟩ ∧
          Fr2 1 38 2 H'.next H3.next H4 p (pairsL (rnd l a) n) ∧ H4.row (H.next + 1) = some ⟨2, true, ints (sumsF n (fun _ o => o) (meets n l ll a ++ evRound n a (rnd l a) (ll.getD a []) b))⟩) (pairsL (rnd l a) n).length ?_ ?_
      · refine ⟨0, by omega, by omega, ?_⟩
        try simp (disch := first | omega | (simp only [ints_length, List.length_replicate, List.length_set] <;> omega)) only [Sall,evalOp,init,binE,binI,unE,convE,okNil,builtE,gv,TD.isAgg,resV,↓reduceIte,Nat.reduceEqDiff,reduceCtorEq,Nat.reduceAdd,Nat.reduceMul,Nat.reduceLeDiff,quietOp,blindOp,Int.reduceEq,Int.reduceLT,Int.reduceLE,Nat.reduceLT,tiA, Int.natCast_zero, evRound_zero, List.append_nil, h8, h7, h2, h1, h3]
        exact ⟨hup.trans up3 hlh, hr3, hp, hr4⟩
      · rintro z t H4 ⟨b, hz, hbp, h10, h9, h8, h7, h2, h1, h3, hup4, hn4, hr4, hp4, hr5⟩
        have hpl4 := hp4.rd.len
        try simp (disch := first | omega | (simp only [ints_length, List.length_replicate, List.length_set] <;> omega)) only [Sall,evalOp,init,binE,binI,unE,convE,okNil,builtE,gv,TD.isAgg,resV,↓reduceIte,Nat.reduceEqDiff,reduceCtorEq,Nat.reduceAdd,Nat.reduceMul,Nat.reduceLeDiff,quietOp,blindOp,Int.reduceEq,Int.reduceLT,Int.reduceLE,Nat.reduceLT,tiA, h10, h9, builtE, hpl4]
        refine condC_dec (fun hh => ?_) (fun hh => ?_)
        · obtain ⟨pi, pvs, px, pm, pb, pc, rfl, q1, q2, q3, q4, q5, q6, q7, q8⟩ := hp4.getF (j := b) (by omega)
          have hpm := q8.lenK1
          obtain ⟨aa, ha1, ha2, ha3⟩ := pairsL_get (rnd l a) n b (by omega)
          obtain ⟨_, ha4, ha5, _⟩ := roundB_at hround (a := aa) (by omega)
          have hmy := hsx.lenK1
          obtain ⟨i5, o5, u5, c5, r5, rfl, gB, g2, g3, _⟩ := hsx.get (by omega)
          have hi5 := hs _ _ gB
          have g1 : H4.row i5 = some r5 := by rw [hup4.row _ hi5, gB]
          have gr : H4.row i = some r := by rw [hup4.row _ hiB, hrB]
          have g4 := g3 b (by omega)
          rw [ha3] at q8 hpm
          simp only [List.length_cons, List.length_nil] at hpm
          obtain rfl : pm = 2 := hpm
          obtain ⟨i6, w1, w2, rfl, w3⟩ := q8.get (by omega)
          have evs0 : meets n l ll a ++ evRound n a (rnd l a) (ll.getD a []) (b + 1) = ((meets n l ll a ++ evRound n a (rnd l a) (ll.getD a []) b) ++ [(a, (aa : Int), (rnd l a).getD aa 0, wonI ((ll.getD a []).getD b 0))]) ++ [(a, (rnd l a).getD aa 0, (aa : Int), 2 - wonI ((ll.getD a []).getD b 0))] := by
            rw [evRound_succ, ha3]; simp [evPair]
          have i0 : (ints [(aa : Int), (rnd l a).getD aa 0])[Int.toNat 0]? = some (.int .i64 aa) := rfl
          have i1 : (ints [(aa : Int), (rnd l a).getD aa 0])[Int.toNat 1]? = some (.int .i64 ((rnd l a).getD aa 0)) := rfl
          have hsl := sumsF_length n (fun _ o => o) (meets n l ll a ++ evRound n a (rnd l a) (ll.getD a []) b)
          have evs1 : sumsF n (fun _ o => o) (meets n l ll a ++ evRound n a (rnd l a) (ll.getD a []) (b + 1)) = addAt (addAt (sumsF n (fun _ o => o) (meets n l ll a ++ evRound n a (rnd l a) (ll.getD a []) b)) aa (wonI ((ll.getD a []).getD b 0))) ((rnd l a).getD aa 0) (2 - wonI ((ll.getD a []).getD b 0)) := by
            rw [evs0, sumsF_append, sumsF_append]
          revert hr5 hsl evs1
          generalize sumsF n (fun _ o => o) (meets n l ll a ++ evRound n a (rnd l a) (ll.getD a []) b) = A
          intro hr5 hsl evs1
          have ne1 : ¬ pi = H.next + 1 := by omega
          have ne2 : ¬ i6 = H.next + 1 := by omega
          try simp (disch := first | omega | (simp only [ints_length, List.length_replicate, List.length_set] <;> omega)) only [Sall,evalOp,init,binE,binI,unE,convE,okNil,builtE,gv,TD.isAgg,resV,↓reduceIte,Nat.reduceEqDiff,reduceCtorEq,Nat.reduceAdd,Nat.reduceMul,Nat.reduceLeDiff,quietOp,blindOp,Int.reduceEq,Int.reduceLT,Int.reduceLE,Nat.reduceLT,tiA, h10, h8, h1, ex, gr, hy, hok, g1, g4]
          refine ⟨⟨by omega, by omega⟩, ⟨by omega, by omega⟩, (l10Won_c _ _).to ?_⟩
          try simp (disch := first | omega | (simp only [ints_length, List.length_replicate, List.length_set] <;> omega)) only [Sall,evalOp,init,binE,binI,unE,convE,okNil,builtE,gv,TD.isAgg,resV,↓reduceIte,Nat.reduceEqDiff,reduceCtorEq,Nat.reduceAdd,Nat.reduceMul,Nat.reduceLeDiff,quietOp,blindOp,Int.reduceEq,Int.reduceLT,Int.reduceLE,Nat.reduceLT,tiA, h10, h9, h7]
          refine draw_id (by kernel_rfl) (by kernel_rfl) ?_
          try simp (disch := first | omega | (simp only [ints_length, List.length_replicate, List.length_set] <;> omega)) only [Sall,evalOp,init,binE,binI,unE,convE,okNil,builtE,gv,TD.isAgg,resV,↓reduceIte,Nat.reduceEqDiff,reduceCtorEq,Nat.reduceAdd,Nat.reduceMul,Nat.reduceLeDiff,quietOp,blindOp,Int.reduceEq,Int.reduceLT,Int.reduceLE,Nat.reduceLT,tiA, h10, h9, h7, q3, q5, w3, i0, hr5, ints_get?, ints_set]
          (repeat refine And.intro (by omega) ?_)
          refine ⟨.inr (.inl (by kernel_rfl)), ?_⟩
          try simp (disch := first | omega | (simp only [ints_length, List.length_replicate, List.length_set] <;> omega)) only [Sall,evalOp,init,binE,binI,unE,convE,okNil,builtE,gv,TD.isAgg,resV,↓reduceIte,Nat.reduceEqDiff,reduceCtorEq,Nat.reduceAdd,Nat.reduceMul,Nat.reduceLeDiff,quietOp,blindOp,Int.reduceEq,Int.reduceLT,Int.reduceLE,Nat.reduceLT,tiA, h10, h9, h7]
          refine draw_id (by kernel_rfl) (by kernel_rfl) ?_
          try simp (disch := first | omega | (simp only [ints_length, List.length_replicate, List.length_set] <;> omega)) only [Sall,evalOp,init,binE,binI,unE,convE,okNil,builtE,gv,TD.isAgg,resV,↓reduceIte,Nat.reduceEqDiff,reduceCtorEq,Nat.reduceAdd,Nat.reduceMul,Nat.reduceLeDiff,quietOp,blindOp,Int.reduceEq,Int.reduceLT,Int.reduceLE,Nat.reduceLT,tiA, h10, h9, h7, q3, q5, w3, i1, hr5, ne1, ne2, ints_get?, ints_set]
          try simp only [List.length_set]
          (repeat refine And.intro (by omega) ?_)
          refine ⟨.inr (.inl (by kernel_rfl)), ?_⟩
          try simp (disch := first | omega | (simp only [ints_length, List.length_replicate, List.length_set] <;> omega)) only [Sall,evalOp,init,binE,binI,unE,convE,okNil,builtE,gv,TD.isAgg,resV,↓reduceIte,Nat.reduceEqDiff,reduceCtorEq,Nat.reduceAdd,Nat.reduceMul,Nat.reduceLeDiff,quietOp,blindOp,Int.reduceEq,Int.reduceLT,Int.reduceLE,Nat.reduceLT,tiA, h10, h9, h8, h7, h2, h1, h3, w64]
          refine ⟨(pairsL (rnd l a) n).length - (b + 1), by omega, b + 1, rfl, by omega, by omega, (hup4.set (by omega) _).set (by omega) _, hn4, hr4, hp4.same fun i _ hi => ?_, ?_⟩
          · rw [AH.setCells_row, if_neg (by omega), AH.setCells_row, if_neg (by omega)]
          · rw [evs1]; rfl
        · try simp (disch := first | omega | (simp only [ints_length, List.length_replicate, List.length_set] <;> omega)) only [Sall,evalOp,init,binE,binI,unE,convE,okNil,builtE,gv,TD.isAgg,resV,↓reduceIte,Nat.reduceEqDiff,reduceCtorEq,Nat.reduceAdd,Nat.reduceMul,Nat.reduceLeDiff,quietOp,blindOp,Int.reduceEq,Int.reduceLT,Int.reduceLE,Nat.reduceLT,tiA, h8, h7, h2, h1, h3, w64]
          have hbb : b = (pairsL (rnd l a) n).length := by omega
          refine ⟨R - (a + 1), by omega, a + 1, rfl, by omega, by omega, hup4, by omega, hr4, ?_⟩
          rw [meets_succ, ← hbb]; exact hr5
    · try simp (disch := first | omega | (simp only [ints_length, List.length_replicate, List.length_set] <;> omega)) only [Sall,evalOp,init,binE,binI,unE,convE,okNil,builtE,gv,TD.isAgg,resV,↓reduceIte,Nat.reduceEqDiff,reduceCtorEq,Nat.reduceAdd,Nat.reduceMul,Nat.reduceLeDiff,quietOp,blindOp,Int.reduceEq,Int.reduceLT,Int.reduceLE,Nat.reduceLT,tiA, h7]
      have ha : a = R := by omega
      subst ha
      exact ⟨hup, (sumsF_length n _ _).trans (Nat.mul_one n).symm, .inr ⟨H.next + 1, by omega, by omega, rfl, hr2⟩⟩

def sumF (third : Bool) (pts : List Int) (b o : Int) : Int := IntKind.i64.wrap ((if third = true then o else 1) * pts.getD b.toNat 0)

theorem l10Sums_c (n : Nat) (v : Value) (k : Nat) (l : List Int) (x : Value) (ll : List (List Int)) (third : Bool) (H : AH) (hb : schedB n k l = true) (hres : resB n k l ll = true) (hl : ll.length ≤ 4294967296) (hv : Rd 14 H v k l) (hx : Rd2 1 H x ll) :
    ACalls Try.prog 150 [.agg #[.int .i64 n, v], x, .bool third] H (fun u H' => Up H.next H H' ∧ Fr 1 2 H.next H'.next H' u n (sumsF n (sumF third (sumsF n (fun _ o => o) (meets n l ll ll.length))) (meets n l ll ll.length))) := by
  refine ACalls.wf (by kernel_rfl) fun hs => acalls_of_awp [.tmp 6] Try.func150 (by kernel_rfl) rfl rfl (Nat.le_of_ble_eq_true rfl) (by kernel_rfl) ?_
  obtain ⟨hn, hk40, hrounds⟩ := schedB_at hb
  obtain ⟨hlk, hrs⟩ := resB_at hres
  have hone := hv.one
  obtain ⟨pts, hpts⟩ : ∃ pts, pts = sumsF n (fun _ o => o) (meets n l ll ll.length) := ⟨_, rfl⟩
  rw [← hpts]
  have up : Up H.next H (H.push ⟨32, true, [.int .i64 n, v]⟩) := (Up.refl _ H).push (Nat.le_refl _) _
  have e1 : (H.push ⟨32, true, [.int .i64 n, v]⟩).row H.next = some ⟨32, true, [.int .i64 n, v]⟩ := by rw [AH.push_row, if_pos rfl]
  have n1 : (H.push ⟨32, true, [.int .i64 n, v]⟩).next = H.next + 1 := rfl
  try simp (disch := first | omega | (simp only [ints_length, List.length_replicate, List.length_set] <;> omega)) only [Sall,evalOp,init,binE,binI,unE,convE,okNil,builtE,gv,TD.isAgg,resV,↓reduceIte,Nat.reduceEqDiff,reduceCtorEq,Nat.reduceAdd,Nat.reduceMul,Nat.reduceLeDiff,quietOp,blindOp,Int.reduceEq,Int.reduceLT,Int.reduceLE,Nat.reduceLT,tiA, hone]
  have sc1 : Sc (H.push ⟨32, true, [.int .i64 n, v]⟩) := Sc.push hs _
  revert up e1 n1 sc1
  generalize H.push ⟨32, true, [.int .i64 n, v]⟩ = H1
  intro up e1 n1 sc1
  have hv1 := hv.same (up.le hs).row
  have hx1 := hx.same (up.le hs).row
  refine awp_cutQ (fun t H2 => ∃ (pu : Value) (oi lo hi : Nat), t 7 = pu ∧ t 8 = .slice (some ⟨oi, 0, some 1⟩) n n ∧ t 1 = x ∧ t 2 = .bool third ∧ t 3 = .pointer (some ⟨H.next, 0, none⟩) ∧ Up H.next H H2 ∧ H2.row H.next = some ⟨32, true, [.int .i64 n, v]⟩ ∧ H2.row oi = some ⟨2, true, ints (List.replicate n 0)⟩ ∧ Fr 1 2 lo hi H2 pu n pts ∧ H.next < lo ∧ hi ≤ H2.next ∧ H.next < oi ∧ oi < H2.next ∧ (oi < lo ∨ hi ≤ oi)) ?_ ?_
  · refine draw_tree (OT.run [0, 1, 2, 3, 5, 6] (.two 4 7 (OT.run [8, 7, 9] .nil) (OT.run [4, 8, 9] .nil))) (by kernel_rfl) (by kernel_rfl) (Nat.le_of_ble_eq_true rfl) ?_
    try simp (disch := first | omega | (simp only [ints_length, List.length_replicate, List.length_set] <;> omega)) only [Sall,evalOp,init,binE,binI,unE,convE,okNil,builtE,gv,TD.isAgg,resV,↓reduceIte,Nat.reduceEqDiff,reduceCtorEq,Nat.reduceAdd,Nat.reduceMul,Nat.reduceLeDiff,quietOp,blindOp,Int.reduceEq,Int.reduceLT,Int.reduceLE,Nat.reduceLT,tiA, awpT_nil, awpT_one, awpT_run_nil, awpT_run_cons, e1, builtE, hx.len]
    refine awpT_two ?_ ?_
    · try simp (disch := first | omega | (simp only [ints_length, List.length_replicate, List.length_set] <;> omega)) only [Sall,evalOp,init,binE,binI,unE,convE,okNil,builtE,gv,TD.isAgg,resV,↓reduceIte,Nat.reduceEqDiff,reduceCtorEq,Nat.reduceAdd,Nat.reduceMul,Nat.reduceLeDiff,quietOp,blindOp,Int.reduceEq,Int.reduceLT,Int.reduceLE,Nat.reduceLT,tiA, awpT_nil, awpT_one, awpT_run_nil, awpT_run_cons]
      refine ACalls.wf (by kernel_rfl) fun hs1 => (l10Points_c n v k l x ll ll.length H1 hb hres (Nat.le_refl _) hl hv1 hx1).sc.mono ?_
      rintro pu H2 ⟨⟨up2, hf⟩, sc2⟩
      rw [← hpts] at hf
      have n2 := up2.next
      refine ⟨.inr (.inr (up2.le hs1)), ?_⟩
      refine Holds.mp ?_
      try simp (disch := first | omega | (simp only [ints_length, List.length_replicate, List.length_set] <;> omega)) only [Sall,evalOp,init,binE,binI,unE,convE,okNil,builtE,gv,TD.isAgg,resV,↓reduceIte,Nat.reduceEqDiff,reduceCtorEq,Nat.reduceAdd,Nat.reduceMul,Nat.reduceLeDiff,quietOp,blindOp,Int.reduceEq,Int.reduceLT,Int.reduceLE,Nat.reduceLT,tiA, awpT_nil, awpT_one, awpT_run_nil, awpT_run_cons, zeros_int1]
      (repeat refine And.intro (by omega) ?_)
      refine ⟨.inr (.inr (sc2.le _)), ?_⟩
      refine ⟨pu, H2.next, H1.next, H2.next, ?_⟩
      try simp (disch := first | omega | (simp only [ints_length, List.length_replicate, List.length_set] <;> omega)) only [Sall,evalOp,init,binE,binI,unE,convE,okNil,builtE,gv,TD.isAgg,resV,↓reduceIte,Nat.reduceEqDiff,reduceCtorEq,Nat.reduceAdd,Nat.reduceMul,Nat.reduceLeDiff,quietOp,blindOp,Int.reduceEq,Int.reduceLT,Int.reduceLE,Nat.reduceLT,tiA, true_and]
      refine ⟨(up.trans up2 (by omega)).push (by omega) _, ?_, hf.same fun i _ hi => by rw [AH.push_row, if_neg (by omega)], ?_⟩
      · rw [if_neg (by omega), up2.row _ (by omega), e1]
      · exact ⟨by omega, by omega, by omega, by omega, .inr trivial⟩
    · try simp (disch := first | omega | (simp only [ints_length, List.length_replicate, List.length_set] <;> omega)) only [Sall,evalOp,init,binE,binI,unE,convE,okNil,builtE,gv,TD.isAgg,resV,↓reduceIte,Nat.reduceEqDiff,reduceCtorEq,Nat.reduceAdd,Nat.reduceMul,Nat.reduceLeDiff,quietOp,blindOp,Int.reduceEq,Int.reduceLT,Int.reduceLE,Nat.reduceLT,tiA, awpT_nil, awpT_one, awpT_run_nil, awpT_run_cons, zeros_int1]
      (repeat refine And.intro (by omega) ?_)
      refine ⟨.inr (.inr (sc1.le _)), ?_⟩
      obtain ⟨H2, e2⟩ : ∃ H2, H2 = H1.push ⟨2, true, ints (List.replicate n 0)⟩ := ⟨_, rfl⟩
      have n2 : H2.next = H1.next + 1 := by rw [e2]; rfl
      have r2 : H2.row H1.next = some ⟨2, true, ints (List.replicate n 0)⟩ := by rw [e2, AH.push_row, if_pos rfl]
      have s2 : ∀ i, i < H1.next → H2.row i = H1.row i := fun i hi => by rw [e2, AH.push_row, if_neg (by omega)]
      have sc2 : Sc H2 := by rw [e2]; exact sc1.push _
      have up2 : Up H.next H H2 := ⟨by have := up.next; omega, fun i hi => by rw [s2 i (by omega), up.row i hi]⟩
      rw [← e2]
      clear e2
      refine (l10Points_c n v k l x ll ll.length H2 hb hres (Nat.le_refl _) hl (hv.same (up2.le hs).row) (hx.same (up2.le hs).row)).mono ?_
      rintro pu H3 ⟨up3, hf⟩
      rw [← hpts] at hf
      have n3 := up3.next
      refine ⟨.inr (.inr (up3.le sc2)), ?_⟩
      refine Holds.mp ?_
      try simp (disch := first | omega | (simp only [ints_length, List.length_replicate, List.length_set] <;> omega)) only [Sall,evalOp,init,binE,binI,unE,convE,okNil,builtE,gv,TD.isAgg,resV,↓reduceIte,Nat.reduceEqDiff,reduceCtorEq,Nat.reduceAdd,Nat.reduceMul,Nat.reduceLeDiff,quietOp,blindOp,Int.reduceEq,Int.reduceLT,Int.reduceLE,Nat.reduceLT,tiA, awpT_nil, awpT_one, awpT_run_nil, awpT_run_cons]
      refine ⟨pu, H1.next, H2.next, H3.next, ?_⟩
      try simp (disch := first | omega | (simp only [ints_length, List.length_replicate, List.length_set] <;> omega)) only [Sall,evalOp,init,binE,binI,unE,convE,okNil,builtE,gv,TD.isAgg,resV,↓reduceIte,Nat.reduceEqDiff,reduceCtorEq,Nat.reduceAdd,Nat.reduceMul,Nat.reduceLeDiff,quietOp,blindOp,Int.reduceEq,Int.reduceLT,Int.reduceLE,Nat.reduceLT,tiA, true_and]
      exact ⟨up2.trans up3 (by omega), by rw [up3.row _ (by omega), s2 _ (by omega), e1], by rw [up3.row _ (by omega), r2], hf, by omega, by omega, by omega, by omega⟩
  · rintro t H2 ⟨pu, oi, plo, phi, h7, h8, h1, h2, h3, u2, r0, ro, hf, b1, b2, b3, b4, b5⟩
    try simp (disch := first | omega | (simp only [ints_length, List.length_replicate, List.length_set] <;> omega)) only [Sall,evalOp,init,binE,binI,unE,convE,okNil,builtE,gv,TD.isAgg,resV,↓reduceIte,Nat.reduceEqDiff,reduceCtorEq,Nat.reduceAdd,Nat.reduceMul,Nat.reduceLeDiff,quietOp,blindOp,Int.reduceEq,Int.reduceLT,Int.reduceLE,Nat.reduceLT,tiA, h7, h8, h1, h2, h3]
    refine awp_loop (fun m t H' => ∃ a : Nat, m = ll.length - a ∧ a ≤ ll.length ∧ t 9 = .int .i64 a ∧ t 8 = .slice (some ⟨oi, 0, some 1⟩) n n ∧ t 7 = pu ∧ t 2 = .bool third ∧ t 1 = x ∧ t 3 = .pointer (some ⟨H.next, 0, none⟩) ∧ Up H.next H H' ∧ H2.next ≤ H'.next ∧ H'.row H.next = some ⟨32, true, [.int .i64 n, v]⟩ ∧ Fr 1 2 plo phi H' pu n pts ∧ H'.row oi = some ⟨2, true, ints (sumsF n (sumF third pts) (meets n l ll a))⟩) ll.length ?_ ?_
    · refine ⟨0, by omega, by omega, ?_⟩
      try simp (disch := first | omega | (simp only [ints_length, List.length_replicate, List.length_set] <;> omega)) only [Sall,evalOp,init,binE,binI,unE,convE,okNil,builtE,gv,TD.isAgg,resV,↓reduceIte,Nat.reduceEqDiff,reduceCtorEq,Nat.reduceAdd,Nat.reduceMul,Nat.reduceLeDiff,quietOp,blindOp,Int.reduceEq,Int.reduceLT,Int.reduceLE,Nat.reduceLT,tiA, Int.natCast_zero, meets_zero, sumsF_nil, h7, h8, h1, h2, h3]
      exact ⟨u2, r0, hf, ro⟩
    · rintro m t H' ⟨a, hm, h14, h9, h8, h7, h2, h1, h3, hup, hnx, hr1, hf', hr2⟩
      try simp (disch := first | omega | (simp only [ints_length, List.length_replicate, List.length_set] <;> omega)) only [Sall,evalOp,init,binE,binI,unE,convE,okNil,builtE,gv,TD.isAgg,resV,↓reduceIte,Nat.reduceEqDiff,reduceCtorEq,Nat.reduceAdd,Nat.reduceMul,Nat.reduceLeDiff,quietOp,blindOp,Int.reduceEq,Int.reduceLT,Int.reduceLE,Nat.reduceLT,tiA, h9, h1, builtE, hx.len]
      refine condC_dec (fun h => ?_) (fun h => ?_)
      · obtain ⟨i, o, u, c, r, y, my, ex, hrB, hy, hsx, hok⟩ := hx.get (j := a) (by omega)
        obtain ⟨i', o', u', c', r', ev, hrB', hc', hs', hg'⟩ := hv.get (by omega)
        have hr' : H'.row i' = some r' := by rw [hup.row _ (hs _ _ hrB'), hrB']
        have hiB := hs _ _ hrB
        obtain ⟨hlen, hvals⟩ := hrs a (by omega)
        have hrl : (rnd l a).length = 14 := rnd_length l a k hv.1 (by omega)
        have hlh := hup.next
        refine draw_id (by kernel_rfl) (by kernel_rfl) ?_
        try simp (disch := first | omega | (simp only [ints_length, List.length_replicate, List.length_set] <;> omega)) only [Sall,evalOp,init,binE,binI,unE,convE,okNil,builtE,gv,TD.isAgg,resV,↓reduceIte,Nat.reduceEqDiff,reduceCtorEq,Nat.reduceAdd,Nat.reduceMul,Nat.reduceLeDiff,quietOp,blindOp,Int.reduceEq,Int.reduceLT,Int.reduceLE,Nat.reduceLT,tiA, h9, h3, hr1, ev, hr', hg']
        (repeat refine And.intro (by omega) ?_)
        refine ACalls.wf (by kernel_rfl) fun hs1 => (l01Pairs_c n (rnd l a) hrl (by omega) H').mono ?_
        rintro p H3 ⟨up3, hp⟩
        have hpl := hp.rd.len
        refine ⟨.inr (.inr (up3.le hs1)), ?_⟩
        have n3 := up3.next
        have hr3 : H3.row H.next = some ⟨32, true, [.int .i64 n, v]⟩ := by rw [up3.row _ (by omega), hr1]
        have hr4 : H3.row oi = some ⟨2, true, ints (sumsF n (sumF third pts) (meets n l ll a))⟩ := by rw [up3.row _ (by omega), hr2]
        have hf3 : Fr 1 2 plo phi H3 pu n pts := hf'.same fun i _ hi => up3.row i (by omega)
        have hplen := pairsL_le (rnd l a) n
        have hround := hrounds a (by omega)
        refine Holds.mp ?_
        try simp (disch := first | omega | (simp only [ints_length, List.length_replicate, List.length_set] <;> omega)) only [Sall,evalOp,init,binE,binI,unE,convE,okNil,builtE,gv,TD.isAgg,resV,↓reduceIte,Nat.reduceEqDiff,reduceCtorEq,Nat.reduceAdd,Nat.reduceMul,Nat.reduceLeDiff,quietOp,blindOp,Int.reduceEq,Int.reduceLT,Int.reduceLE,Nat.reduceLT,tiA, h9, h8, h7, h2, h1, h3]
        refine awp_loop (fun z t H4 => ∃ b : Nat, z = (pairsL (rnd l a) n).length - b ∧ b ≤ (pairsL (rnd l a) n).length ∧ t 11 = .int .i64 b ∧ t 10 = p ∧ t 9 = .int .i64 a ∧ t 8 = .slice (some ⟨oi, 0, some 1⟩) n n ∧ t 7 = pu ∧ t 2 = .bool third ∧ t 1 = x ∧ t 3 = .pointer (some ⟨H.next, 0, none⟩) ∧ Up H.next H H4 ∧ H3.next ≤ H4.next ∧ H4.row H.next = some ⟨32, true, [.int .i64 n, v]⟩ ∧
            Fr2 1 38 2 H'.next H3.next H4 p (pairsL (rnd l a) n) ∧ Fr 1 2 plo phi H4 pu n pts ∧ H4.row oi = some ⟨2, true, ints (sumsF n (sumF third pts) (meets n l ll a ++ evRound n a (rnd l a) (ll.getD a []) b))⟩) (pairsL (rnd l a) n).length ?_ ?_
        · refine ⟨0, by omega, by omega, ?_⟩
          try simp (disch := first | omega | (simp only [ints_length, List.length_replicate, List.length_set] <;> omega)) only [Sall,evalOp,init,binE,binI,unE,convE,okNil,builtE,gv,TD.isAgg,resV,↓reduceIte,Nat.reduceEqDiff,reduceCtorEq,Nat.reduceAdd,Nat.reduceMul,Nat.reduceLeDiff,quietOp,blindOp,Int.reduceEq,Int.reduceLT,Int.reduceLE,Nat.reduceLT,tiA, Int.natCast_zero, evRound_zero, List.append_nil, h9, h8, h7, h2, h1, h3]
          exact ⟨hup.trans up3 hlh, hr3, hp, hf3, hr4⟩
        · rintro z t H4 ⟨b, hz, hbp, h11, h10, h9, h8, h7, h2, h1, h3, hup4, hn4, hr44, hp4, hf4, hr5⟩
          have hpl4 := hp4.rd.len
          try simp (disch := first | omega | (simp only [ints_length, List.length_replicate, List.length_set] <;> omega)) only [Sall,evalOp,init,binE,binI,unE,convE,okNil,builtE,gv,TD.isAgg,resV,↓reduceIte,Nat.reduceEqDiff,reduceCtorEq,Nat.reduceAdd,Nat.reduceMul,Nat.reduceLeDiff,quietOp,blindOp,Int.reduceEq,Int.reduceLT,Int.reduceLE,Nat.reduceLT,tiA, h11, h10, builtE, hpl4]
          refine condC_dec (fun hh => ?_) (fun hh => ?_)
          · obtain ⟨pi, pvs, px, pm, pb, pc, rfl, q1, q2, q3, q4, q5, q6, q7, q8⟩ := hp4.getF (j := b) (by omega)
            have hpm := q8.lenK1
            obtain ⟨aa, ha1, ha2, ha3⟩ := pairsL_get (rnd l a) n b (by omega)
            obtain ⟨_, ha4, ha5, _⟩ := roundB_at hround (a := aa) (by omega)
            have hmy := hsx.lenK1
            obtain ⟨i5, o5, u5, c5, r5, rfl, gB, g2, g3, _⟩ := hsx.get (by omega)
            have hi5 := hs _ _ gB
            have g1 : H4.row i5 = some r5 := by rw [hup4.row _ hi5, gB]
            have gr : H4.row i = some r := by rw [hup4.row _ hiB, hrB]
            have g4 := g3 b (by omega)
            rw [ha3] at q8 hpm
            simp only [List.length_cons, List.length_nil] at hpm
            obtain rfl : pm = 2 := hpm
            obtain ⟨i6, w1, w2, rfl, w3⟩ := q8.get (by omega)
            obtain ⟨i7, k1, k2, rfl, k3⟩ := hf4.get (by omega)
            have hpl := hf4.1
            have evs0 : meets n l ll a ++ evRound n a (rnd l a) (ll.getD a []) (b + 1) = ((meets n l ll a ++ evRound n a (rnd l a) (ll.getD a []) b) ++ [(a, (aa : Int), (rnd l a).getD aa 0, wonI ((ll.getD a []).getD b 0))]) ++ [(a, (rnd l a).getD aa 0, (aa : Int), 2 - wonI ((ll.getD a []).getD b 0))] := by
              rw [evRound_succ, ha3]; simp [evPair]
            have i0 : (ints [(aa : Int), (rnd l a).getD aa 0])[Int.toNat 0]? = some (.int .i64 aa) := rfl
            have i1 : (ints [(aa : Int), (rnd l a).getD aa 0])[Int.toNat 1]? = some (.int .i64 ((rnd l a).getD aa 0)) := rfl
            have hsl := sumsF_length n (sumF third pts) (meets n l ll a ++ evRound n a (rnd l a) (ll.getD a []) b)
            have evs1 : sumsF n (sumF third pts) (meets n l ll a ++ evRound n a (rnd l a) (ll.getD a []) (b + 1)) = addAt (addAt (sumsF n (sumF third pts) (meets n l ll a ++ evRound n a (rnd l a) (ll.getD a []) b)) aa (sumF third pts ((rnd l a).getD aa 0) (wonI ((ll.getD a []).getD b 0)))) ((rnd l a).getD aa 0) (sumF third pts aa (2 - wonI ((ll.getD a []).getD b 0))) := by
              rw [evs0, sumsF_append, sumsF_append]
            revert hr5 hsl evs1
            generalize sumsF n (sumF third pts) (meets n l ll a ++ evRound n a (rnd l a) (ll.getD a []) b) = A
            intro hr5 hsl evs1
            have ne1 : ¬ pi = oi := by omega
            have ne2 : ¬ i6 = oi := by omega
            have ne3 : ¬ i7 = oi := by omega
            have ne4 : ¬ H.next = oi := by omega
            refine draw_id (by kernel_rfl) (by kernel_rfl) ?_
            try simp (disch := first | omega | (simp only [ints_length, List.length_replicate, List.length_set] <;> omega)) only [Sall,evalOp,init,binE,binI,unE,convE,okNil,builtE,gv,TD.isAgg,resV,↓reduceIte,Nat.reduceEqDiff,reduceCtorEq,Nat.reduceAdd,Nat.reduceMul,Nat.reduceLeDiff,quietOp,blindOp,Int.reduceEq,Int.reduceLT,Int.reduceLE,Nat.reduceLT,tiA, h11, h10, q3, q5, w3, i0, i1]
            (repeat refine And.intro (by omega) ?_)
            refine Holds.mp ?_
            cases third <;> rw [holds_def]
            · try simp (disch := first | omega | (simp only [ints_length, List.length_replicate, List.length_set] <;> omega)) only [Sall,evalOp,init,binE,binI,unE,convE,okNil,builtE,gv,TD.isAgg,resV,↓reduceIte,Nat.reduceEqDiff,reduceCtorEq,Nat.reduceAdd,Nat.reduceMul,Nat.reduceLeDiff,quietOp,blindOp,Int.reduceEq,Int.reduceLT,Int.reduceLE,Nat.reduceLT,tiA, h11, h10, h9, h8, h7, h2]
              refine draw_id (by kernel_rfl) (by kernel_rfl) ?_
              try simp (disch := first | omega | (simp only [ints_length, List.length_replicate, List.length_set] <;> omega)) only [Sall,evalOp,init,binE,binI,unE,convE,okNil,builtE,gv,TD.isAgg,resV,↓reduceIte,Nat.reduceEqDiff,reduceCtorEq,Nat.reduceAdd,Nat.reduceMul,Nat.reduceLeDiff,quietOp,blindOp,Int.reduceEq,Int.reduceLT,Int.reduceLE,Nat.reduceLT,tiA, h8, h7, hr5, k3, ints_get?, ints_set]
              try simp only [List.length_set]
              (repeat refine And.intro (by omega) ?_)
              refine ⟨.inr (.inl (by kernel_rfl)), ?_⟩
              refine Holds.mp ?_
              try simp (disch := first | omega | (simp only [ints_length, List.length_replicate, List.length_set] <;> omega)) only [Sall,evalOp,init,binE,binI,unE,convE,okNil,builtE,gv,TD.isAgg,resV,↓reduceIte,Nat.reduceEqDiff,reduceCtorEq,Nat.reduceAdd,Nat.reduceMul,Nat.reduceLeDiff,quietOp,blindOp,Int.reduceEq,Int.reduceLT,Int.reduceLE,Nat.reduceLT,tiA, h11, h10, h9, h8, h7, h2, h1, h3]
              refine draw_id (by kernel_rfl) (by kernel_rfl) ?_
              try simp (disch := first | omega | (simp only [ints_length, List.length_replicate, List.length_set] <;> omega)) only [Sall,evalOp,init,binE,binI,unE,convE,okNil,builtE,gv,TD.isAgg,resV,↓reduceIte,Nat.reduceEqDiff,reduceCtorEq,Nat.reduceAdd,Nat.reduceMul,Nat.reduceLeDiff,quietOp,blindOp,Int.reduceEq,Int.reduceLT,Int.reduceLE,Nat.reduceLT,tiA, h8, h7, hr5, k3, ne3, ints_get?, ints_set]
              try simp only [List.length_set]
              (repeat refine And.intro (by omega) ?_)
              refine ⟨.inr (.inl (by kernel_rfl)), ?_⟩
              refine Holds.mp ?_
              try simp (disch := first | omega | (simp only [ints_length, List.length_replicate, List.length_set] <;> omega)) only [Sall,evalOp,init,binE,binI,unE,convE,okNil,builtE,gv,TD.isAgg,resV,↓reduceIte,Nat.reduceEqDiff,reduceCtorEq,Nat.reduceAdd,Nat.reduceMul,Nat.reduceLeDiff,quietOp,blindOp,Int.reduceEq,Int.reduceLT,Int.reduceLE,Nat.reduceLT,tiA, h11, h10, h9, h8, h7, h2, h1, h3, w64, ne4]
              refine ⟨(pairsL (rnd l a) n).length - (b + 1), by omega, b + 1, rfl, by omega, by omega, (hup4.set (by omega) _).set (by omega) _, hn4, hr44, hp4.same fun i _ hi => ?_, hf4.same fun i hi1 hi2 => ?_, ?_⟩
              · rw [AH.setCells_row, if_neg (by omega), AH.setCells_row, if_neg (by omega)]
              · rw [AH.setCells_row, if_neg (by omega), AH.setCells_row, if_neg (by omega)]
              · rw [hr5, evs1]; rfl
            · try simp (disch := first | omega | (simp only [ints_length, List.length_replicate, List.length_set] <;> omega)) only [Sall,evalOp,init,binE,binI,unE,convE,okNil,builtE,gv,TD.isAgg,resV,↓reduceIte,Nat.reduceEqDiff,reduceCtorEq,Nat.reduceAdd,Nat.reduceMul,Nat.reduceLeDiff,quietOp,blindOp,Int.reduceEq,Int.reduceLT,Int.reduceLE,Nat.reduceLT,tiA, h11, h10, h9, h8, h7, h2, h1, ex, gr, hy, hok, g1, g4]
              (repeat refine And.intro (by omega) ?_)
              refine (l10Won_c _ _).to ?_
              try simp (disch := first | omega | (simp only [ints_length, List.length_replicate, List.length_set] <;> omega)) only [Sall,evalOp,init,binE,binI,unE,convE,okNil,builtE,gv,TD.isAgg,resV,↓reduceIte,Nat.reduceEqDiff,reduceCtorEq,Nat.reduceAdd,Nat.reduceMul,Nat.reduceLeDiff,quietOp,blindOp,Int.reduceEq,Int.reduceLT,Int.reduceLE,Nat.reduceLT,tiA, h11, h10, h9, h8, h7, h2]
              refine draw_id (by kernel_rfl) (by kernel_rfl) ?_
              try simp (disch := first | omega | (simp only [ints_length, List.length_replicate, List.length_set] <;> omega)) only [Sall,evalOp,init,binE,binI,unE,convE,okNil,builtE,gv,TD.isAgg,resV,↓reduceIte,Nat.reduceEqDiff,reduceCtorEq,Nat.reduceAdd,Nat.reduceMul,Nat.reduceLeDiff,quietOp,blindOp,Int.reduceEq,Int.reduceLT,Int.reduceLE,Nat.reduceLT,tiA, h8, h7, hr5, k3, ints_get?, ints_set]
              try simp only [List.length_set]
              (repeat refine And.intro (by omega) ?_)
              refine ⟨.inr (.inl (by kernel_rfl)), ?_⟩
              refine Holds.mp ?_
              try simp (disch := first | omega | (simp only [ints_length, List.length_replicate, List.length_set] <;> omega)) only [Sall,evalOp,init,binE,binI,unE,convE,okNil,builtE,gv,TD.isAgg,resV,↓reduceIte,Nat.reduceEqDiff,reduceCtorEq,Nat.reduceAdd,Nat.reduceMul,Nat.reduceLeDiff,quietOp,blindOp,Int.reduceEq,Int.reduceLT,Int.reduceLE,Nat.reduceLT,tiA, h11, h10, h9, h8, h7, h2, h1, h3]
              refine draw_id (by kernel_rfl) (by kernel_rfl) ?_
              try simp (disch := first | omega | (simp only [ints_length, List.length_replicate, List.length_set] <;> omega)) only [Sall,evalOp,init,binE,binI,unE,convE,okNil,builtE,gv,TD.isAgg,resV,↓reduceIte,Nat.reduceEqDiff,reduceCtorEq,Nat.reduceAdd,Nat.reduceMul,Nat.reduceLeDiff,quietOp,blindOp,Int.reduceEq,Int.reduceLT,Int.reduceLE,Nat.reduceLT,tiA, h8, h7, hr5, k3, ne3, ints_get?, ints_set]
              try simp only [List.length_set]
              (repeat refine And.intro (by omega) ?_)
              refine ⟨.inr (.inl (by kernel_rfl)), ?_⟩
              refine Holds.mp ?_
              try simp (disch := first | omega | (simp only [ints_length, List.length_replicate, List.length_set] <;> omega)) only [Sall,evalOp,init,binE,binI,unE,convE,okNil,builtE,gv,TD.isAgg,resV,↓reduceIte,Nat.reduceEqDiff,reduceCtorEq,Nat.reduceAdd,Nat.reduceMul,Nat.reduceLeDiff,quietOp,blindOp,Int.reduceEq,Int.reduceLT,Int.reduceLE,Nat.reduceLT,tiA, h11, h10, h9, h8, h7, h2, h1, h3, w64, ne4]
              refine ⟨(pairsL (rnd l a) n).length - (b + 1), by omega, b + 1, rfl, by omega, by omega, (hup4.set (by omega) _).set (by omega) _, hn4, hr44, hp4.same fun i _ hi => ?_, hf4.same fun i hi1 hi2 => ?_, ?_⟩
              · rw [AH.setCells_row, if_neg (by omega), AH.setCells_row, if_neg (by omega)]
              · rw [AH.setCells_row, if_neg (by omega), AH.setCells_row, if_neg (by omega)]
              · rw [hr5, evs1]; rfl
          · try simp (disch := first | omega | (simp only [ints_length, List.length_replicate, List.length_set] <;> omega)) only [Sall,evalOp,init,binE,binI,unE,convE,okNil,builtE,gv,TD.isAgg,resV,↓reduceIte,Nat.reduceEqDiff,reduceCtorEq,Nat.reduceAdd,Nat.reduceMul,Nat.reduceLeDiff,quietOp,blindOp,Int.reduceEq,Int.reduceLT,Int.reduceLE,Nat.reduceLT,tiA, h9, h8, h7, h2, h1, h3, w64]
            have hbb : b = (pairsL (rnd l a) n).length := by omega
            refine ⟨ll.length - (a + 1), by omega, a + 1, rfl, by omega, by omega, hup4, by omega, hr44, hf4, ?_⟩
            rw [meets_succ, ← hbb]; exact hr5
      · try simp (disch := first | omega | (simp only [ints_length, List.length_replicate, List.length_set] <;> omega)) only [Sall,evalOp,init,binE,binI,unE,convE,okNil,builtE,gv,TD.isAgg,resV,↓reduceIte,Nat.reduceEqDiff,reduceCtorEq,Nat.reduceAdd,Nat.reduceMul,Nat.reduceLeDiff,quietOp,blindOp,Int.reduceEq,Int.reduceLT,Int.reduceLE,Nat.reduceLT,tiA, h8]
        have ha : a = ll.length := by omega
        subst ha
        exact ⟨hup, (sumsF_length n _ _).trans (Nat.mul_one n).symm, .inr ⟨oi, by omega, by omega, rfl, hr2⟩⟩
end Go.Proofs.Ytgkmdfjjlghecaa.A
end

section
set_option linter.unusedSimpArgs false
set_option linter.unusedVariables false
set_option maxRecDepth 100000
set_option maxHeartbeats 2000000
namespace Go.Proofs.Ytgkmdfjjlghecaa.A
open Go Go.Abs Go.RowKit

theorem codeS_yes {q : Int} {k : Nat} {l : List Int} {b : Bool} (h : schedB q k l = true) (hb : b = true) : codeS q k l b = 0 := by unfold codeS; rw [if_pos h, if_pos hb]
theorem codeS_no {q : Int} {k : Nat} {l : List Int} {b : Bool} (h : ¬ (schedB q k l = true ∧ b = true)) : (codeS q k l b != 0) = true := by
  unfold codeS
  split
  · rename_i h1
    rw [if_neg (fun h2 => h ⟨h1, h2⟩)]; rfl
  · rfl
theorem fr_nil (ty lo hi : Nat) (H : AH) : Fr 1 ty lo hi H (.slice none 0 0) 0 [] := ⟨rfl, .inl ⟨rfl, rfl⟩⟩

def ptsR (q : Int) (k : Nat) (l : List Int) (ll : List (List Int)) : List Int := if schedB q k l = true ∧ resB q.toNat k l ll = true then sumsF q.toNat (fun _ o => o) (meets q.toNat l ll ll.length) else []
def sumR (third : Bool) (q : Int) (k : Nat) (l : List Int) (ll : List (List Int)) : List Int := if schedB q k l = true ∧ resB q.toNat k l ll = true then sumsF q.toNat (sumF third (sumsF q.toNat (fun _ o => o) (meets q.toNat l ll ll.length))) (meets q.toNat l ll ll.length) else []
theorem second_sum (n : Nat) (l : List Int) (ll : List (List Int)) : sumsF n (fun b _ => (sumsF n (fun _ o => o) (meets n l ll ll.length)).getD b.toNat 0) (meets n l ll ll.length) = sumsF n (sumF false (sumsF n (fun _ o => o) (meets n l ll ll.length))) (meets n l ll ll.length) := by
  refine sumsF_congr (fun b o => ?_) _
  unfold sumF
  rw [if_neg (by simp), Int.one_mul, w64 (sumsF_range _ _ _ _)]
theorem ptsR_length (q : Int) (k : Nat) (l : List Int) (ll : List (List Int)) : (ptsR q k l ll).length ≤ 14 := by
  unfold ptsR
  split
  · rename_i h
    obtain ⟨h2, _, _⟩ := schedB_at h.1
    rw [sumsF_length]; omega
  · simp
theorem sumR_length (third : Bool) (q : Int) (k : Nat) (l : List Int) (ll : List (List Int)) : (sumR third q k l ll).length ≤ 14 := by
  unfold sumR
  split
  · rename_i h
    obtain ⟨h2, _, _⟩ := schedB_at h.1
    rw [sumsF_length]; omega
  · simp

theorem specPointsOf_c (q : Int) (v : Value) (k : Nat) (l : List Int) (x : Value) (ll : List (List Int)) (H : AH) (hv : Rd 14 H v k l) (hk : k ≤ 4294967296) (hx : Rd2 1 H x ll) (hl : ll.length ≤ 4294967296) (hl2 : ∀ y ∈ ll, y.length ≤ 4294967296) :
    ACalls Try.prog 73 [.agg #[.int .i64 q, v], x] H (fun r H' => ∃ u, r = .tuple #[u, .int .i64 (codeS q k l (resB q.toNat k l ll))] ∧ Up H.next H H' ∧ Fr 1 2 H.next H'.next H' u (ptsR q k l ll).length (ptsR q k l ll)) := by
  refine ACalls.wf (by kernel_rfl) fun hs => acalls_of_awp [.tmp 4, .tmp 5] Try.func73 (by kernel_rfl) rfl rfl (Nat.le_of_ble_eq_true rfl) (by kernel_rfl) ?_
  have hone := hv.one
  have up : Up H.next H (H.push ⟨32, true, [.int .i64 q, v]⟩) := (Up.refl _ H).push (Nat.le_refl _) _
  have e1 : (H.push ⟨32, true, [.int .i64 q, v]⟩).row H.next = some ⟨32, true, [.int .i64 q, v]⟩ := by rw [AH.push_row, if_pos rfl]
  have n1 : (H.push ⟨32, true, [.int .i64 q, v]⟩).next = H.next + 1 := rfl
  try simp (disch := first | omega | (simp only [ints_length, List.length_replicate, List.length_set] <;> omega)) only [Sall,evalOp,init,binE,binI,unE,convE,okNil,builtE,gv,TD.isAgg,resV,↓reduceIte,Nat.reduceEqDiff,reduceCtorEq,Nat.reduceAdd,Nat.reduceMul,Nat.reduceLeDiff,quietOp,blindOp,Int.reduceEq,Int.reduceLT,Int.reduceLE,Nat.reduceLT,tiA, hone]
  revert up e1 n1
  generalize H.push ⟨32, true, [.int .i64 q, v]⟩ = H1
  intro up e1 n1
  have hv1 := hv.same (up.le hs).row
  have hx1 := hx.same (up.le hs).row
  refine (l10Code_c q v k l x ll (.slice none 0 0) 0 [] H1 hv1 hk hx1 hl hl2 (fr_nil 0 0 0 _).rd (by omega)).to ?_
  rw [show (resB q.toNat k l ll && (List.range 0).all fun i => decide (0 ≤ ([] : List Int).getD i 0 ∧ ([] : List Int).getD i 0 ≤ q - 1)) = resB q.toNat k l ll from Bool.and_true _]
  by_cases hok : schedB q k l = true ∧ resB q.toNat k l ll = true
  · obtain ⟨hb, hres⟩ := hok
    obtain ⟨h2, _, _⟩ := schedB_at hb
    obtain ⟨n, rfl⟩ : ∃ n : Nat, q = n := ⟨q.toNat, by omega⟩
    unfold ptsR
    rw [if_pos ⟨hb, hres⟩, codeS_yes hb hres]
    rw [Int.toNat_natCast] at hres ⊢
    try simp (disch := first | omega | (simp only [ints_length, List.length_replicate, List.length_set] <;> omega)) only [Sall,evalOp,init,binE,binI,unE,convE,okNil,builtE,gv,TD.isAgg,resV,↓reduceIte,Nat.reduceEqDiff,reduceCtorEq,Nat.reduceAdd,Nat.reduceMul,Nat.reduceLeDiff,quietOp,blindOp,Int.reduceEq,Int.reduceLT,Int.reduceLE,Nat.reduceLT,tiA, bne_self_eq_false, e1, builtE, hx1.len]
    refine (l10Points_c n v k l x ll ll.length H1 hb hres (Nat.le_refl _) hl hv1 hx1).mono ?_
    rintro u H2 ⟨up2, hf⟩
    have hu := hf.rd.one
    refine Holds.mp ?_
    try simp (disch := first | omega | (simp only [ints_length, List.length_replicate, List.length_set] <;> omega)) only [Sall,evalOp,init,binE,binI,unE,convE,okNil,builtE,gv,TD.isAgg,resV,↓reduceIte,Nat.reduceEqDiff,reduceCtorEq,Nat.reduceAdd,Nat.reduceMul,Nat.reduceLeDiff,quietOp,blindOp,Int.reduceEq,Int.reduceLT,Int.reduceLE,Nat.reduceLT,tiA, hu]
    refine ⟨u, rfl, up.trans up2 (by omega), ?_⟩
    rw [sumsF_length]
    exact hf.wide (by omega) (Nat.le_refl _)
  · have ec := codeS_no hok
    unfold ptsR
    rw [if_neg hok]
    try simp (disch := first | omega | (simp only [ints_length, List.length_replicate, List.length_set] <;> omega)) only [Sall,evalOp,init,binE,binI,unE,convE,okNil,builtE,gv,TD.isAgg,resV,↓reduceIte,Nat.reduceEqDiff,reduceCtorEq,Nat.reduceAdd,Nat.reduceMul,Nat.reduceLeDiff,quietOp,blindOp,Int.reduceEq,Int.reduceLT,Int.reduceLE,Nat.reduceLT,tiA, ec]
    exact ⟨_, rfl, up, fr_nil _ _ _ _⟩

theorem PointsOf_c (q : Int) (v : Value) (k : Nat) (l : List Int) (x : Value) (ll : List (List Int)) (H : AH) (hv : Rd 14 H v k l) (hk : k ≤ 4294967296) (hx : Rd2 1 H x ll) (hl : ll.length ≤ 4294967296) (hl2 : ∀ y ∈ ll, y.length ≤ 4294967296) :
    ACalls Try.prog 72 [.agg #[.int .i64 q, v], x] H (fun r H' => ∃ u, r = .tuple #[u, .int .i64 (codeS q k l (resB q.toNat k l ll))] ∧ Up H.next H H' ∧ Fr 1 2 H.next H'.next H' u (ptsR q k l ll).length (ptsR q k l ll)) := by
  refine ACalls.wf (by kernel_rfl) fun hs => acalls_of_awp [.tmp 4, .tmp 5] Try.func72 (by kernel_rfl) rfl rfl (Nat.le_of_ble_eq_true rfl) (by kernel_rfl) ?_
  have hone := hv.one
  have up : Up H.next H (H.push ⟨32, true, [.int .i64 q, v]⟩) := (Up.refl _ H).push (Nat.le_refl _) _
  have e1 : (H.push ⟨32, true, [.int .i64 q, v]⟩).row H.next = some ⟨32, true, [.int .i64 q, v]⟩ := by rw [AH.push_row, if_pos rfl]
  have n1 : (H.push ⟨32, true, [.int .i64 q, v]⟩).next = H.next + 1 := rfl
  try simp (disch := first | omega | (simp only [ints_length, List.length_replicate, List.length_set] <;> omega)) only [Sall,evalOp,init,binE,binI,unE,convE,okNil,builtE,gv,TD.isAgg,resV,↓reduceIte,Nat.reduceEqDiff,reduceCtorEq,Nat.reduceAdd,Nat.reduceMul,Nat.reduceLeDiff,quietOp,blindOp,Int.reduceEq,Int.reduceLT,Int.reduceLE,Nat.reduceLT,tiA, hone]
  revert up e1 n1
  generalize H.push ⟨32, true, [.int .i64 q, v]⟩ = H1
  intro up e1 n1
  have hv1 := hv.same (up.le hs).row
  have hx1 := hx.same (up.le hs).row
  refine (resultsCode_c q v k l x ll 92 [] true H1 hv1 hk hx1 hl hl2 fun H' _ _ _ => always_c H').to ?_
  rw [Bool.and_true]
  by_cases hok : schedB q k l = true ∧ resB q.toNat k l ll = true
  · obtain ⟨hb, hres⟩ := hok
    obtain ⟨h2, _, _⟩ := schedB_at hb
    obtain ⟨n, rfl⟩ : ∃ n : Nat, q = n := ⟨q.toNat, by omega⟩
    unfold ptsR
    rw [if_pos ⟨hb, hres⟩, codeS_yes hb hres]
    rw [Int.toNat_natCast] at hres ⊢
    try simp (disch := first | omega | (simp only [ints_length, List.length_replicate, List.length_set] <;> omega)) only [Sall,evalOp,init,binE,binI,unE,convE,okNil,builtE,gv,TD.isAgg,resV,↓reduceIte,Nat.reduceEqDiff,reduceCtorEq,Nat.reduceAdd,Nat.reduceMul,Nat.reduceLeDiff,quietOp,blindOp,Int.reduceEq,Int.reduceLT,Int.reduceLE,Nat.reduceLT,tiA, bne_self_eq_false, e1, builtE, hx1.len]
    refine (points_c n v k l x ll  H1 hb hres  hl hv1 hx1).mono ?_
    rintro u H2 ⟨up2, hf⟩
    have hu := hf.rd.one
    refine Holds.mp ?_
    try simp (disch := first | omega | (simp only [ints_length, List.length_replicate, List.length_set] <;> omega)) only [Sall,evalOp,init,binE,binI,unE,convE,okNil,builtE,gv,TD.isAgg,resV,↓reduceIte,Nat.reduceEqDiff,reduceCtorEq,Nat.reduceAdd,Nat.reduceMul,Nat.reduceLeDiff,quietOp,blindOp,Int.reduceEq,Int.reduceLT,Int.reduceLE,Nat.reduceLT,tiA, hu]
    refine ⟨u, rfl, up.trans up2 (by omega), ?_⟩
    rw [sumsF_length]
    exact hf.wide (by omega) (Nat.le_refl _)
  · have ec := codeS_no hok
    unfold ptsR
    rw [if_neg hok]
    try simp (disch := first | omega | (simp only [ints_length, List.length_replicate, List.length_set] <;> omega)) only [Sall,evalOp,init,binE,binI,unE,convE,okNil,builtE,gv,TD.isAgg,resV,↓reduceIte,Nat.reduceEqDiff,reduceCtorEq,Nat.reduceAdd,Nat.reduceMul,Nat.reduceLeDiff,quietOp,blindOp,Int.reduceEq,Int.reduceLT,Int.reduceLE,Nat.reduceLT,tiA, ec]
    exact ⟨_, rfl, up, fr_nil _ _ _ _⟩

theorem specSecondNumbers_c (q : Int) (v : Value) (k : Nat) (l : List Int) (x : Value) (ll : List (List Int)) (H : AH) (hv : Rd 14 H v k l) (hk : k ≤ 4294967296) (hx : Rd2 1 H x ll) (hl : ll.length ≤ 4294967296) (hl2 : ∀ y ∈ ll, y.length ≤ 4294967296) :
    ACalls Try.prog 75 [.agg #[.int .i64 q, v], x] H (fun r H' => ∃ u, r = .tuple #[u, .int .i64 (codeS q k l (resB q.toNat k l ll))] ∧ Up H.next H H' ∧ Fr 1 2 H.next H'.next H' u (sumR false q k l ll).length (sumR false q k l ll)) := by
  refine ACalls.wf (by kernel_rfl) fun hs => acalls_of_awp [.tmp 4, .tmp 5] Try.func75 (by kernel_rfl) rfl rfl (Nat.le_of_ble_eq_true rfl) (by kernel_rfl) ?_
  have hone := hv.one
  have up : Up H.next H (H.push ⟨32, true, [.int .i64 q, v]⟩) := (Up.refl _ H).push (Nat.le_refl _) _
  have e1 : (H.push ⟨32, true, [.int .i64 q, v]⟩).row H.next = some ⟨32, true, [.int .i64 q, v]⟩ := by rw [AH.push_row, if_pos rfl]
  have n1 : (H.push ⟨32, true, [.int .i64 q, v]⟩).next = H.next + 1 := rfl
  try simp (disch := first | omega | (simp only [ints_length, List.length_replicate, List.length_set] <;> omega)) only [Sall,evalOp,init,binE,binI,unE,convE,okNil,builtE,gv,TD.isAgg,resV,↓reduceIte,Nat.reduceEqDiff,reduceCtorEq,Nat.reduceAdd,Nat.reduceMul,Nat.reduceLeDiff,quietOp,blindOp,Int.reduceEq,Int.reduceLT,Int.reduceLE,Nat.reduceLT,tiA, hone]
  revert up e1 n1
  generalize H.push ⟨32, true, [.int .i64 q, v]⟩ = H1
  intro up e1 n1
  have hv1 := hv.same (up.le hs).row
  have hx1 := hx.same (up.le hs).row
  refine (l10Code_c q v k l x ll (.slice none 0 0) 0 [] H1 hv1 hk hx1 hl hl2 (fr_nil 0 0 0 _).rd (by omega)).to ?_
  rw [show (resB q.toNat k l ll && (List.range 0).all fun i => decide (0 ≤ ([] : List Int).getD i 0 ∧ ([] : List Int).getD i 0 ≤ q - 1)) = resB q.toNat k l ll from Bool.and_true _]
  by_cases hok : schedB q k l = true ∧ resB q.toNat k l ll = true
  · obtain ⟨hb, hres⟩ := hok
    obtain ⟨h2, _, _⟩ := schedB_at hb
    obtain ⟨n, rfl⟩ : ∃ n : Nat, q = n := ⟨q.toNat, by omega⟩
    unfold sumR
    rw [if_pos ⟨hb, hres⟩, codeS_yes hb hres]
    rw [Int.toNat_natCast] at hres ⊢
    try simp (disch := first | omega | (simp only [ints_length, List.length_replicate, List.length_set] <;> omega)) only [Sall,evalOp,init,binE,binI,unE,convE,okNil,builtE,gv,TD.isAgg,resV,↓reduceIte,Nat.reduceEqDiff,reduceCtorEq,Nat.reduceAdd,Nat.reduceMul,Nat.reduceLeDiff,quietOp,blindOp,Int.reduceEq,Int.reduceLT,Int.reduceLE,Nat.reduceLT,tiA, bne_self_eq_false, e1, builtE, hx1.len]
    refine (l10Sums_c n v k l x ll false H1 hb hres  hl hv1 hx1).mono ?_
    rintro u H2 ⟨up2, hf⟩
    have hu := hf.rd.one
    refine Holds.mp ?_
    try simp (disch := first | omega | (simp only [ints_length, List.length_replicate, List.length_set] <;> omega)) only [Sall,evalOp,init,binE,binI,unE,convE,okNil,builtE,gv,TD.isAgg,resV,↓reduceIte,Nat.reduceEqDiff,reduceCtorEq,Nat.reduceAdd,Nat.reduceMul,Nat.reduceLeDiff,quietOp,blindOp,Int.reduceEq,Int.reduceLT,Int.reduceLE,Nat.reduceLT,tiA, hu]
    refine ⟨u, rfl, up.trans up2 (by omega), ?_⟩
    rw [sumsF_length]
    exact hf.wide (by omega) (Nat.le_refl _)
  · have ec := codeS_no hok
    unfold sumR
    rw [if_neg hok]
    try simp (disch := first | omega | (simp only [ints_length, List.length_replicate, List.length_set] <;> omega)) only [Sall,evalOp,init,binE,binI,unE,convE,okNil,builtE,gv,TD.isAgg,resV,↓reduceIte,Nat.reduceEqDiff,reduceCtorEq,Nat.reduceAdd,Nat.reduceMul,Nat.reduceLeDiff,quietOp,blindOp,Int.reduceEq,Int.reduceLT,Int.reduceLE,Nat.reduceLT,tiA, ec]
    exact ⟨_, rfl, up, fr_nil _ _ _ _⟩

theorem SecondNumbers_c (q : Int) (v : Value) (k : Nat) (l : List Int) (x : Value) (ll : List (List Int)) (H : AH) (hv : Rd 14 H v k l) (hk : k ≤ 4294967296) (hx : Rd2 1 H x ll) (hl : ll.length ≤ 4294967296) (hl2 : ∀ y ∈ ll, y.length ≤ 4294967296) :
    ACalls Try.prog 74 [.agg #[.int .i64 q, v], x] H (fun r H' => ∃ u, r = .tuple #[u, .int .i64 (codeS q k l (resB q.toNat k l ll))] ∧ Up H.next H H' ∧ Fr 1 2 H.next H'.next H' u (sumR false q k l ll).length (sumR false q k l ll)) := by
  refine ACalls.wf (by kernel_rfl) fun hs => acalls_of_awp [.tmp 4, .tmp 5] Try.func74 (by kernel_rfl) rfl rfl (Nat.le_of_ble_eq_true rfl) (by kernel_rfl) ?_
  have hone := hv.one
  have up : Up H.next H (H.push ⟨32, true, [.int .i64 q, v]⟩) := (Up.refl _ H).push (Nat.le_refl _) _
  have e1 : (H.push ⟨32, true, [.int .i64 q, v]⟩).row H.next = some ⟨32, true, [.int .i64 q, v]⟩ := by rw [AH.push_row, if_pos rfl]
  have n1 : (H.push ⟨32, true, [.int .i64 q, v]⟩).next = H.next + 1 := rfl
  try simp (disch := first | omega | (simp only [ints_length, List.length_replicate, List.length_set] <;> omega)) only [Sall,evalOp,init,binE,binI,unE,convE,okNil,builtE,gv,TD.isAgg,resV,↓reduceIte,Nat.reduceEqDiff,reduceCtorEq,Nat.reduceAdd,Nat.reduceMul,Nat.reduceLeDiff,quietOp,blindOp,Int.reduceEq,Int.reduceLT,Int.reduceLE,Nat.reduceLT,tiA, hone]
  revert up e1 n1
  generalize H.push ⟨32, true, [.int .i64 q, v]⟩ = H1
  intro up e1 n1
  have hv1 := hv.same (up.le hs).row
  have hx1 := hx.same (up.le hs).row
  refine (resultsCode_c q v k l x ll 92 [] true H1 hv1 hk hx1 hl hl2 fun H' _ _ _ => always_c H').to ?_
  rw [Bool.and_true]
  by_cases hok : schedB q k l = true ∧ resB q.toNat k l ll = true
  · obtain ⟨hb, hres⟩ := hok
    obtain ⟨h2, _, _⟩ := schedB_at hb
    obtain ⟨n, rfl⟩ : ∃ n : Nat, q = n := ⟨q.toNat, by omega⟩
    unfold sumR
    rw [if_pos ⟨hb, hres⟩, codeS_yes hb hres]
    rw [Int.toNat_natCast] at hres ⊢
    try simp (disch := first | omega | (simp only [ints_length, List.length_replicate, List.length_set] <;> omega)) only [Sall,evalOp,init,binE,binI,unE,convE,okNil,builtE,gv,TD.isAgg,resV,↓reduceIte,Nat.reduceEqDiff,reduceCtorEq,Nat.reduceAdd,Nat.reduceMul,Nat.reduceLeDiff,quietOp,blindOp,Int.reduceEq,Int.reduceLT,Int.reduceLE,Nat.reduceLT,tiA, bne_self_eq_false, e1, builtE, hx1.len]
    refine (second_c n v k l x ll  H1 hb hres  hl hv1 hx1).mono ?_
    rintro u H2 ⟨up2, hf⟩
    have hu := hf.rd.one
    refine Holds.mp ?_
    try simp (disch := first | omega | (simp only [ints_length, List.length_replicate, List.length_set] <;> omega)) only [Sall,evalOp,init,binE,binI,unE,convE,okNil,builtE,gv,TD.isAgg,resV,↓reduceIte,Nat.reduceEqDiff,reduceCtorEq,Nat.reduceAdd,Nat.reduceMul,Nat.reduceLeDiff,quietOp,blindOp,Int.reduceEq,Int.reduceLT,Int.reduceLE,Nat.reduceLT,tiA, hu]
    refine ⟨u, rfl, up.trans up2 (by omega), ?_⟩
    rw [sumsF_length]
    rw [second_sum] at hf
    exact hf.wide (by omega) (Nat.le_refl _)
  · have ec := codeS_no hok
    unfold sumR
    rw [if_neg hok]
    try simp (disch := first | omega | (simp only [ints_length, List.length_replicate, List.length_set] <;> omega)) only [Sall,evalOp,init,binE,binI,unE,convE,okNil,builtE,gv,TD.isAgg,resV,↓reduceIte,Nat.reduceEqDiff,reduceCtorEq,Nat.reduceAdd,Nat.reduceMul,Nat.reduceLeDiff,quietOp,blindOp,Int.reduceEq,Int.reduceLT,Int.reduceLE,Nat.reduceLT,tiA, ec]
    exact ⟨_, rfl, up, fr_nil _ _ _ _⟩
end Go.Proofs.Ytgkmdfjjlghecaa.A
end

section
set_option linter.unusedSimpArgs false
set_option linter.unusedVariables false
set_option maxRecDepth 100000
set_option maxHeartbeats 2000000
namespace Go.Proofs.Ytgkmdfjjlghecaa.A
open Go Go.Abs Go.RowKit

theorem third1_c (b own : Int) (pp : Nat) (pv : Value) (m : Nat) (pts : List Int) (H : AH) (hp : H.row pp = some ⟨38, true, [pv]⟩) (hv : Rd 1 H pv m pts) (hb : 0 ≤ b ∧ b < m) :
    ACalls Try.prog 202 [.int .i64 b, .int .i64 own, .pointer (some ⟨pp, 0, none⟩)] H (is (.int .i64 (IntKind.i64.wrap (own * pts.getD b.toNat 0))) H) := by
  refine acalls_of_awp [.tmp 5] Try.func202 (by kernel_rfl) rfl rfl (Nat.le_of_ble_eq_true rfl) (by kernel_rfl) ?_
  obtain ⟨i, o, u, c, r, rfl, hr, hc, hs, _⟩ := hv.get (by omega)
  have h1 := hs b.toNat (by omega)
  try simp (disch := first | omega | (simp only [ints_length, List.length_replicate, List.length_set] <;> omega)) only [Sall,evalOp,init,binE,binI,unE,convE,okNil,builtE,gv,TD.isAgg,resV,↓reduceIte,Nat.reduceEqDiff,reduceCtorEq,Nat.reduceAdd,Nat.reduceMul,Nat.reduceLeDiff,quietOp,blindOp,Int.reduceEq,Int.reduceLT,Int.reduceLE,Nat.reduceLT,tiA, hp, hr, h1, is]
  exact hb

theorem third_c (n : Nat) (v : Value) (k : Nat) (l : List Int) (x : Value) (ll : List (List Int)) (H : AH) (hb : schedB n k l = true) (hres : resB n k l ll = true) (hl : ll.length ≤ 4294967296) (hv : Rd 14 H v k l) (hx : Rd2 1 H x ll) :
    ACalls Try.prog 151 [.agg #[.int .i64 n, v], x] H (fun u H' => Up H.next H H' ∧ Fr 1 2 H.next H'.next H' u n (sumsF n (fun b o => IntKind.i64.wrap (o * (sumsF n (fun _ o => o) (meets n l ll ll.length)).getD b.toNat 0)) (meets n l ll ll.length))) := by
  refine ACalls.wf (by kernel_rfl) fun hs => acalls_of_awp [.tmp 4] Try.func151 (by kernel_rfl) rfl rfl (Nat.le_of_ble_eq_true rfl) (by kernel_rfl) ?_
  have hone := hv.one
  have up : Up H.next H (H.push ⟨32, true, [.int .i64 n, v]⟩) := (Up.refl _ H).push (Nat.le_refl _) _
  have e1 : (H.push ⟨32, true, [.int .i64 n, v]⟩).row H.next = some ⟨32, true, [.int .i64 n, v]⟩ := by rw [AH.push_row, if_pos rfl]
  have n1 : (H.push ⟨32, true, [.int .i64 n, v]⟩).next = H.next + 1 := rfl
  try simp (disch := first | omega | (simp only [ints_length, List.length_replicate, List.length_set] <;> omega)) only [Sall,evalOp,init,binE,binI,unE,convE,okNil,builtE,gv,TD.isAgg,resV,↓reduceIte,Nat.reduceEqDiff,reduceCtorEq,Nat.reduceAdd,Nat.reduceMul,Nat.reduceLeDiff,quietOp,blindOp,Int.reduceEq,Int.reduceLT,Int.reduceLE,Nat.reduceLT,tiA, hone]
  revert up e1 n1
  generalize H.push ⟨32, true, [.int .i64 n, v]⟩ = H1
  intro up e1 n1
  refine (points_c n v k l x ll H1 hb hres hl (hv.same (up.le hs).row) (hx.same (up.le hs).row)).mono ?_
  rintro u H2 ⟨up2, hf⟩
  have n2 := up2.next
  have u2 : Up H.next H H2 := up.trans up2 (by omega)
  have e2 : H2.row H.next = some ⟨32, true, [.int .i64 n, v]⟩ := by rw [up2.row _ (by omega), e1]
  have hu := hf.rd.one
  have ne : ¬ H.next = H2.next := by omega
  refine Holds.mp ?_
  try simp (disch := first | omega | (simp only [ints_length, List.length_replicate, List.length_set] <;> omega)) only [Sall,evalOp,init,binE,binI,unE,convE,okNil,builtE,gv,TD.isAgg,resV,↓reduceIte,Nat.reduceEqDiff,reduceCtorEq,Nat.reduceAdd,Nat.reduceMul,Nat.reduceLeDiff,quietOp,blindOp,Int.reduceEq,Int.reduceLT,Int.reduceLE,Nat.reduceLT,tiA, hone, hu, e2, ne, push_setCells, List.mem_cons, List.not_mem_nil, or_false, forall_eq_or_imp, forall_eq, Array.size_empty]
  obtain ⟨H3, e3⟩ : ∃ H3, H3 = H2.push ⟨38, true, [u]⟩ := ⟨_, rfl⟩
  have s3 : ∀ i, i < H2.next → H3.row i = H2.row i := fun i hi => by rw [e3, AH.push_row, if_neg (by omega)]
  have r3 : H3.row H2.next = some ⟨38, true, [u]⟩ := by rw [e3, AH.push_row, if_pos rfl]
  have n3 : H3.next = H2.next + 1 := by rw [e3]; rfl
  rw [← e3]
  clear e3
  have u3 : Up H.next H H3 := ⟨by have := u2.next; omega, fun i hi => by rw [s3 i (by omega), u2.row i hi]⟩
  have hf3 : Fr 1 2 H1.next H2.next H3 u n (sumsF n (fun _ o => o) (meets n l ll ll.length)) := hf.same fun i _ hi => s3 i hi
  refine (summed_c n v k l x ll 202 [.pointer (some ⟨H2.next, 0, none⟩)] (fun b o => IntKind.i64.wrap (o * (sumsF n (fun _ o => o) (meets n l ll ll.length)).getD b.toNat 0)) H3 hb hres hl (hv.same (u3.le hs).row) (hx.same (u3.le hs).row) ?_).mono ?_
  · intro H' b own up' hb' _
    exact third1_c b own H2.next u n _ H' (by rw [up'.row _ (by omega), r3]) (hf3.same (fun i _ hi => up'.row i (by omega))).rd hb'
  · rintro w H4 ⟨up4, hg⟩
    refine Holds.mp ?_
    try simp (disch := first | omega | (simp only [ints_length, List.length_replicate, List.length_set] <;> omega)) only [Sall,evalOp,init,binE,binI,unE,convE,okNil,builtE,gv,TD.isAgg,resV,↓reduceIte,Nat.reduceEqDiff,reduceCtorEq,Nat.reduceAdd,Nat.reduceMul,Nat.reduceLeDiff,quietOp,blindOp,Int.reduceEq,Int.reduceLT,Int.reduceLE,Nat.reduceLT,tiA, true_and]
    exact ⟨u3.trans up4 (by omega), hg.wide (by omega) (Nat.le_refl _)⟩

theorem third_sum (n : Nat) (l : List Int) (ll : List (List Int)) : sumsF n (fun b o => IntKind.i64.wrap (o * (sumsF n (fun _ o => o) (meets n l ll ll.length)).getD b.toNat 0)) (meets n l ll ll.length) = sumsF n (sumF true (sumsF n (fun _ o => o) (meets n l ll ll.length))) (meets n l ll ll.length) := by
  refine sumsF_congr (fun b o => ?_) _
  unfold sumF
  rw [if_pos rfl]

theorem specThirdNumbers_c (q : Int) (v : Value) (k : Nat) (l : List Int) (x : Value) (ll : List (List Int)) (H : AH) (hv : Rd 14 H v k l) (hk : k ≤ 4294967296) (hx : Rd2 1 H x ll) (hl : ll.length ≤ 4294967296) (hl2 : ∀ y ∈ ll, y.length ≤ 4294967296) :
    ACalls Try.prog 77 [.agg #[.int .i64 q, v], x] H (fun r H' => ∃ u, r = .tuple #[u, .int .i64 (codeS q k l (resB q.toNat k l ll))] ∧ Up H.next H H' ∧ Fr 1 2 H.next H'.next H' u (sumR true q k l ll).length (sumR true q k l ll)) := by
  refine ACalls.wf (by kernel_rfl) fun hs => acalls_of_awp [.tmp 4, .tmp 5] Try.func77 (by kernel_rfl) rfl rfl (Nat.le_of_ble_eq_true rfl) (by kernel_rfl) ?_
  have hone := hv.one
  have up : Up H.next H (H.push ⟨32, true, [.int .i64 q, v]⟩) := (Up.refl _ H).push (Nat.le_refl _) _
  have e1 : (H.push ⟨32, true, [.int .i64 q, v]⟩).row H.next = some ⟨32, true, [.int .i64 q, v]⟩ := by rw [AH.push_row, if_pos rfl]
  have n1 : (H.push ⟨32, true, [.int .i64 q, v]⟩).next = H.next + 1 := rfl
  try simp (disch := first | omega | (simp only [ints_length, List.length_replicate, List.length_set] <;> omega)) only [Sall,evalOp,init,binE,binI,unE,convE,okNil,builtE,gv,TD.isAgg,resV,↓reduceIte,Nat.reduceEqDiff,reduceCtorEq,Nat.reduceAdd,Nat.reduceMul,Nat.reduceLeDiff,quietOp,blindOp,Int.reduceEq,Int.reduceLT,Int.reduceLE,Nat.reduceLT,tiA, hone]
  revert up e1 n1
  generalize H.push ⟨32, true, [.int .i64 q, v]⟩ = H1
  intro up e1 n1
  have hv1 := hv.same (up.le hs).row
  have hx1 := hx.same (up.le hs).row
  refine (l10Code_c q v k l x ll (.slice none 0 0) 0 [] H1 hv1 hk hx1 hl hl2 (fr_nil 0 0 0 _).rd (by omega)).to ?_
  rw [show (resB q.toNat k l ll && (List.range 0).all fun i => decide (0 ≤ ([] : List Int).getD i 0 ∧ ([] : List Int).getD i 0 ≤ q - 1)) = resB q.toNat k l ll from Bool.and_true _]
  by_cases hok : schedB q k l = true ∧ resB q.toNat k l ll = true
  · obtain ⟨hb, hres⟩ := hok
    obtain ⟨h2, _, _⟩ := schedB_at hb
    obtain ⟨n, rfl⟩ : ∃ n : Nat, q = n := ⟨q.toNat, by omega⟩
    unfold sumR
    rw [if_pos ⟨hb, hres⟩, codeS_yes hb hres]
    rw [Int.toNat_natCast] at hres ⊢
    try simp (disch := first | omega | (simp only [ints_length, List.length_replicate, List.length_set] <;> omega)) only [Sall,evalOp,init,binE,binI,unE,convE,okNil,builtE,gv,TD.isAgg,resV,↓reduceIte,Nat.reduceEqDiff,reduceCtorEq,Nat.reduceAdd,Nat.reduceMul,Nat.reduceLeDiff,quietOp,blindOp,Int.reduceEq,Int.reduceLT,Int.reduceLE,Nat.reduceLT,tiA, bne_self_eq_false, e1, builtE, hx1.len]
    refine (l10Sums_c n v k l x ll true H1 hb hres  hl hv1 hx1).mono ?_
    rintro u H2 ⟨up2, hf⟩
    have hu := hf.rd.one
    refine Holds.mp ?_
    try simp (disch := first | omega | (simp only [ints_length, List.length_replicate, List.length_set] <;> omega)) only [Sall,evalOp,init,binE,binI,unE,convE,okNil,builtE,gv,TD.isAgg,resV,↓reduceIte,Nat.reduceEqDiff,reduceCtorEq,Nat.reduceAdd,Nat.reduceMul,Nat.reduceLeDiff,quietOp,blindOp,Int.reduceEq,Int.reduceLT,Int.reduceLE,Nat.reduceLT,tiA, hu]
    refine ⟨u, rfl, up.trans up2 (by omega), ?_⟩
    rw [sumsF_length]
    exact hf.wide (by omega) (Nat.le_refl _)
  · have ec := codeS_no hok
    unfold sumR
    rw [if_neg hok]
    try simp (disch := first | omega | (simp only [ints_length, List.length_replicate, List.length_set] <;> omega)) only [Sall,evalOp,init,binE,binI,unE,convE,okNil,builtE,gv,TD.isAgg,resV,↓reduceIte,Nat.reduceEqDiff,reduceCtorEq,Nat.reduceAdd,Nat.reduceMul,Nat.reduceLeDiff,quietOp,blindOp,Int.reduceEq,Int.reduceLT,Int.reduceLE,Nat.reduceLT,tiA, ec]
    exact ⟨_, rfl, up, fr_nil _ _ _ _⟩

theorem ThirdNumbers_c (q : Int) (v : Value) (k : Nat) (l : List Int) (x : Value) (ll : List (List Int)) (H : AH) (hv : Rd 14 H v k l) (hk : k ≤ 4294967296) (hx : Rd2 1 H x ll) (hl : ll.length ≤ 4294967296) (hl2 : ∀ y ∈ ll, y.length ≤ 4294967296) :
    ACalls Try.prog 76 [.agg #[.int .i64 q, v], x] H (fun r H' => ∃ u, r = .tuple #[u, .int .i64 (codeS q k l (resB q.toNat k l ll))] ∧ Up H.next H H' ∧ Fr 1 2 H.next H'.next H' u (sumR true q k l ll).length (sumR true q k l ll)) := by
  refine ACalls.wf (by kernel_rfl) fun hs => acalls_of_awp [.tmp 4, .tmp 5] Try.func76 (by kernel_rfl) rfl rfl (Nat.le_of_ble_eq_true rfl) (by kernel_rfl) ?_
  have hone := hv.one
  have up : Up H.next H (H.push ⟨32, true, [.int .i64 q, v]⟩) := (Up.refl _ H).push (Nat.le_refl _) _
  have e1 : (H.push ⟨32, true, [.int .i64 q, v]⟩).row H.next = some ⟨32, true, [.int .i64 q, v]⟩ := by rw [AH.push_row, if_pos rfl]
  have n1 : (H.push ⟨32, true, [.int .i64 q, v]⟩).next = H.next + 1 := rfl
  try simp (disch := first | omega | (simp only [ints_length, List.length_replicate, List.length_set] <;> omega)) only [Sall,evalOp,init,binE,binI,unE,convE,okNil,builtE,gv,TD.isAgg,resV,↓reduceIte,Nat.reduceEqDiff,reduceCtorEq,Nat.reduceAdd,Nat.reduceMul,Nat.reduceLeDiff,quietOp,blindOp,Int.reduceEq,Int.reduceLT,Int.reduceLE,Nat.reduceLT,tiA, hone]
  revert up e1 n1
  generalize H.push ⟨32, true, [.int .i64 q, v]⟩ = H1
  intro up e1 n1
  have hv1 := hv.same (up.le hs).row
  have hx1 := hx.same (up.le hs).row
  refine (resultsCode_c q v k l x ll 92 [] true H1 hv1 hk hx1 hl hl2 fun H' _ _ _ => always_c H').to ?_
  rw [Bool.and_true]
  by_cases hok : schedB q k l = true ∧ resB q.toNat k l ll = true
  · obtain ⟨hb, hres⟩ := hok
    obtain ⟨h2, _, _⟩ := schedB_at hb
    obtain ⟨n, rfl⟩ : ∃ n : Nat, q = n := ⟨q.toNat, by omega⟩
    unfold sumR
    rw [if_pos ⟨hb, hres⟩, codeS_yes hb hres]
    rw [Int.toNat_natCast] at hres ⊢
    try simp (disch := first | omega | (simp only [ints_length, List.length_replicate, List.length_set] <;> omega)) only [Sall,evalOp,init,binE,binI,unE,convE,okNil,builtE,gv,TD.isAgg,resV,↓reduceIte,Nat.reduceEqDiff,reduceCtorEq,Nat.reduceAdd,Nat.reduceMul,Nat.reduceLeDiff,quietOp,blindOp,Int.reduceEq,Int.reduceLT,Int.reduceLE,Nat.reduceLT,tiA, bne_self_eq_false, e1, builtE, hx1.len]
    refine (third_c n v k l x ll  H1 hb hres  hl hv1 hx1).mono ?_
    rintro u H2 ⟨up2, hf⟩
    have hu := hf.rd.one
    refine Holds.mp ?_
    try simp (disch := first | omega | (simp only [ints_length, List.length_replicate, List.length_set] <;> omega)) only [Sall,evalOp,init,binE,binI,unE,convE,okNil,builtE,gv,TD.isAgg,resV,↓reduceIte,Nat.reduceEqDiff,reduceCtorEq,Nat.reduceAdd,Nat.reduceMul,Nat.reduceLeDiff,quietOp,blindOp,Int.reduceEq,Int.reduceLT,Int.reduceLE,Nat.reduceLT,tiA, hu]
    refine ⟨u, rfl, up.trans up2 (by omega), ?_⟩
    rw [sumsF_length]
    rw [third_sum] at hf
    exact hf.wide (by omega) (Nat.le_refl _)
  · have ec := codeS_no hok
    unfold sumR
    rw [if_neg hok]
    try simp (disch := first | omega | (simp only [ints_length, List.length_replicate, List.length_set] <;> omega)) only [Sall,evalOp,init,binE,binI,unE,convE,okNil,builtE,gv,TD.isAgg,resV,↓reduceIte,Nat.reduceEqDiff,reduceCtorEq,Nat.reduceAdd,Nat.reduceMul,Nat.reduceLeDiff,quietOp,blindOp,Int.reduceEq,Int.reduceLT,Int.reduceLE,Nat.reduceLT,tiA, ec]
    exact ⟨_, rfl, up, fr_nil _ _ _ _⟩
end Go.Proofs.Ytgkmdfjjlghecaa.A
end

section
set_option linter.unusedSimpArgs false
set_option linter.unusedVariables false
namespace Go.Abs
open Go Go.RowKit

def headIs (cs : List Nat) (i : Nat) : Bool := match cs with | c :: _ => i == c | [] => false

def okPool (ops : Array Oper) (post : OT) : Nat → List Nat → List Nat → Array Bool → Bool
  | 0, cs, fs, listed => cs.isEmpty && fs.isEmpty && okOT ops post listed
  | n + 1, cs, fs, listed =>
    if cs.isEmpty && fs.isEmpty then okOT ops post listed else
    !(Region.ready .any ops listed).isEmpty && (Region.ready .any ops listed).all (fun i => headIs cs i || fs.contains i) &&
    (match cs with | c :: cs' => (!(Region.ready .any ops listed).contains c) || okPool ops post n cs' fs (listed.setIfInBounds c true) | [] => true) &&
    fs.all fun a => (!(Region.ready .any ops listed).contains a) || okPool ops post n cs (fs.erase a) (listed.setIfInBounds a true)

def okPre (ops : Array Oper) (post : OT) (cs fs : List Nat) : List Nat → Array Bool → Bool
  | [], listed => okPool ops post (cs.length + fs.length) cs fs listed
  | i :: is, listed =>
    (match ops[i]? with
     | some o => if quietOp o.op = true then (Region.ready .any ops listed).contains i && Region.free .any ops listed i else Region.ready .any ops listed == [i]
     | none => false) && okPre ops post cs fs is (listed.setIfInBounds i true)

structure PoolJ (P : Program) (ops : Array Oper) (Q : T → AH → Prop) (post : OT) (J : List Nat → List Nat → T → AH → Prop) : Prop where
  call : ∀ c cs fs t H, J (c :: cs) fs t H → stepI P ops (J cs fs) c (ops.toList[c]?) t H
  free : ∀ a cs fs t H, a ∈ fs → J cs fs t H → stepI P ops (J cs (fs.erase a)) a (ops.toList[a]?) t H
  done : ∀ t H, J [] [] t H → awpT P ops Q post t H

theorem AAny_pool {P : Program} {ops : Array Oper} {Q : T → AH → Prop} {post : OT} {J : List Nat → List Nat → T → AH → Prop} (hJ : PoolJ P ops Q post J) : ∀ (n : Nat) (cs fs : List Nat) (listed : Array Bool) (t : T) (H : AH) (f : Nat), n + post.depth ≤ f → Closed ops listed → okPool ops post n cs fs listed = true → J cs fs t H → AAny P ops Q f listed t H
  | 0, cs, fs, listed, t, H, f, hf, hc, hok, h => by
    simp only [okPool, Bool.and_eq_true, List.isEmpty_iff] at hok
    obtain ⟨⟨rfl, rfl⟩, h3⟩ := hok
    exact AAny_tree post listed t H f (by omega) hc h3 (hJ.done t H h)
  | n + 1, cs, fs, listed, t, H, 0, hf, hc, hok, h => by omega
  | n + 1, cs, fs, listed, t, H, f + 1, hf, hc, hok, h => by
    unfold okPool at hok
    split at hok
    · rename_i he
      simp only [Bool.and_eq_true, List.isEmpty_iff] at he
      obtain ⟨rfl, rfl⟩ := he
      exact AAny_tree post listed t H (f + 1) (by omega) hc hok (hJ.done t H h)
    · simp only [Bool.and_eq_true] at hok
      obtain ⟨⟨⟨h1, h2⟩, h3⟩, h4⟩ := hok
      refine ⟨fun h0 => (by rw [h0] at h1; simp at h1), fun i hi => ?_⟩
      have hci : (Region.ready .any ops listed).contains i = true := by simpa using hi
      have h5 := List.all_eq_true.1 h2 i hi
      rw [Bool.or_eq_true] at h5
      rcases h5 with h5 | h5
      · cases cs with
        | nil => simp [headIs] at h5
        | cons c cs' =>
          have e : i = c := by simpa [headIs] using h5
          subst e
          simp only [hci, Bool.not_true, Bool.false_or] at h3
          exact aStep_mono (stepI_s (hJ.call i cs' fs t H h)) fun t' H' hk => ⟨hk.1, AAny_pool hJ n cs' fs _ t' H' f (by omega) (hc.set hi) h3 hk.2⟩
      · have hm : i ∈ fs := List.contains_iff_mem.1 h5
        have h6 := List.all_eq_true.1 h4 i hm
        simp only [hci, Bool.not_true, Bool.false_or] at h6
        exact aStep_mono (stepI_s (hJ.free i cs fs t H hm h)) fun t' H' hk => ⟨hk.1, AAny_pool hJ n cs (fs.erase i) _ t' H' f (by omega) (hc.set hi) h6 hk.2⟩

theorem AAny_pre {P : Program} {ops : Array Oper} {Q : T → AH → Prop} {post : OT} {J : List Nat → List Nat → T → AH → Prop} (hJ : PoolJ P ops Q post J) (cs fs : List Nat) : ∀ (is : List Nat) (listed : Array Bool) (t : T) (H : AH) (f : Nat), is.length + (cs.length + fs.length + post.depth) ≤ f → Closed ops listed → okPre ops post cs fs is listed = true → awpI P ops (J cs fs) is t H → AAny P ops Q f listed t H
  | [], listed, t, H, f, hf, hc, hok, h => AAny_pool hJ _ cs fs listed t H f (by simpa using hf) hc hok h
  | i :: is, listed, t, H, 0, hf, hc, hok, h => by simp at hf
  | i :: is, listed, t, H, f + 1, hf, hc, hok, h => by
    simp only [okPre, Bool.and_eq_true] at hok
    simp only [List.length_cons] at hf
    obtain ⟨h1, h2⟩ := hok
    unfold awpI at h
    cases ho : ops[i]? with
    | none => simp [ho] at h1
    | some o =>
      simp only [ho] at h1
      split at h1
      · rename_i hq
        simp only [Bool.and_eq_true] at h1
        obtain ⟨hr, hfr⟩ := h1
        have hr' : i ∈ Region.ready .any ops listed := by simpa using hr
        obtain ⟨v, hy, hk⟩ := aStep_quiet ho hq (stepI_s h)
        exact AAny_first ho hq f listed t H hc (Region.free_spec ho hfr) hr' hy (AAny_pre hJ cs fs is _ _ H f (by omega) (hc.set hr') h2 hk.2)
      · have hr : Region.ready .any ops listed = [i] := by simpa using h1
        refine ⟨fun h0 => (by rw [hr] at h0; cases h0), fun j hj => ?_⟩
        have hji : j = i := by rw [hr] at hj; simpa using hj
        subst hji
        exact aStep_mono (stepI_s h) fun t' H' hk => ⟨hk.1, AAny_pre hJ cs fs is _ t' H' f (by omega) (hc.set hj) h2 hk.2⟩

theorem draw_pool {P : Program} {id : Nat} {ops : Array Oper} {Q : Exit → T → AH → Prop} {t : T} {H : AH} (is cs fs : List Nat) (post : OT) (hm : P.follows .mixedOrders = true) (hok : okPre ops post cs fs is (Array.replicate ops.size false) = true) (hl : is.length + (cs.length + fs.length + post.depth) ≤ ops.size)
    (J : List Nat → List Nat → T → AH → Prop) (hJ : PoolJ P ops (Q .normal) post J) (h : awpI P ops (J cs fs) is t H) : awp P (.region id ops true) Q t H := by
  intro base ρ w tmps QC hS hd hQ
  have hA := AAny_pre hJ cs fs is _ t H ops.size hl ⟨by simp, fun j oj hj hl => by rw [getD_replicate_false'] at hl; cases hl⟩ hok h
  refine wp_region_any hm (AAny_ok ops.size _ t H ρ w.drew tmps hA ⟨hS.1.drew, hS.2.ext (ext_drew (base := base) (H := H) w)⟩ ?_ fun t' H' ρ' w' tmps' hq hs he hz => ?_)
  · intro o ho i hi
    have := List.all_eq_true.1 hd o ho
    simp only [hi, decide_eq_true_eq] at this
    exact this
  · exact hQ .normal t' H' ρ' w' tmps' hq hs ((ext_drew (base := base) (H := H) (ρ := ρ) w).trans he) hz
theorem ACalls.scf {P : Program} {f : FuncId} {args : List Value} {H : AH} {v0 : Value} {X : AH → Prop} (h : ACalls P f args H (fun v H' => v = v0 ∧ X H')) : ACalls P f args H (fun v H' => v = v0 ∧ X H' ∧ Sc H') :=
  h.sc.mono fun _ _ h => ⟨h.1.1, h.1.2, h.2⟩
end Go.Abs
end

section
set_option linter.unusedSimpArgs false
set_option linter.unusedVariables false
set_option maxRecDepth 100000
set_option maxHeartbeats 2000000
namespace Go.Proofs.Ytgkmdfjjlghecaa.A
open Go Go.Abs Go.RowKit

theorem isNaN_c (x : Int) (H : AH) : ACalls Try.prog 207 [.int .i64 x] H (is (.bool false) H) := by
  refine acalls_of_awp [.tmp 2] Try.func207 (by kernel_rfl) rfl rfl (Nat.le_of_ble_eq_true rfl) (by kernel_rfl) ?_
  try simp (disch := first | omega | (simp only [ints_length, List.length_replicate, List.length_set] <;> omega)) only [Sall,evalOp,init,binE,binI,unE,convE,okNil,builtE,gv,TD.isAgg,resV,↓reduceIte,Nat.reduceEqDiff,reduceCtorEq,Nat.reduceAdd,Nat.reduceMul,Nat.reduceLeDiff,quietOp,blindOp,Int.reduceEq,Int.reduceLT,Int.reduceLE,Nat.reduceLT,tiA, bne_self_eq_false, is]

theorem compare_c (x y : Int) (H : AH) : ACalls Try.prog 168 [.int .i64 x, .int .i64 y] H (is (.int .i64 (cmpI x y)) H) := by
  refine acalls_of_awp [.tmp 4] Try.func168 (by kernel_rfl) rfl rfl (Nat.le_of_ble_eq_true rfl) (by kernel_rfl) ?_
  try simp (disch := first | omega | (simp only [ints_length, List.length_replicate, List.length_set] <;> omega)) only [Sall,evalOp,init,binE,binI,unE,convE,okNil,builtE,gv,TD.isAgg,resV,↓reduceIte,Nat.reduceEqDiff,reduceCtorEq,Nat.reduceAdd,Nat.reduceMul,Nat.reduceLeDiff,quietOp,blindOp,Int.reduceEq,Int.reduceLT,Int.reduceLE,Nat.reduceLT,tiA, true_and]
  refine (isNaN_c x H).to ?_
  try simp (disch := first | omega | (simp only [ints_length, List.length_replicate, List.length_set] <;> omega)) only [Sall,evalOp,init,binE,binI,unE,convE,okNil,builtE,gv,TD.isAgg,resV,↓reduceIte,Nat.reduceEqDiff,reduceCtorEq,Nat.reduceAdd,Nat.reduceMul,Nat.reduceLeDiff,quietOp,blindOp,Int.reduceEq,Int.reduceLT,Int.reduceLE,Nat.reduceLT,tiA, true_and]
  refine (isNaN_c y H).to ?_
  try simp (disch := first | omega | (simp only [ints_length, List.length_replicate, List.length_set] <;> omega)) only [Sall,evalOp,init,binE,binI,unE,convE,okNil,builtE,gv,TD.isAgg,resV,↓reduceIte,Nat.reduceEqDiff,reduceCtorEq,Nat.reduceAdd,Nat.reduceMul,Nat.reduceLeDiff,quietOp,blindOp,Int.reduceEq,Int.reduceLT,Int.reduceLE,Nat.reduceLT,tiA, true_and]
  unfold cmpI
  by_cases h1 : x < y
  · rw [if_pos h1]
    try simp (disch := first | omega | (simp only [ints_length, List.length_replicate, List.length_set] <;> omega)) only [Sall,evalOp,init,binE,binI,unE,convE,okNil,builtE,gv,TD.isAgg,resV,↓reduceIte,Nat.reduceEqDiff,reduceCtorEq,Nat.reduceAdd,Nat.reduceMul,Nat.reduceLeDiff,quietOp,blindOp,Int.reduceEq,Int.reduceLT,Int.reduceLE,Nat.reduceLT,tiA, h1, decide_true, is]
  · rw [if_neg h1]
    by_cases h2 : y < x
    · rw [if_pos h2]
      try simp (disch := first | omega | (simp only [ints_length, List.length_replicate, List.length_set] <;> omega)) only [Sall,evalOp,init,binE,binI,unE,convE,okNil,builtE,gv,TD.isAgg,resV,↓reduceIte,Nat.reduceEqDiff,reduceCtorEq,Nat.reduceAdd,Nat.reduceMul,Nat.reduceLeDiff,quietOp,blindOp,Int.reduceEq,Int.reduceLT,Int.reduceLE,Nat.reduceLT,tiA, h1, h2, decide_true, decide_false, is]
    · rw [if_neg h2]
      try simp (disch := first | omega | (simp only [ints_length, List.length_replicate, List.length_set] <;> omega)) only [Sall,evalOp,init,binE,binI,unE,convE,okNil,builtE,gv,TD.isAgg,resV,↓reduceIte,Nat.reduceEqDiff,reduceCtorEq,Nat.reduceAdd,Nat.reduceMul,Nat.reduceLeDiff,quietOp,blindOp,Int.reduceEq,Int.reduceLT,Int.reduceLE,Nat.reduceLT,tiA, h1, h2, decide_false, is]

theorem or3_c (v : Value) (x y z : Int) (H : AH) (hv : Rd 1 H v 3 [x, y, z]) : ACalls Try.prog 167 [v] H (is (.int .i64 (orI x y z)) H) := by
  refine acalls_of_awp [.tmp 2] Try.func167 (by kernel_rfl) rfl rfl (Nat.le_of_ble_eq_true rfl) (by kernel_rfl) ?_
  try simp (disch := first | omega | (simp only [ints_length, List.length_replicate, List.length_set] <;> omega)) only [Sall,evalOp,init,binE,binI,unE,convE,okNil,builtE,gv,TD.isAgg,resV,↓reduceIte,Nat.reduceEqDiff,reduceCtorEq,Nat.reduceAdd,Nat.reduceMul,Nat.reduceLeDiff,quietOp,blindOp,Int.reduceEq,Int.reduceLT,Int.reduceLE,Nat.reduceLT,tiA, builtE, hv.len]
  refine awp_loop (fun m t H' => ∃ a : Nat, m = 3 - a ∧ a ≤ 3 ∧ t 8 = .int .i64 a ∧ t 7 = .int .i64 (3 : Nat) ∧ t 6 = v ∧ t 3 = .int .i64 0 ∧ H' = H ∧ orI x y z = orI (if a ≤ 0 then x else 0) (if a ≤ 1 then y else 0) (if a ≤ 2 then z else 0)) 3 ?_ ?_
  · refine ⟨0, by omega, by omega, ?_⟩
    try simp (disch := first | omega | (simp only [ints_length, List.length_replicate, List.length_set] <;> omega)) only [Sall,evalOp,init,binE,binI,unE,convE,okNil,builtE,gv,TD.isAgg,resV,↓reduceIte,Nat.reduceEqDiff,reduceCtorEq,Nat.reduceAdd,Nat.reduceMul,Nat.reduceLeDiff,quietOp,blindOp,Int.reduceEq,Int.reduceLT,Int.reduceLE,Nat.reduceLT,tiA, Int.natCast_zero]
  · rintro m t H' ⟨a, hm, ha, h8, h7, h6, h3, rfl, hall⟩
    try simp (disch := first | omega | (simp only [ints_length, List.length_replicate, List.length_set] <;> omega)) only [Sall,evalOp,init,binE,binI,unE,convE,okNil,builtE,gv,TD.isAgg,resV,↓reduceIte,Nat.reduceEqDiff,reduceCtorEq,Nat.reduceAdd,Nat.reduceMul,Nat.reduceLeDiff,quietOp,blindOp,Int.reduceEq,Int.reduceLT,Int.reduceLE,Nat.reduceLT,tiA, h8, h7]
    refine condC_dec (fun h => ?_) (fun h => ?_)
    · obtain ⟨i, o, uu, cc, r, rfl, hr, _, hg, _⟩ := hv.get (by omega)
      have g1 := hg a (by omega)
      obtain ⟨w, hw⟩ : ∃ w, [x, y, z].getD a 0 = w := ⟨_, rfl⟩
      rw [hw] at g1
      have hcase : (w = 0 → orI x y z = orI (if a + 1 ≤ 0 then x else 0) (if a + 1 ≤ 1 then y else 0) (if a + 1 ≤ 2 then z else 0)) ∧ (w ≠ 0 → orI x y z = w) := by
        have : a = 0 ∨ a = 1 ∨ a = 2 := by omega
        rcases this with rfl | rfl | rfl
        · have e : x = w := hw
          subst e
          simp only [orI] at hall ⊢
          constructor
          · intro h; subst h; simp
          · intro h; simp [h]
        · have e : y = w := hw
          subst e
          simp only [orI] at hall ⊢
          constructor
          · intro h; subst h; simp at hall ⊢; exact hall
          · intro h; simp [h] at hall ⊢; exact hall
        · have e : z = w := hw
          subst e
          simp only [orI] at hall ⊢
          constructor
          · intro h; subst h; simp at hall ⊢; exact hall
          · intro h; simp [h] at hall ⊢; exact hall
      by_cases hw0 : w = 0
      · have e2 : (w != 0) = false := by rw [hw0]; rfl
        try simp (disch := first | omega | (simp only [ints_length, List.length_replicate, List.length_set] <;> omega)) only [Sall,evalOp,init,binE,binI,unE,convE,okNil,builtE,gv,TD.isAgg,resV,↓reduceIte,Nat.reduceEqDiff,reduceCtorEq,Nat.reduceAdd,Nat.reduceMul,Nat.reduceLeDiff,quietOp,blindOp,Int.reduceEq,Int.reduceLT,Int.reduceLE,Nat.reduceLT,tiA, h8, h7, h6, h3, hr, g1, e2, w64]
        (repeat refine And.intro (by omega) ?_)
        exact ⟨3 - (a + 1), by omega, a + 1, by omega, by omega, rfl, hcase.1 hw0⟩
      · have e2 : (w != 0) = true := bne_iff_ne.2 hw0
        try simp (disch := first | omega | (simp only [ints_length, List.length_replicate, List.length_set] <;> omega)) only [Sall,evalOp,init,binE,binI,unE,convE,okNil,builtE,gv,TD.isAgg,resV,↓reduceIte,Nat.reduceEqDiff,reduceCtorEq,Nat.reduceAdd,Nat.reduceMul,Nat.reduceLeDiff,quietOp,blindOp,Int.reduceEq,Int.reduceLT,Int.reduceLE,Nat.reduceLT,tiA, h8, h7, h6, h3, hr, g1, e2, w64]
        (repeat refine And.intro (by omega) ?_)
        rw [hcase.2 hw0]
        exact ⟨rfl, rfl⟩
    · try simp (disch := first | omega | (simp only [ints_length, List.length_replicate, List.length_set] <;> omega)) only [Sall,evalOp,init,binE,binI,unE,convE,okNil,builtE,gv,TD.isAgg,resV,↓reduceIte,Nat.reduceEqDiff,reduceCtorEq,Nat.reduceAdd,Nat.reduceMul,Nat.reduceLeDiff,quietOp,blindOp,Int.reduceEq,Int.reduceLT,Int.reduceLE,Nat.reduceLT,tiA, h3]
      have e : a = 3 := by omega
      subst e
      rw [hall]
      exact ⟨rfl, rfl⟩

theorem rkClosure_c (p s t : List Int) (c0 c1 c2 : Nat) (v0 v1 v2 : Value) (a b : Nat) (H : AH) (h0 : H.row c0 = some ⟨38, true, [v0]⟩) (h1 : H.row c1 = some ⟨38, true, [v1]⟩) (h2 : H.row c2 = some ⟨38, true, [v2]⟩)
    (r0 : Rd 1 H v0 p.length p) (r1 : Rd 1 H v1 s.length s) (r2 : Rd 1 H v2 t.length t) (ha : a < p.length ∧ a < s.length ∧ a < t.length) (hb : b < p.length ∧ b < s.length ∧ b < t.length) :
    ACalls Try.prog 166 [.int .i64 a, .int .i64 b, .pointer (some ⟨c0, 0, none⟩), .pointer (some ⟨c1, 0, none⟩), .pointer (some ⟨c2, 0, none⟩)] H (fun r H' => r = .int .i64 (cmpR p s t a b) ∧ Up H.next H H') := by
  refine ACalls.wf (by kernel_rfl) fun hs => acalls_of_awp [.tmp 7] Try.func166 (by kernel_rfl) rfl rfl (Nat.le_of_ble_eq_true rfl) (by kernel_rfl) ?_
  obtain ⟨i0, o0, u0, k0, q0, rfl, f0, _, g0, _⟩ := r0.get (by omega)
  obtain ⟨i1, o1, u1, k1, q1, rfl, f1, _, g1, _⟩ := r1.get (by omega)
  obtain ⟨i2, o2, u2, k2, q2, rfl, f2, _, g2, _⟩ := r2.get (by omega)
  have g0a := g0 a (by omega)
  have g0b := g0 b (by omega)
  have g1a := g1 a (by omega)
  have g1b := g1 b (by omega)
  have g2a := g2 a (by omega)
  have g2b := g2 b (by omega)
  have zz : zeros 3 [.int .i64 0] = [.int .i64 0, .int .i64 0, .int .i64 0] := rfl
  unfold cmpR
  rw [Int.toNat_natCast, Int.toNat_natCast]
  try simp (disch := first | omega | (simp only [ints_length, List.length_replicate, List.length_set] <;> omega)) only [Sall,evalOp,init,binE,binI,unE,convE,okNil,builtE,gv,TD.isAgg,resV,↓reduceIte,Nat.reduceEqDiff,reduceCtorEq,Nat.reduceAdd,Nat.reduceMul,Nat.reduceLeDiff,quietOp,blindOp,Int.reduceEq,Int.reduceLT,Int.reduceLE,Nat.reduceLT,tiA, true_and]
  refine draw_in [0, 1, 2, 3, 4, 5, 6, 7, 9, 10, 11, 12, 13, 14, 15, 16, 18, 19, 20, 21, 22, 23, 24, 25, 8, 17, 26, 27, 28, 29] (by kernel_rfl) (by kernel_rfl) (by kernel_rfl) ?_
  try simp (disch := first | omega | (simp only [ints_length, List.length_replicate, List.length_set] <;> omega)) only [Sall,evalOp,init,binE,binI,unE,convE,okNil,builtE,gv,TD.isAgg,resV,↓reduceIte,Nat.reduceEqDiff,reduceCtorEq,Nat.reduceAdd,Nat.reduceMul,Nat.reduceLeDiff,quietOp,blindOp,Int.reduceEq,Int.reduceLT,Int.reduceLE,Nat.reduceLT,tiA, h0, h1, h2, f0, f1, f2, g0a, g0b, g1a, g1b, g2a, g2b]
  (repeat refine And.intro (by omega) ?_)
  refine (compare_c _ _ _).to ?_
  refine ⟨.inr (.inr (LE.refl _)), ?_⟩
  try simp (disch := first | omega | (simp only [ints_length, List.length_replicate, List.length_set] <;> omega)) only [Sall,evalOp,init,binE,binI,unE,convE,okNil,builtE,gv,TD.isAgg,resV,↓reduceIte,Nat.reduceEqDiff,reduceCtorEq,Nat.reduceAdd,Nat.reduceMul,Nat.reduceLeDiff,quietOp,blindOp,Int.reduceEq,Int.reduceLT,Int.reduceLE,Nat.reduceLT,tiA, true_and]
  refine (compare_c _ _ _).to ?_
  refine ⟨.inr (.inr (LE.refl _)), ?_⟩
  try simp (disch := first | omega | (simp only [ints_length, List.length_replicate, List.length_set] <;> omega)) only [Sall,evalOp,init,binE,binI,unE,convE,okNil,builtE,gv,TD.isAgg,resV,↓reduceIte,Nat.reduceEqDiff,reduceCtorEq,Nat.reduceAdd,Nat.reduceMul,Nat.reduceLeDiff,quietOp,blindOp,Int.reduceEq,Int.reduceLT,Int.reduceLE,Nat.reduceLT,tiA, true_and]
  refine (compare_c _ _ _).to ?_
  refine ⟨.inr (.inr (LE.refl _)), ?_⟩
  try simp (disch := first | omega | (simp only [ints_length, List.length_replicate, List.length_set] <;> omega)) only [Sall,evalOp,init,binE,binI,unE,convE,okNil,builtE,gv,TD.isAgg,resV,↓reduceIte,Nat.reduceEqDiff,reduceCtorEq,Nat.reduceAdd,Nat.reduceMul,Nat.reduceLeDiff,quietOp,blindOp,Int.reduceEq,Int.reduceLT,Int.reduceLE,Nat.reduceLT,tiA, zz, slCells]
  have hsc : Sc H := hs
  refine ⟨.inr (.inr (hsc.le _)), ?_⟩
  try simp (disch := first | omega | (simp only [ints_length, List.length_replicate, List.length_set] <;> omega)) only [Sall,evalOp,init,binE,binI,unE,convE,okNil,builtE,gv,TD.isAgg,resV,↓reduceIte,Nat.reduceEqDiff,reduceCtorEq,Nat.reduceAdd,Nat.reduceMul,Nat.reduceLeDiff,quietOp,blindOp,Int.reduceEq,Int.reduceLT,Int.reduceLE,Nat.reduceLT,tiA, true_and]
  refine (or3_c _ _ _ _ _ ⟨rfl, .inr ⟨H.next, 0, _, _, _, rfl, by rw [AH.push_row, if_pos rfl], Nat.le_refl _, rfl⟩⟩).to ?_
  refine ⟨.inr (.inr (LE.refl _)), ?_⟩
  try simp (disch := first | omega | (simp only [ints_length, List.length_replicate, List.length_set] <;> omega)) only [Sall,evalOp,init,binE,binI,unE,convE,okNil,builtE,gv,TD.isAgg,resV,↓reduceIte,Nat.reduceEqDiff,reduceCtorEq,Nat.reduceAdd,Nat.reduceMul,Nat.reduceLeDiff,quietOp,blindOp,Int.reduceEq,Int.reduceLT,Int.reduceLE,Nat.reduceLT,tiA, true_and]
  exact (Up.refl _ H).push (Nat.le_refl _) _

def Srt (di : Nat) (H0 H : AH) : Prop := H0.next ≤ H.next ∧ (∀ i, i < H0.next → ¬ i = di → H.row i = H0.row i) ∧ Sc H

theorem insSort_c (n : Nat) (hn : 1 ≤ n ∧ n ≤ 20) (g : FuncId) (cap : List Value) (c : Int → Int → Int) (di cc : Nat) (H0 : AH) (hdi : di < H0.next) (hd : H0.row di = some ⟨2, true, ints (seqL 0 n)⟩) (hc : ∀ a b, -1 ≤ c a b ∧ c a b ≤ 1)
    (hcmp : ∀ (a b : Nat) (H1 : AH), a < n → b < n → Srt di H0 H1 → ACalls Try.prog g (.int .i64 a :: .int .i64 b :: cap) H1 (fun r H2 => r = .int .i64 (c a b) ∧ Up H1.next H1 H2)) :
    ACalls Try.prog 226 [.slice (some ⟨di, 0, some 1⟩) n cc, .int .i64 0, .int .i64 n, .func (.func g) #[] cap.toArray] H0 (fun _ H' => Srt di H0 H' ∧ H'.row di = some ⟨2, true, ints (rankL (fun a b => decide (c a b < 0)) n)⟩) := by
  obtain ⟨G, eG⟩ : ∃ G, G = fun a b => decide (c a b < 0) := ⟨_, rfl⟩
  rw [← eG]
  refine ACalls.wf (by kernel_rfl) fun hs => acalls_of_awp [] Try.func226 (by kernel_rfl) rfl rfl (Nat.le_of_ble_eq_true rfl) (by kernel_rfl) ?_
  try simp (disch := first | omega | (simp only [ints_length, List.length_replicate, List.length_set] <;> omega)) only [Sall,evalOp,init,binE,binI,unE,convE,okNil,builtE,gv,TD.isAgg,resV,↓reduceIte,Nat.reduceEqDiff,reduceCtorEq,Nat.reduceAdd,Nat.reduceMul,Nat.reduceLeDiff,quietOp,blindOp,Int.reduceEq,Int.reduceLT,Int.reduceLE,Nat.reduceLT,tiA, w64]
  refine awp_loop (fun m t H' => ∃ i : Nat, m = n - i ∧ 1 ≤ i ∧ i ≤ n ∧ t 8 = .int .i64 i ∧ t 0 = .slice (some ⟨di, 0, some 1⟩) n cc ∧ t 1 = .int .i64 0 ∧ t 2 = .int .i64 n ∧ t 3 = .func (.func g) #[] cap.toArray ∧ Srt di H0 H' ∧ H'.row di = some ⟨2, true, ints (rankL G i ++ seqL i (n - i))⟩) (n - 1) ?_ ?_
  · refine ⟨1, by omega, by omega, by omega, ?_⟩
    have := rank_first G n (by omega)
    rw [this] at hd
    have hS0 : Srt di H0 H0 := ⟨Nat.le_refl _, fun _ _ _ => rfl, hs⟩
    try simp (disch := first | omega | (simp only [ints_length, List.length_replicate, List.length_set] <;> omega)) only [Sall,evalOp,init,binE,binI,unE,convE,okNil,builtE,gv,TD.isAgg,resV,↓reduceIte,Nat.reduceEqDiff,reduceCtorEq,Nat.reduceAdd,Nat.reduceMul,Nat.reduceLeDiff,quietOp,blindOp,Int.reduceEq,Int.reduceLT,Int.reduceLE,Nat.reduceLT,tiA, true_and]
    exact ⟨by omega, hS0, hd⟩
  · rintro m t H' ⟨i, hm, hi1, hin, h8, h0, h1, h2, h3, hS, hd'⟩
    try simp (disch := first | omega | (simp only [ints_length, List.length_replicate, List.length_set] <;> omega)) only [Sall,evalOp,init,binE,binI,unE,convE,okNil,builtE,gv,TD.isAgg,resV,↓reduceIte,Nat.reduceEqDiff,reduceCtorEq,Nat.reduceAdd,Nat.reduceMul,Nat.reduceLeDiff,quietOp,blindOp,Int.reduceEq,Int.reduceLT,Int.reduceLE,Nat.reduceLT,tiA, h8, h2]
    refine condC_dec (fun h => ?_) (fun h => ?_)
    · have hlt : i < n := by omega
      have hl := rankL_length G i
      rw [rank_next G i n hlt] at hd'
      try simp (disch := first | omega | (simp only [ints_length, List.length_replicate, List.length_set] <;> omega)) only [Sall,evalOp,init,binE,binI,unE,convE,okNil,builtE,gv,TD.isAgg,resV,↓reduceIte,Nat.reduceEqDiff,reduceCtorEq,Nat.reduceAdd,Nat.reduceMul,Nat.reduceLeDiff,quietOp,blindOp,Int.reduceEq,Int.reduceLT,Int.reduceLE,Nat.reduceLT,tiA, h8, h0, h1, h2, h3]
      refine awp_loop (fun z t H4 => ∃ j : Nat, z = j ∧ j ≤ i ∧ bubAt G (rankL G i) i i = bubAt G (rankL G i) i j ∧ t 9 = .int .i64 j ∧ t 8 = .int .i64 i ∧ t 0 = .slice (some ⟨di, 0, some 1⟩) n cc ∧ t 1 = .int .i64 0 ∧ t 2 = .int .i64 n ∧ t 3 = .func (.func g) #[] cap.toArray ∧ Srt di H0 H4 ∧ H4.row di = some ⟨2, true, ints (insAt (rankL G i) j i ++ seqL ((i + 1 : Nat) : Int) (n - (i + 1)))⟩) i ?_ ?_
      · refine ⟨i, rfl, Nat.le_refl _, rfl, ?_⟩
        try simp (disch := first | omega | (simp only [ints_length, List.length_replicate, List.length_set] <;> omega)) only [Sall,evalOp,init,binE,binI,unE,convE,okNil,builtE,gv,TD.isAgg,resV,↓reduceIte,Nat.reduceEqDiff,reduceCtorEq,Nat.reduceAdd,Nat.reduceMul,Nat.reduceLeDiff,quietOp,blindOp,Int.reduceEq,Int.reduceLT,Int.reduceLE,Nat.reduceLT,tiA, h8, h0, h1, h2, h3]
        exact ⟨hS, hd'⟩
      · rintro z t H4 ⟨j, hz, hji, hbub, h9, h8, h0, h1, h2, h3, hS4, hd4⟩
        have hil : (insAt (rankL G i) j i).length = i + 1 := by rw [insAt_length (by omega), hl]
        have hsl : (seqL ((i + 1 : Nat) : Int) (n - (i + 1))).length = n - (i + 1) := seqL_length _ _
        have hal : (insAt (rankL G i) j i ++ seqL ((i + 1 : Nat) : Int) (n - (i + 1))).length = n := by rw [List.length_append]; omega
        refine draw_id (by kernel_rfl) (by kernel_rfl) ?_
        by_cases hj : j = 0
        · subst hj
          have h00 : ¬ (0 : Int) < ((0 : Nat) : Int) := by omega
          try simp (disch := first | omega | (simp only [ints_length, List.length_replicate, List.length_set] <;> omega)) only [Sall,evalOp,init,binE,binI,unE,convE,okNil,builtE,gv,TD.isAgg,resV,↓reduceIte,Nat.reduceEqDiff,reduceCtorEq,Nat.reduceAdd,Nat.reduceMul,Nat.reduceLeDiff,quietOp,blindOp,Int.reduceEq,Int.reduceLT,Int.reduceLE,Nat.reduceLT,tiA, h9, h1, h00, decide_false, h8, w64]
          refine ⟨n - (i + 1), by omega, i + 1, rfl, by omega, by omega, by omega, h0, h2, h3, hS4, ?_⟩
          rw [rankL_succ, hbub, bubAt_zero]
          exact hd4
        · have hj1 : (0 : Int) < (j : Int) := by omega
          have ga := insAt_at (show j ≤ (rankL G i).length by omega) (i : Int)
          have gb := insAt_get (show j - 1 < j by omega) (show j ≤ (rankL G i).length by omega) (i : Int)
          have gr := rankL_get G i (j - 1) (by omega)
          have gset := insAt_set (show j ≤ (rankL G i).length by omega) ((rankL G i).getD (j - 1) 0) (i : Int)
          have gstep := insAt_step (l := rankL G i) (j := j - 1) (by omega)
          have gset2 := insAt_set (show j - 1 ≤ (rankL G i).length by omega) (i : Int) ((rankL G i).getD (j - 1) 0)
          have gby := bubAt_yes (g := G) (l := rankL G i) (x := (i : Int)) (j := j - 1)
          have gbn := bubAt_no (g := G) (l := rankL G i) (x := (i : Int)) (j := j - 1)
          rw [show j - 1 + 1 = j by omega] at gstep gby gbn
          have e1 : (ints (insAt (rankL G i) j i ++ seqL ((i + 1 : Nat) : Int) (n - (i + 1))))[j]? = some (.int .i64 i) := by
            rw [ints_get? _ _ (by omega), List.getD_eq_getElem?_getD, List.getElem?_append_left (by omega), ← List.getD_eq_getElem?_getD, ga]
          have e2 : (ints (insAt (rankL G i) j i ++ seqL ((i + 1 : Nat) : Int) (n - (i + 1))))[j - 1]? = some (.int .i64 ((rankL G i).getD (j - 1) 0)) := by
            rw [ints_get? _ _ (by omega), List.getD_eq_getElem?_getD, List.getElem?_append_left (by omega), ← List.getD_eq_getElem?_getD, gb]
          have es : ∀ y x : Int, insAt (rankL G i) j y = insAt (rankL G i) (j - 1) y → True := fun _ _ _ => trivial
          revert gr gset gstep gset2 gby gbn e2
          generalize (rankL G i).getD (j - 1) 0 = bI
          intro gr gset gstep gset2 gby gbn e2
          obtain ⟨bN, rfl⟩ : ∃ bN : Nat, bI = bN := ⟨bI.toNat, by omega⟩
          have hjm : ((j : Int) - 1).toNat = j - 1 := by omega
          try simp (disch := first | omega | (simp only [ints_length, List.length_replicate, List.length_set] <;> omega)) only [Sall,evalOp,init,binE,binI,unE,convE,okNil,builtE,gv,TD.isAgg,resV,↓reduceIte,Nat.reduceEqDiff,reduceCtorEq,Nat.reduceAdd,Nat.reduceMul,Nat.reduceLeDiff,quietOp,blindOp,Int.reduceEq,Int.reduceLT,Int.reduceLE,Nat.reduceLT,tiA, h9, h1, hj1, decide_true, h3, h0, hd4, e1, e2, hjm, w64]
          (repeat refine And.intro (by omega) ?_)
          refine (hcmp i bN H4 (by omega) (by omega) hS4).scf.fin ?_
          rintro H5 ⟨up5, sc5⟩
          have n5 := up5.next
          refine ⟨.inr (.inr (up5.le hS4.2.2)), ?_⟩
          have hd5 : H5.row di = some ⟨2, true, ints (insAt (rankL G i) j i ++ seqL ((i + 1 : Nat) : Int) (n - (i + 1)))⟩ := by
            rw [up5.row _ (by have := hS4.1; omega)]; exact hd4
          have hS5 : Srt di H0 H5 := ⟨by have := hS4.1; omega, fun i hi hne => by rw [up5.row i (by have := hS4.1; omega), hS4.2.1 i hi hne], sc5⟩
          have eg : G i bN = decide (c i bN < 0) := by rw [eG]
          by_cases hg : c i bN < 0
          · rw [decide_eq_true hg] at eg
            try simp (disch := first | omega | (simp only [ints_length, List.length_replicate, List.length_set] <;> omega)) only [Sall,evalOp,init,binE,binI,unE,convE,okNil,builtE,gv,TD.isAgg,resV,↓reduceIte,Nat.reduceEqDiff,reduceCtorEq,Nat.reduceAdd,Nat.reduceMul,Nat.reduceLeDiff,quietOp,blindOp,Int.reduceEq,Int.reduceLT,Int.reduceLE,Nat.reduceLT,tiA, hg, decide_true, h9, h8, h0, h1, h2, h3]
            refine draw_id (by kernel_rfl) (by kernel_rfl) ?_
            try simp (disch := first | omega | (simp only [ints_length, List.length_replicate, List.length_set] <;> omega)) only [Sall,evalOp,init,binE,binI,unE,convE,okNil,builtE,gv,TD.isAgg,resV,↓reduceIte,Nat.reduceEqDiff,reduceCtorEq,Nat.reduceAdd,Nat.reduceMul,Nat.reduceLeDiff,quietOp,blindOp,Int.reduceEq,Int.reduceLT,Int.reduceLE,Nat.reduceLT,tiA, h9, h8, h0, h1, h2, h3, hd5, e1, e2, hjm, w64]
            (repeat refine And.intro (by omega) ?_)
            refine ⟨.inr (.inl (by kernel_rfl)), ?_⟩
            try simp (disch := first | omega | (simp only [ints_length, List.length_replicate, List.length_set] <;> omega)) only [Sall,evalOp,init,binE,binI,unE,convE,okNil,builtE,gv,TD.isAgg,resV,↓reduceIte,Nat.reduceEqDiff,reduceCtorEq,Nat.reduceAdd,Nat.reduceMul,Nat.reduceLeDiff,quietOp,blindOp,Int.reduceEq,Int.reduceLT,Int.reduceLE,Nat.reduceLT,tiA, h9, h8, h0, h1, h2, h3, hd5, e1, e2, hjm, w64]
            (repeat refine And.intro (by omega) ?_)
            refine ⟨by rw [List.length_set, ints_length]; omega, .inr (.inl (by kernel_rfl)), ?_⟩
            try simp (disch := first | omega | (simp only [ints_length, List.length_replicate, List.length_set] <;> omega)) only [Sall,evalOp,init,binE,binI,unE,convE,okNil,builtE,gv,TD.isAgg,resV,↓reduceIte,Nat.reduceEqDiff,reduceCtorEq,Nat.reduceAdd,Nat.reduceMul,Nat.reduceLeDiff,quietOp,blindOp,Int.reduceEq,Int.reduceLT,Int.reduceLE,Nat.reduceLT,tiA, h9, h8, h0, h1, h2, h3, w64]
            have hset : ((ints (insAt (rankL G i) j i ++ seqL ((i + 1 : Nat) : Int) (n - (i + 1)))).set j (Value.int IntKind.i64 bN)).set (j - 1) (Value.int IntKind.i64 i) = ints (insAt (rankL G i) (j - 1) i ++ seqL ((i + 1 : Nat) : Int) (n - (i + 1))) := by
              rw [ints_set, List.set_append_left _ _ (by omega), ints_set, List.set_append_left _ _ (by rw [List.length_set]; omega), gset, gstep, gset2]
            refine ⟨j - 1, by omega, by omega, by rw [hbub, gby eg], by omega, ?_, ?_⟩
            · exact ⟨by have := hS5.1; simp only [AH.setCells_next]; omega, fun i hi hne => by rw [AH.setCells_row, if_neg hne, AH.setCells_row, if_neg hne, hS5.2.1 i hi hne], (sc5.set _ _).set _ _⟩
            · rw [hset]
          · rw [decide_eq_false hg] at eg
            try simp (disch := first | omega | (simp only [ints_length, List.length_replicate, List.length_set] <;> omega)) only [Sall,evalOp,init,binE,binI,unE,convE,okNil,builtE,gv,TD.isAgg,resV,↓reduceIte,Nat.reduceEqDiff,reduceCtorEq,Nat.reduceAdd,Nat.reduceMul,Nat.reduceLeDiff,quietOp,blindOp,Int.reduceEq,Int.reduceLT,Int.reduceLE,Nat.reduceLT,tiA, hg, decide_false, h8, h0, h1, h2, h3, w64]
            refine ⟨n - (i + 1), by omega, i + 1, rfl, by omega, by omega, by omega, hS5, ?_⟩
            rw [rankL_succ, hbub, gbn eg]
            exact hd5
    · have e : i = n := by omega
      subst e
      try simp (disch := first | omega | (simp only [ints_length, List.length_replicate, List.length_set] <;> omega)) only [Sall,evalOp,init,binE,binI,unE,convE,okNil,builtE,gv,TD.isAgg,resV,↓reduceIte,Nat.reduceEqDiff,reduceCtorEq,Nat.reduceAdd,Nat.reduceMul,Nat.reduceLeDiff,quietOp,blindOp,Int.reduceEq,Int.reduceLT,Int.reduceLE,Nat.reduceLT,tiA, true_and]
      rw [Nat.sub_self, show seqL (i : Int) 0 = [] from rfl, List.append_nil] at hd'
      exact ⟨hS, hd'⟩

theorem stableCmp_c (n : Nat) (hn : 1 ≤ n ∧ n ≤ 19) (g : FuncId) (cap : List Value) (c : Int → Int → Int) (di cc : Nat) (H0 : AH) (hdi : di < H0.next) (hd : H0.row di = some ⟨2, true, ints (seqL 0 n)⟩) (hc : ∀ a b, -1 ≤ c a b ∧ c a b ≤ 1)
    (hcmp : ∀ (a b : Nat) (H1 : AH), a < n → b < n → Srt di H0 H1 → ACalls Try.prog g (.int .i64 a :: .int .i64 b :: cap) H1 (fun r H2 => r = .int .i64 (c a b) ∧ Up H1.next H1 H2)) :
    ACalls Try.prog 206 [.slice (some ⟨di, 0, some 1⟩) n cc, .int .i64 n, .func (.func g) #[] cap.toArray] H0 (fun _ H' => Srt di H0 H' ∧ H'.row di = some ⟨2, true, ints (rankL (fun a b => decide (c a b < 0)) n)⟩) := by
  refine acalls_of_awp [] Try.func206 (by kernel_rfl) rfl rfl (Nat.le_of_ble_eq_true rfl) (by kernel_rfl) ?_
  try simp (disch := first | omega | (simp only [ints_length, List.length_replicate, List.length_set] <;> omega)) only [Sall,evalOp,init,binE,binI,unE,convE,okNil,builtE,gv,TD.isAgg,resV,↓reduceIte,Nat.reduceEqDiff,reduceCtorEq,Nat.reduceAdd,Nat.reduceMul,Nat.reduceLeDiff,quietOp,blindOp,Int.reduceEq,Int.reduceLT,Int.reduceLE,Nat.reduceLT,tiA, true_and]
  refine awp_loop (fun m t H' => m = 0 ∧ t 8 = .int .i64 20 ∧ t 7 = .int .i64 0 ∧ t 6 = .int .i64 20 ∧ t 1 = .int .i64 n ∧ t 0 = .slice (some ⟨di, 0, some 1⟩) n cc ∧ t 2 = .func (.func g) #[] cap.toArray ∧ H' = H0) 0 ?_ ?_
  · try simp (disch := first | omega | (simp only [ints_length, List.length_replicate, List.length_set] <;> omega)) only [Sall,evalOp,init,binE,binI,unE,convE,okNil,builtE,gv,TD.isAgg,resV,↓reduceIte,Nat.reduceEqDiff,reduceCtorEq,Nat.reduceAdd,Nat.reduceMul,Nat.reduceLeDiff,quietOp,blindOp,Int.reduceEq,Int.reduceLT,Int.reduceLE,Nat.reduceLT,tiA, true_and]
  · rintro m t H' ⟨hm, h8, h7, h6, h1, h0, h2, rfl⟩
    have e1 : ¬ (20 : Int) ≤ (n : Int) := by omega
    try simp (disch := first | omega | (simp only [ints_length, List.length_replicate, List.length_set] <;> omega)) only [Sall,evalOp,init,binE,binI,unE,convE,okNil,builtE,gv,TD.isAgg,resV,↓reduceIte,Nat.reduceEqDiff,reduceCtorEq,Nat.reduceAdd,Nat.reduceMul,Nat.reduceLeDiff,quietOp,blindOp,Int.reduceEq,Int.reduceLT,Int.reduceLE,Nat.reduceLT,tiA, h8, h1, e1, decide_false, h0, h7, h2]
    refine (insSort_c n (by omega) g cap c di cc H' hdi hd hc hcmp).mono ?_
    rintro r H2 ⟨hS, hd2⟩
    refine Holds.mp ?_
    have e2 : ¬ (20 : Int) < (n : Int) := by omega
    try simp (disch := first | omega | (simp only [ints_length, List.length_replicate, List.length_set] <;> omega)) only [Sall,evalOp,init,binE,binI,unE,convE,okNil,builtE,gv,TD.isAgg,resV,↓reduceIte,Nat.reduceEqDiff,reduceCtorEq,Nat.reduceAdd,Nat.reduceMul,Nat.reduceLeDiff,quietOp,blindOp,Int.reduceEq,Int.reduceLT,Int.reduceLE,Nat.reduceLT,tiA, h6, h1]
    refine awp_loop (fun m t H' => m = 0 ∧ t 6 = .int .i64 20 ∧ t 1 = .int .i64 n ∧ H' = H2) 0 ?_ ?_
    · try simp (disch := first | omega | (simp only [ints_length, List.length_replicate, List.length_set] <;> omega)) only [Sall,evalOp,init,binE,binI,unE,convE,okNil,builtE,gv,TD.isAgg,resV,↓reduceIte,Nat.reduceEqDiff,reduceCtorEq,Nat.reduceAdd,Nat.reduceMul,Nat.reduceLeDiff,quietOp,blindOp,Int.reduceEq,Int.reduceLT,Int.reduceLE,Nat.reduceLT,tiA, h6, h1]
    · rintro m t H' ⟨hm, h6, h1, rfl⟩
      try simp (disch := first | omega | (simp only [ints_length, List.length_replicate, List.length_set] <;> omega)) only [Sall,evalOp,init,binE,binI,unE,convE,okNil,builtE,gv,TD.isAgg,resV,↓reduceIte,Nat.reduceEqDiff,reduceCtorEq,Nat.reduceAdd,Nat.reduceMul,Nat.reduceLeDiff,quietOp,blindOp,Int.reduceEq,Int.reduceLT,Int.reduceLE,Nat.reduceLT,tiA, h6, h1, e2, decide_false]
      exact ⟨hS, hd2⟩

theorem sortStable_c (n : Nat) (hn : 1 ≤ n ∧ n ≤ 19) (g : FuncId) (cap : List Value) (c : Int → Int → Int) (di cc : Nat) (H0 : AH) (hdi : di < H0.next) (hd : H0.row di = some ⟨2, true, ints (seqL 0 n)⟩) (hc : ∀ a b, -1 ≤ c a b ∧ c a b ≤ 1)
    (hcmp : ∀ (a b : Nat) (H1 : AH), a < n → b < n → Srt di H0 H1 → ACalls Try.prog g (.int .i64 a :: .int .i64 b :: cap) H1 (fun r H2 => r = .int .i64 (c a b) ∧ Up H1.next H1 H2)) :
    ACalls Try.prog 165 [.slice (some ⟨di, 0, some 1⟩) n cc, .func (.func g) #[] cap.toArray] H0 (fun _ H' => Srt di H0 H' ∧ H'.row di = some ⟨2, true, ints (rankL (fun a b => decide (c a b < 0)) n)⟩) := by
  refine acalls_of_awp [] Try.func165 (by kernel_rfl) rfl rfl (Nat.le_of_ble_eq_true rfl) (by kernel_rfl) ?_
  try simp (disch := first | omega | (simp only [ints_length, List.length_replicate, List.length_set] <;> omega)) only [Sall,evalOp,init,binE,binI,unE,convE,okNil,builtE,gv,TD.isAgg,resV,↓reduceIte,Nat.reduceEqDiff,reduceCtorEq,Nat.reduceAdd,Nat.reduceMul,Nat.reduceLeDiff,quietOp,blindOp,Int.reduceEq,Int.reduceLT,Int.reduceLE,Nat.reduceLT,tiA, builtE]
  refine (stableCmp_c n hn g cap c di cc H0 hdi hd hc hcmp).mono ?_
  rintro r H2 ⟨hS, hd2⟩
  refine Holds.mp ?_
  try simp (disch := first | omega | (simp only [ints_length, List.length_replicate, List.length_set] <;> omega)) only [Sall,evalOp,init,binE,binI,unE,convE,okNil,builtE,gv,TD.isAgg,resV,↓reduceIte,Nat.reduceEqDiff,reduceCtorEq,Nat.reduceAdd,Nat.reduceMul,Nat.reduceLeDiff,quietOp,blindOp,Int.reduceEq,Int.reduceLT,Int.reduceLE,Nat.reduceLT,tiA, true_and]
  exact ⟨hS, hd2⟩
end Go.Proofs.Ytgkmdfjjlghecaa.A
end

section
set_option linter.unusedSimpArgs false
set_option linter.unusedVariables false
set_option maxRecDepth 100000
set_option maxHeartbeats 2000000
namespace Go.Proofs.Ytgkmdfjjlghecaa.A
open Go Go.Abs Go.RowKit

def RkS (A : AH) (n : Nat) (l : List Int) (v : Value) (H : AH) : Prop := Fr 1 2 A.next H.next H v n l
def RkP (A : AH) (v : Value) (H : AH) : Prop := ∃ i, v = .pointer (some ⟨i, 0, none⟩) ∧ A.next ≤ i ∧ i < H.next ∧ H.row i = some ⟨38, true, [.slice none 0 0]⟩
theorem RkS.up {A : AH} {n : Nat} {l : List Int} {v : Value} {H H' : AH} (h : RkS A n l v H) (u : Up H.next H H') : RkS A n l v H' :=
  (h.same fun i _ hi => u.row i hi).wide (Nat.le_refl _) u.next
theorem RkP.up {A : AH} {v : Value} {H H' : AH} (h : RkP A v H) (u : Up H.next H H') : RkP A v H' := by
  obtain ⟨i, h1, h2, h3, h4⟩ := h
  exact ⟨i, h1, h2, by have := u.next; omega, by rw [u.row i h3]; exact h4⟩
theorem RkP.ne {A : AH} {v : Value} {H : AH} (h : RkP A v H) : v ≠ .pointer (some ⟨H.next, 0, none⟩) := by
  rintro rfl
  obtain ⟨i, h1, h2, h3, h4⟩ := h
  have : H.next = i := by injection h1 with e; injection e with e; injection e
  omega
theorem RkS.set {A : AH} {n : Nat} {l : List Int} {w : Value} {H : AH} {i : Nat} {cs0 : List Value} (h : RkS A n l w H) (hr : H.row i = some ⟨38, true, cs0⟩) (cs : List Value) : RkS A n l w (H.setCells i cs) := by
  refine ⟨h.1, ?_⟩
  rcases h.2 with h2 | ⟨f, h1, h2, hv, hf⟩
  · exact .inl h2
  · refine .inr ⟨f, h1, h2, hv, ?_⟩
    rw [AH.setCells_row, if_neg]
    · exact hf
    · rintro rfl
      rw [hr] at hf
      injection hf with hf
      injection hf with e
      exact absurd e (by decide)
structure RkJ (A : AH) (n : Nat) (ps ss ts : List Int) (sv xv pv : Value) (cs fs : List Nat) (t : T) (H : AH) : Prop where
  hcs : cs = [2, 5, 8] ∨ cs = [5, 8] ∨ cs = [8] ∨ cs = []
  hfs : ∀ a ∈ fs, a = 9 ∨ a = 10 ∨ a = 11
  t9 : t 9 = sv
  t10 : t 10 = xv
  t12 : t 12 = sv
  t13 : t 13 = xv
  t15 : t 15 = sv
  t16 : t 16 = xv
  t2 : t 2 = pv
  up : Up A.next A H
  sc : Sc H
  s1 : 2 ∉ cs → RkS A n ps (t 11) H
  s2 : 5 ∉ cs → RkS A n ss (t 14) H
  s3 : 8 ∉ cs → RkS A n ts (t 17) H
  p1 : 9 ∉ fs → RkP A (t 5) H
  p2 : 10 ∉ fs → RkP A (t 6) H
  p3 : 11 ∉ fs → RkP A (t 7) H
  d1 : 9 ∉ fs → 10 ∉ fs → t 5 ≠ t 6
  d2 : 9 ∉ fs → 11 ∉ fs → t 5 ≠ t 7
  d3 : 10 ∉ fs → 11 ∉ fs → t 6 ≠ t 7
theorem not_erase {a x : Nat} {fs : List Nat} (h : x ∉ fs.erase a) (hne : x ≠ a) : x ∉ fs := fun hm => h ((List.mem_erase_of_ne hne).2 hm)

theorem RkJ.call1 {A : AH} {n : Nat} {ps ss ts : List Int} {sv xv pv w : Value} {fs : List Nat} {t : T} {H H' : AH} (h : RkJ A n ps ss ts sv xv pv [2, 5, 8] fs t H) (u : Up H.next H H') (sc : Sc H') (hf : Fr 1 2 H.next H'.next H' w n ps) : RkJ A n ps ss ts sv xv pv [5, 8] fs (updO t (some 11) w) H' where
  hcs := by simp
  hfs := h.hfs
  t9 := h.t9
  t10 := h.t10
  t12 := h.t12
  t13 := h.t13
  t15 := h.t15
  t16 := h.t16
  t2 := h.t2
  up := h.up.trans u h.up.next
  sc := sc
  s1 := fun _ => hf.wide h.up.next (Nat.le_refl _)
  s2 := fun k => absurd (by simp) k
  s3 := fun k => absurd (by simp) k
  p1 := fun k => (h.p1 k).up u
  p2 := fun k => (h.p2 k).up u
  p3 := fun k => (h.p3 k).up u
  d1 := h.d1
  d2 := h.d2
  d3 := h.d3
theorem RkJ.call2 {A : AH} {n : Nat} {ps ss ts : List Int} {sv xv pv w : Value} {fs : List Nat} {t : T} {H H' : AH} (h : RkJ A n ps ss ts sv xv pv [5, 8] fs t H) (u : Up H.next H H') (sc : Sc H') (hf : Fr 1 2 H.next H'.next H' w n ss) : RkJ A n ps ss ts sv xv pv [8] fs (updO t (some 14) w) H' where
  hcs := by simp
  hfs := h.hfs
  t9 := h.t9
  t10 := h.t10
  t12 := h.t12
  t13 := h.t13
  t15 := h.t15
  t16 := h.t16
  t2 := h.t2
  up := h.up.trans u h.up.next
  sc := sc
  s1 := fun _ => (h.s1 (by simp)).up u
  s2 := fun _ => hf.wide h.up.next (Nat.le_refl _)
  s3 := fun k => absurd (by simp) k
  p1 := fun k => (h.p1 k).up u
  p2 := fun k => (h.p2 k).up u
  p3 := fun k => (h.p3 k).up u
  d1 := h.d1
  d2 := h.d2
  d3 := h.d3
theorem RkJ.call3 {A : AH} {n : Nat} {ps ss ts : List Int} {sv xv pv w : Value} {fs : List Nat} {t : T} {H H' : AH} (h : RkJ A n ps ss ts sv xv pv [8] fs t H) (u : Up H.next H H') (sc : Sc H') (hf : Fr 1 2 H.next H'.next H' w n ts) : RkJ A n ps ss ts sv xv pv [] fs (updO t (some 17) w) H' where
  hcs := by simp
  hfs := h.hfs
  t9 := h.t9
  t10 := h.t10
  t12 := h.t12
  t13 := h.t13
  t15 := h.t15
  t16 := h.t16
  t2 := h.t2
  up := h.up.trans u h.up.next
  sc := sc
  s1 := fun _ => (h.s1 (by simp)).up u
  s2 := fun _ => (h.s2 (by simp)).up u
  s3 := fun _ => hf.wide h.up.next (Nat.le_refl _)
  p1 := fun k => (h.p1 k).up u
  p2 := fun k => (h.p2 k).up u
  p3 := fun k => (h.p3 k).up u
  d1 := h.d1
  d2 := h.d2
  d3 := h.d3
theorem RkJ.free1 {A : AH} {n : Nat} {ps ss ts : List Int} {sv xv pv : Value} {cs fs : List Nat} {t : T} {H : AH} (h : RkJ A n ps ss ts sv xv pv cs fs t H) : RkJ A n ps ss ts sv xv pv cs (fs.erase 9) (upd t 5 (.pointer (some ⟨H.next, 0, none⟩))) (H.push ⟨38, true, [.slice none 0 0]⟩) where
  hcs := h.hcs
  hfs := fun a ha => h.hfs a (List.mem_of_mem_erase ha)
  t9 := h.t9
  t10 := h.t10
  t12 := h.t12
  t13 := h.t13
  t15 := h.t15
  t16 := h.t16
  t2 := h.t2
  up := h.up.push h.up.next _
  sc := h.sc.push _
  s1 := fun k => (h.s1 k).up ((Up.refl _ H).push (Nat.le_refl _) _)
  s2 := fun k => (h.s2 k).up ((Up.refl _ H).push (Nat.le_refl _) _)
  s3 := fun k => (h.s3 k).up ((Up.refl _ H).push (Nat.le_refl _) _)
  p1 := fun _ => ⟨H.next, rfl, h.up.next, Nat.lt_succ_self _, by rw [AH.push_row, if_pos rfl]⟩
  p2 := fun k => (h.p2 (not_erase k (by decide))).up ((Up.refl _ H).push (Nat.le_refl _) _)
  p3 := fun k => (h.p3 (not_erase k (by decide))).up ((Up.refl _ H).push (Nat.le_refl _) _)
  d1 := fun _ k2 => (h.p2 (not_erase k2 (by decide))).ne.symm
  d2 := fun _ k2 => (h.p3 (not_erase k2 (by decide))).ne.symm
  d3 := fun k1 k2 => h.d3 (not_erase k1 (by decide)) (not_erase k2 (by decide))
theorem RkJ.free2 {A : AH} {n : Nat} {ps ss ts : List Int} {sv xv pv : Value} {cs fs : List Nat} {t : T} {H : AH} (h : RkJ A n ps ss ts sv xv pv cs fs t H) : RkJ A n ps ss ts sv xv pv cs (fs.erase 10) (upd t 6 (.pointer (some ⟨H.next, 0, none⟩))) (H.push ⟨38, true, [.slice none 0 0]⟩) where
  hcs := h.hcs
  hfs := fun a ha => h.hfs a (List.mem_of_mem_erase ha)
  t9 := h.t9
  t10 := h.t10
  t12 := h.t12
  t13 := h.t13
  t15 := h.t15
  t16 := h.t16
  t2 := h.t2
  up := h.up.push h.up.next _
  sc := h.sc.push _
  s1 := fun k => (h.s1 k).up ((Up.refl _ H).push (Nat.le_refl _) _)
  s2 := fun k => (h.s2 k).up ((Up.refl _ H).push (Nat.le_refl _) _)
  s3 := fun k => (h.s3 k).up ((Up.refl _ H).push (Nat.le_refl _) _)
  p1 := fun k => (h.p1 (not_erase k (by decide))).up ((Up.refl _ H).push (Nat.le_refl _) _)
  p2 := fun _ => ⟨H.next, rfl, h.up.next, Nat.lt_succ_self _, by rw [AH.push_row, if_pos rfl]⟩
  p3 := fun k => (h.p3 (not_erase k (by decide))).up ((Up.refl _ H).push (Nat.le_refl _) _)
  d1 := fun k1 _ => (h.p1 (not_erase k1 (by decide))).ne
  d2 := fun k1 k2 => h.d2 (not_erase k1 (by decide)) (not_erase k2 (by decide))
  d3 := fun _ k2 => (h.p3 (not_erase k2 (by decide))).ne.symm
theorem RkJ.free3 {A : AH} {n : Nat} {ps ss ts : List Int} {sv xv pv : Value} {cs fs : List Nat} {t : T} {H : AH} (h : RkJ A n ps ss ts sv xv pv cs fs t H) : RkJ A n ps ss ts sv xv pv cs (fs.erase 11) (upd t 7 (.pointer (some ⟨H.next, 0, none⟩))) (H.push ⟨38, true, [.slice none 0 0]⟩) where
  hcs := h.hcs
  hfs := fun a ha => h.hfs a (List.mem_of_mem_erase ha)
  t9 := h.t9
  t10 := h.t10
  t12 := h.t12
  t13 := h.t13
  t15 := h.t15
  t16 := h.t16
  t2 := h.t2
  up := h.up.push h.up.next _
  sc := h.sc.push _
  s1 := fun k => (h.s1 k).up ((Up.refl _ H).push (Nat.le_refl _) _)
  s2 := fun k => (h.s2 k).up ((Up.refl _ H).push (Nat.le_refl _) _)
  s3 := fun k => (h.s3 k).up ((Up.refl _ H).push (Nat.le_refl _) _)
  p1 := fun k => (h.p1 (not_erase k (by decide))).up ((Up.refl _ H).push (Nat.le_refl _) _)
  p2 := fun k => (h.p2 (not_erase k (by decide))).up ((Up.refl _ H).push (Nat.le_refl _) _)
  p3 := fun _ => ⟨H.next, rfl, h.up.next, Nat.lt_succ_self _, by rw [AH.push_row, if_pos rfl]⟩
  d1 := fun k1 k2 => h.d1 (not_erase k1 (by decide)) (not_erase k2 (by decide))
  d2 := fun k1 _ => (h.p1 (not_erase k1 (by decide))).ne
  d3 := fun k1 _ => (h.p2 (not_erase k1 (by decide))).ne

theorem ranking_c (n : Nat) (v : Value) (k : Nat) (l : List Int) (x : Value) (ll : List (List Int)) (ps ss ts : List Int) (H : AH) (hb : schedB n k l = true) (hres : resB n k l ll = true) (hl : ll.length ≤ 4294967296) (hv : Rd 14 H v k l) (hx : Rd2 1 H x ll)
    (hps : ps = sumsF n (fun _ o => o) (meets n l ll ll.length)) (hss : ss = sumsF n (sumF false ps) (meets n l ll ll.length)) (hts : ts = sumsF n (sumF true ps) (meets n l ll ll.length)) :
    ACalls Try.prog 98 [.agg #[.int .i64 n, v], x] H (fun u H' => Up H.next H H' ∧ Fr 1 2 H.next H'.next H' u n (rankL (ahd ps ss ts) n)) := by
  refine ACalls.wf (by kernel_rfl) fun hs => acalls_of_awp [.tmp 4] Try.func98 (by kernel_rfl) rfl rfl (Nat.le_of_ble_eq_true rfl) (by kernel_rfl) ?_
  obtain ⟨hn, _, _⟩ := schedB_at hb
  have hone := hv.one
  have hxone := hx.one
  have hpl : ps.length = n := by rw [hps, sumsF_length]
  have hsl : ss.length = n := by rw [hss, sumsF_length]
  have htl : ts.length = n := by rw [hts, sumsF_length]
  have up : Up H.next H (H.push ⟨32, true, [.int .i64 n, v]⟩) := (Up.refl _ H).push (Nat.le_refl _) _
  have e1 : (H.push ⟨32, true, [.int .i64 n, v]⟩).row H.next = some ⟨32, true, [.int .i64 n, v]⟩ := by rw [AH.push_row, if_pos rfl]
  have n1 : (H.push ⟨32, true, [.int .i64 n, v]⟩).next = H.next + 1 := rfl
  have sc1 : Sc (H.push ⟨32, true, [.int .i64 n, v]⟩) := Sc.push hs _
  try simp (disch := first | omega | (simp only [ints_length, List.length_replicate, List.length_set] <;> omega)) only [Sall,evalOp,init,binE,binI,unE,convE,okNil,builtE,gv,TD.isAgg,resV,↓reduceIte,Nat.reduceEqDiff,reduceCtorEq,Nat.reduceAdd,Nat.reduceMul,Nat.reduceLeDiff,quietOp,blindOp,Int.reduceEq,Int.reduceLT,Int.reduceLE,Nat.reduceLT,tiA, hone]
  revert up e1 n1 sc1
  generalize H.push ⟨32, true, [.int .i64 n, v]⟩ = H1
  intro up e1 n1 sc1
  have hvU : ∀ H' : AH, Up H1.next H1 H' → Rd 14 H' v k l := fun H' u => hv.same fun i r hr => by
    have hi := hs _ _ hr
    rw [u.row i (by omega), up.row i hi]; exact hr
  have hxU : ∀ H' : AH, Up H1.next H1 H' → Rd2 1 H' x ll := fun H' u => hx.same fun i r hr => by
    have hi := hs _ _ hr
    rw [u.row i (by omega), up.row i hi]; exact hr
  refine awp_cutQ (fun t H2 => ∃ (i5 i6 i7 : Nat) (v1 v2 v3 : Value), t 5 = .pointer (some ⟨i5, 0, none⟩) ∧ t 6 = .pointer (some ⟨i6, 0, none⟩) ∧ t 7 = .pointer (some ⟨i7, 0, none⟩) ∧ t 2 = .pointer (some ⟨H.next, 0, none⟩) ∧ Up H1.next H1 H2 ∧ Sc H2 ∧
    i5 < H2.next ∧ i6 < H2.next ∧ i7 < H2.next ∧ H2.row i5 = some ⟨38, true, [v1]⟩ ∧ H2.row i6 = some ⟨38, true, [v2]⟩ ∧ H2.row i7 = some ⟨38, true, [v3]⟩ ∧ RkS H1 n ps v1 H2 ∧ RkS H1 n ss v2 H2 ∧ RkS H1 n ts v3 H2) ?_ ?_
  · refine draw_pool [0, 1, 3, 4, 6, 7] [2, 5, 8] [9, 10, 11] (OT.run [12, 13, 14] .nil) (by kernel_rfl) (by kernel_rfl) (Nat.le_of_ble_eq_true rfl) (RkJ H1 n ps ss ts (.agg #[.int .i64 n, v]) x (.pointer (some ⟨H.next, 0, none⟩))) ⟨?_, ?_, ?_⟩ ?_
    · intro c cs fs t H2 hJ
      rcases hJ.hcs with e | e | e | e
      · injection e with e1 e2
        subst e1; subst e2
        have hc := points_c n v k l x ll H2 hb hres hl (hvU H2 hJ.up) (hxU H2 hJ.up)
        rw [← hps] at hc
        try simp (disch := first | omega | (simp only [ints_length, List.length_replicate, List.length_set] <;> omega)) only [Sall,evalOp,init,binE,binI,unE,convE,okNil,builtE,gv,TD.isAgg,resV,↓reduceIte,Nat.reduceEqDiff,reduceCtorEq,Nat.reduceAdd,Nat.reduceMul,Nat.reduceLeDiff,quietOp,blindOp,Int.reduceEq,Int.reduceLT,Int.reduceLE,Nat.reduceLT,tiA, awpT_nil, awpT_one, awpT_run_nil, awpT_run_cons, hJ.t9, hJ.t10]
        refine hc.sc.mono ?_
        rintro w H3 ⟨⟨up3, hf3⟩, sc3⟩
        exact ⟨.inr (.inr (up3.le hJ.sc)), hJ.call1 up3 sc3 hf3⟩
      · injection e with e1 e2
        subst e1; subst e2
        have hc := second_c n v k l x ll H2 hb hres hl (hvU H2 hJ.up) (hxU H2 hJ.up)
        rw [second_sum, ← hps, ← hss] at hc
        try simp (disch := first | omega | (simp only [ints_length, List.length_replicate, List.length_set] <;> omega)) only [Sall,evalOp,init,binE,binI,unE,convE,okNil,builtE,gv,TD.isAgg,resV,↓reduceIte,Nat.reduceEqDiff,reduceCtorEq,Nat.reduceAdd,Nat.reduceMul,Nat.reduceLeDiff,quietOp,blindOp,Int.reduceEq,Int.reduceLT,Int.reduceLE,Nat.reduceLT,tiA, awpT_nil, awpT_one, awpT_run_nil, awpT_run_cons, hJ.t12, hJ.t13]
        refine hc.sc.mono ?_
        rintro w H3 ⟨⟨up3, hf3⟩, sc3⟩
        exact ⟨.inr (.inr (up3.le hJ.sc)), hJ.call2 up3 sc3 hf3⟩
      · injection e with e1 e2
        subst e1; subst e2
        have hc := third_c n v k l x ll H2 hb hres hl (hvU H2 hJ.up) (hxU H2 hJ.up)
        rw [third_sum, ← hps, ← hts] at hc
        try simp (disch := first | omega | (simp only [ints_length, List.length_replicate, List.length_set] <;> omega)) only [Sall,evalOp,init,binE,binI,unE,convE,okNil,builtE,gv,TD.isAgg,resV,↓reduceIte,Nat.reduceEqDiff,reduceCtorEq,Nat.reduceAdd,Nat.reduceMul,Nat.reduceLeDiff,quietOp,blindOp,Int.reduceEq,Int.reduceLT,Int.reduceLE,Nat.reduceLT,tiA, awpT_nil, awpT_one, awpT_run_nil, awpT_run_cons, hJ.t15, hJ.t16]
        refine hc.sc.mono ?_
        rintro w H3 ⟨⟨up3, hf3⟩, sc3⟩
        exact ⟨.inr (.inr (up3.le hJ.sc)), hJ.call3 up3 sc3 hf3⟩
      · cases e
    · intro a cs fs t H2 ha hJ
      rcases hJ.hfs a ha with rfl | rfl | rfl
      · try simp (disch := first | omega | (simp only [ints_length, List.length_replicate, List.length_set] <;> omega)) only [Sall,evalOp,init,binE,binI,unE,convE,okNil,builtE,gv,TD.isAgg,resV,↓reduceIte,Nat.reduceEqDiff,reduceCtorEq,Nat.reduceAdd,Nat.reduceMul,Nat.reduceLeDiff,quietOp,blindOp,Int.reduceEq,Int.reduceLT,Int.reduceLE,Nat.reduceLT,tiA, awpT_nil, awpT_one, awpT_run_nil, awpT_run_cons]
        exact ⟨.inr (.inr (hJ.sc.le _)), hJ.free1⟩
      · try simp (disch := first | omega | (simp only [ints_length, List.length_replicate, List.length_set] <;> omega)) only [Sall,evalOp,init,binE,binI,unE,convE,okNil,builtE,gv,TD.isAgg,resV,↓reduceIte,Nat.reduceEqDiff,reduceCtorEq,Nat.reduceAdd,Nat.reduceMul,Nat.reduceLeDiff,quietOp,blindOp,Int.reduceEq,Int.reduceLT,Int.reduceLE,Nat.reduceLT,tiA, awpT_nil, awpT_one, awpT_run_nil, awpT_run_cons]
        exact ⟨.inr (.inr (hJ.sc.le _)), hJ.free2⟩
      · try simp (disch := first | omega | (simp only [ints_length, List.length_replicate, List.length_set] <;> omega)) only [Sall,evalOp,init,binE,binI,unE,convE,okNil,builtE,gv,TD.isAgg,resV,↓reduceIte,Nat.reduceEqDiff,reduceCtorEq,Nat.reduceAdd,Nat.reduceMul,Nat.reduceLeDiff,quietOp,blindOp,Int.reduceEq,Int.reduceLT,Int.reduceLE,Nat.reduceLT,tiA, awpT_nil, awpT_one, awpT_run_nil, awpT_run_cons]
        exact ⟨.inr (.inr (hJ.sc.le _)), hJ.free3⟩
    · intro t H2 hJ
      obtain ⟨i5, h5, a5, b5, r5⟩ := hJ.p1 (by simp)
      obtain ⟨i6, h6, a6, b6, r6⟩ := hJ.p2 (by simp)
      obtain ⟨i7, h7, a7, b7, r7⟩ := hJ.p3 (by simp)
      have d56 : ¬ i5 = i6 := fun e => hJ.d1 (by simp) (by simp) (by rw [h5, h6, e])
      have d57 : ¬ i5 = i7 := fun e => hJ.d2 (by simp) (by simp) (by rw [h5, h7, e])
      have d67 : ¬ i6 = i7 := fun e => hJ.d3 (by simp) (by simp) (by rw [h6, h7, e])
      have d65 : ¬ i6 = i5 := fun e => d56 e.symm
      have d75 : ¬ i7 = i5 := fun e => d57 e.symm
      have d76 : ¬ i7 = i6 := fun e => d67 e.symm
      have f1 := hJ.s1 (by simp)
      have f2 := hJ.s2 (by simp)
      have f3 := hJ.s3 (by simp)
      have o1 := Rd.one (Fr.rd f1)
      have o2 := Rd.one (Fr.rd f2)
      have o3 := Rd.one (Fr.rd f3)
      have t2 := hJ.t2
      have hup := hJ.up
      have hsc := hJ.sc
      try simp (disch := first | omega | (simp only [ints_length, List.length_replicate, List.length_set] <;> omega)) only [Sall,evalOp,init,binE,binI,unE,convE,okNil,builtE,gv,TD.isAgg,resV,↓reduceIte,Nat.reduceEqDiff,reduceCtorEq,Nat.reduceAdd,Nat.reduceMul,Nat.reduceLeDiff,quietOp,blindOp,Int.reduceEq,Int.reduceLT,Int.reduceLE,Nat.reduceLT,tiA, awpT_nil, awpT_one, awpT_run_nil, awpT_run_cons, h5, h6, h7, r5, r6, r7, o1, o2, o3, d56, d57, d67, d65, d75, d76, t2]
      refine ⟨.inr (.inl (by kernel_rfl)), ?_⟩
      try simp (disch := first | omega | (simp only [ints_length, List.length_replicate, List.length_set] <;> omega)) only [Sall,evalOp,init,binE,binI,unE,convE,okNil,builtE,gv,TD.isAgg,resV,↓reduceIte,Nat.reduceEqDiff,reduceCtorEq,Nat.reduceAdd,Nat.reduceMul,Nat.reduceLeDiff,quietOp,blindOp,Int.reduceEq,Int.reduceLT,Int.reduceLE,Nat.reduceLT,tiA, awpT_nil, awpT_one, awpT_run_nil, awpT_run_cons, h5, h6, h7, r5, r6, r7, o1, o2, o3, d56, d57, d67, d65, d75, d76, t2]
      refine ⟨.inr (.inl (by kernel_rfl)), ?_⟩
      try simp (disch := first | omega | (simp only [ints_length, List.length_replicate, List.length_set] <;> omega)) only [Sall,evalOp,init,binE,binI,unE,convE,okNil,builtE,gv,TD.isAgg,resV,↓reduceIte,Nat.reduceEqDiff,reduceCtorEq,Nat.reduceAdd,Nat.reduceMul,Nat.reduceLeDiff,quietOp,blindOp,Int.reduceEq,Int.reduceLT,Int.reduceLE,Nat.reduceLT,tiA, awpT_nil, awpT_one, awpT_run_nil, awpT_run_cons, h5, h6, h7, r5, r6, r7, o1, o2, o3, d56, d57, d67, d65, d75, d76, t2]
      refine ⟨.inr (.inl (by kernel_rfl)), i5, i6, i7, t 11, t 14, t 17, ?_⟩
      have q6 : (H2.setCells i5 [t 11]).row i6 = some ⟨38, true, [.slice none 0 0]⟩ := by rw [AH.setCells_row, if_neg d65]; exact r6
      have q7 : ((H2.setCells i5 [t 11]).setCells i6 [t 14]).row i7 = some ⟨38, true, [.slice none 0 0]⟩ := by rw [AH.setCells_row, if_neg d76, AH.setCells_row, if_neg d75]; exact r7
      try simp (disch := first | omega | (simp only [ints_length, List.length_replicate, List.length_set] <;> omega)) only [Sall,evalOp,init,binE,binI,unE,convE,okNil,builtE,gv,TD.isAgg,resV,↓reduceIte,Nat.reduceEqDiff,reduceCtorEq,Nat.reduceAdd,Nat.reduceMul,Nat.reduceLeDiff,quietOp,blindOp,Int.reduceEq,Int.reduceLT,Int.reduceLE,Nat.reduceLT,tiA, h5, h6, h7, t2, r5, r6, r7, d56, d57, d67, d65, d75, d76]
      exact ⟨((hup.set a5 _).set a6 _).set a7 _, ((hsc.set _ _).set _ _).set _ _, b5, b6, b7, ((RkS.set f1 r5 _).set q6 _).set q7 _, ((RkS.set f2 r5 _).set q6 _).set q7 _, ((RkS.set f3 r5 _).set q6 _).set q7 _⟩
    · try simp (disch := first | omega | (simp only [ints_length, List.length_replicate, List.length_set] <;> omega)) only [Sall,evalOp,init,binE,binI,unE,convE,okNil,builtE,gv,TD.isAgg,resV,↓reduceIte,Nat.reduceEqDiff,reduceCtorEq,Nat.reduceAdd,Nat.reduceMul,Nat.reduceLeDiff,quietOp,blindOp,Int.reduceEq,Int.reduceLT,Int.reduceLE,Nat.reduceLT,tiA, awpT_nil, awpT_one, awpT_run_nil, awpT_run_cons, e1]
      exact ⟨by simp, by simp, rfl, rfl, rfl, rfl, rfl, rfl, rfl, Up.refl _ _, sc1, fun k => absurd (by simp) k, fun k => absurd (by simp) k, fun k => absurd (by simp) k, fun k => absurd (by simp) k, fun k => absurd (by simp) k, fun k => absurd (by simp) k, fun k => absurd (by simp) k, fun k => absurd (by simp) k, fun k => absurd (by simp) k⟩
  · rintro t H2 ⟨i5, i6, i7, v1, v2, v3, h5, h6, h7, h2, u2, sc2, b5, b6, b7, r5, r6, r7, f1, f2, f3⟩
    have n2 := u2.next
    have e2 : H2.row H.next = some ⟨32, true, [.int .i64 n, v]⟩ := by rw [u2.row _ (by omega), e1]
    try simp (disch := first | omega | (simp only [ints_length, List.length_replicate, List.length_set] <;> omega)) only [Sall,evalOp,init,binE,binI,unE,convE,okNil,builtE,gv,TD.isAgg,resV,↓reduceIte,Nat.reduceEqDiff,reduceCtorEq,Nat.reduceAdd,Nat.reduceMul,Nat.reduceLeDiff,quietOp,blindOp,Int.reduceEq,Int.reduceLT,Int.reduceLE,Nat.reduceLT,tiA, h2, e2, w64]
    refine (numbersFrom_c 0 ((n : Int) - 1) n (by omega) (by omega) (by omega) H2).sc.mono ?_
    rintro nv H3 ⟨⟨up3, hf3⟩, sc3⟩
    have n3 := up3.next
    obtain ⟨di, q1, q2, rfl, q3⟩ := hf3.get (by omega)
    refine Holds.mp ?_
    try simp (disch := first | omega | (simp only [ints_length, List.length_replicate, List.length_set] <;> omega)) only [Sall,evalOp,init,binE,binI,unE,convE,okNil,builtE,gv,TD.isAgg,resV,↓reduceIte,Nat.reduceEqDiff,reduceCtorEq,Nat.reduceAdd,Nat.reduceMul,Nat.reduceLeDiff,quietOp,blindOp,Int.reduceEq,Int.reduceLT,Int.reduceLE,Nat.reduceLT,tiA, h5, h6, h7, List.mem_cons, List.not_mem_nil, or_false, forall_eq_or_imp, forall_eq, Array.size_empty]
    refine (sortStable_c n (by omega) 166 [.pointer (some ⟨i5, 0, none⟩), .pointer (some ⟨i6, 0, none⟩), .pointer (some ⟨i7, 0, none⟩)] (cmpR ps ss ts) di n H3 q2 q3 (fun a b => cmpR_range ps ss ts a b) ?_).mono ?_
    · intro a b H4 ha hb' hS
      obtain ⟨s1, s2, s3⟩ := hS
      have g5 : H4.row i5 = some ⟨38, true, [v1]⟩ := by rw [s2 _ (by omega) (by omega), up3.row _ b5]; exact r5
      have g6 : H4.row i6 = some ⟨38, true, [v2]⟩ := by rw [s2 _ (by omega) (by omega), up3.row _ b6]; exact r6
      have g7 : H4.row i7 = some ⟨38, true, [v3]⟩ := by rw [s2 _ (by omega) (by omega), up3.row _ b7]; exact r7
      have same : ∀ i, H1.next ≤ i → i < H2.next → H4.row i = H2.row i := fun i _ hi => by rw [s2 _ (by omega) (by omega), up3.row _ hi]
      have w1 : Rd 1 H4 v1 ps.length ps := by rw [hpl]; exact (Fr.same f1 same).rd
      have w2 : Rd 1 H4 v2 ss.length ss := by rw [hsl]; exact (Fr.same f2 same).rd
      have w3 : Rd 1 H4 v3 ts.length ts := by rw [htl]; exact (Fr.same f3 same).rd
      exact rkClosure_c ps ss ts i5 i6 i7 v1 v2 v3 a b H4 g5 g6 g7 w1 w2 w3 (by omega) (by omega)
    · rintro r H4 ⟨⟨s1, s2, s3⟩, hd⟩
      refine Holds.mp ?_
      try simp (disch := first | omega | (simp only [ints_length, List.length_replicate, List.length_set] <;> omega)) only [Sall,evalOp,init,binE,binI,unE,convE,okNil,builtE,gv,TD.isAgg,resV,↓reduceIte,Nat.reduceEqDiff,reduceCtorEq,Nat.reduceAdd,Nat.reduceMul,Nat.reduceLeDiff,quietOp,blindOp,Int.reduceEq,Int.reduceLT,Int.reduceLE,Nat.reduceLT,tiA, true_and]
      have eg : (fun a b => decide (cmpR ps ss ts a b < 0)) = ahd ps ss ts := by funext a b; exact cmpR_ahd ps ss ts a b
      rw [eg] at hd
      exact ⟨⟨by omega, fun i hi => by rw [s2 i (by omega) (by omega), up3.row i (by omega), u2.row i (by omega), up.row i hi]⟩, by rw [rankL_length]; omega, .inr ⟨di, by omega, by omega, rfl, hd⟩⟩
end Go.Proofs.Ytgkmdfjjlghecaa.A
end
