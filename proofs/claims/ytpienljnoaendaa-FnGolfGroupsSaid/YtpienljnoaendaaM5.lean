/- The walk of the law FnGolfGroups. And what follows. -/
import Derived.Test.YtpienljnoaendaaM4
set_option linter.unusedSimpArgs false
set_option linter.unusedVariables false
section
set_option maxRecDepth 100000
set_option maxHeartbeats 2000000
namespace Go.Proofs.Ytpienljnoaendaa.A
open Go Go.Abs Go.RowKit
theorem rows9G_c (a b : Value) (ll : List (List Int)) (H : AH) (hn : ll.length ≤ 4294967296) (hr : ∀ j, j < ll.length → (ll.getD j []).length ≤ 4294967296) (ha : Rd2 1 H a ll) (hb : Rd2 1 H b ll) : ACalls Try.prog 11 [a, b] H (is (.bool true) H) := by
  refine acalls_of_awp [.tmp 4] Try.func11 (by kernel_rfl) rfl rfl (Nat.le_of_ble_eq_true rfl) (by kernel_rfl) ?_
  have la := ha.len
  have lb := hb.len
  try simp (disch := first | omega | (simp only [L3] <;> omega)) only [Sall,evalOp,init,binA_s,binE,binI,unE,convE,okNil,builtE,gv,TD.isAgg,resV,↓reduceIte,Nat.reduceEqDiff,reduceCtorEq,Nat.reduceAdd,Nat.reduceMul,Nat.reduceLeDiff,quietOp,blindOp,Int.reduceEq,Int.reduceLT,Int.reduceLE,Nat.reduceLT,tiA,tiXA, la, lb, builtE, bne_self_eq_false]
  refine awp_loop (fun z t H' => H' = H ∧ ∃ j : Nat, z = ll.length - j ∧ j ≤ ll.length ∧ t 5 = .int .i64 j ∧ t 0 = a ∧ t 1 = b) ll.length ?_ ?_
  · refine ⟨rfl, 0, by omega, by omega, ?_⟩
    try simp (disch := first | omega | (simp only [L3] <;> omega)) only [Sall,evalOp,init,binA_s,binE,binI,unE,convE,okNil,builtE,gv,TD.isAgg,resV,↓reduceIte,Nat.reduceEqDiff,reduceCtorEq,Nat.reduceAdd,Nat.reduceMul,Nat.reduceLeDiff,quietOp,blindOp,Int.reduceEq,Int.reduceLT,Int.reduceLE,Nat.reduceLT,tiA,tiXA, Int.natCast_zero]
  · rintro z t H' ⟨rfl, j, hz, hj, h5, h0, h1⟩
    try simp (disch := first | omega | (simp only [L3] <;> omega)) only [Sall,evalOp,init,binA_s,binE,binI,unE,convE,okNil,builtE,gv,TD.isAgg,resV,↓reduceIte,Nat.reduceEqDiff,reduceCtorEq,Nat.reduceAdd,Nat.reduceMul,Nat.reduceLeDiff,quietOp,blindOp,Int.reduceEq,Int.reduceLT,Int.reduceLE,Nat.reduceLT,tiA,tiXA, h5, h0, la, builtE]
    refine condC_dec (fun hh => ?_) (fun hh => ?_)
    · obtain ⟨ai, ao, au, ac, ar, ax, am, rfl, a1, a2, a3, a4⟩ := ha.get (j := j) (by omega)
      obtain ⟨bi, bo, bu, bc, br, bx, bm, rfl, b1, b2, b3, b4⟩ := hb.get (j := j) (by omega)
      have a5 := a3.lenK1
      have b5 := b3.lenK1
      rw [a5] at a3
      rw [b5] at b3
      have hj2 := hr j (by omega)
      try simp (disch := first | omega | (simp only [L3] <;> omega)) only [Sall,evalOp,init,binA_s,binE,binI,unE,convE,okNil,builtE,gv,TD.isAgg,resV,↓reduceIte,Nat.reduceEqDiff,reduceCtorEq,Nat.reduceAdd,Nat.reduceMul,Nat.reduceLeDiff,quietOp,blindOp,Int.reduceEq,Int.reduceLT,Int.reduceLE,Nat.reduceLT,tiA,tiXA, h5, h0, h1]
      refine draw_id (by kernel_rfl) (by kernel_rfl) ?_
      try simp (disch := first | omega | (simp only [L3] <;> omega)) only [Sall,evalOp,init,binA_s,binE,binI,unE,convE,okNil,builtE,gv,TD.isAgg,resV,↓reduceIte,Nat.reduceEqDiff,reduceCtorEq,Nat.reduceAdd,Nat.reduceMul,Nat.reduceLeDiff,quietOp,blindOp,Int.reduceEq,Int.reduceLT,Int.reduceLE,Nat.reduceLT,tiA,tiXA, h5, h0, h1, a1, a2, a4, b1, b2, b4]
      (repeat refine And.intro (by omega) ?_)
      try simp (disch := first | omega | (simp only [L3] <;> omega)) only [Sall,evalOp,init,binA_s,binE,binI,unE,convE,okNil,builtE,gv,TD.isAgg,resV,↓reduceIte,Nat.reduceEqDiff,reduceCtorEq,Nat.reduceAdd,Nat.reduceMul,Nat.reduceLeDiff,quietOp,blindOp,Int.reduceEq,Int.reduceLT,Int.reduceLE,Nat.reduceLT,tiA,tiXA, h5, h0, h1, a1, a2, a4, b1, b2, b4]
      refine (likeInts_c ax bx _ _ H' hj2 a3 b3).to ?_
      refine ⟨.inr (.inr (LE.refl _)), ?_⟩
      try simp (disch := first | omega | (simp only [L3] <;> omega)) only [Sall,evalOp,init,binA_s,binE,binI,unE,convE,okNil,builtE,gv,TD.isAgg,resV,↓reduceIte,Nat.reduceEqDiff,reduceCtorEq,Nat.reduceAdd,Nat.reduceMul,Nat.reduceLeDiff,quietOp,blindOp,Int.reduceEq,Int.reduceLT,Int.reduceLE,Nat.reduceLT,tiA,tiXA, h5, h0, h1, w64]
      exact ⟨ll.length - (j + 1), by omega, j + 1, rfl, by omega, rfl⟩
    · try simp (disch := first | omega | (simp only [L3] <;> omega)) only [Sall,evalOp,init,binA_s,binE,binI,unE,convE,okNil,builtE,gv,TD.isAgg,resV,↓reduceIte,Nat.reduceEqDiff,reduceCtorEq,Nat.reduceAdd,Nat.reduceMul,Nat.reduceLeDiff,quietOp,blindOp,Int.reduceEq,Int.reduceLT,Int.reduceLE,Nat.reduceLT,tiA,tiXA, true_and]
      exact ⟨rfl, rfl⟩
theorem gmV_len (q g : Int) (R : List (List Int)) : (gmV q g R).length ≤ 25 ∧ ∀ j, j < (gmV q g R).length → ((gmV q g R).getD j []).length ≤ 25 := by
  unfold gmV
  split
  · rename_i h
    obtain ⟨n, gN, c, rfl, rfl, q0, q1, q2, q3, q4, q5, q6, q7⟩ := golfB_at h
    have sq := gmM_sq n gN R
    rw [Int.toNat_natCast, Int.toNat_natCast]
    exact ⟨by rw [sq.1]; omega, fun j hj => by rw [sq.2 j (by rw [← sq.1]; exact hj)]; omega⟩
  · exact ⟨by simp, fun j hj => by simp at hj⟩
theorem nmV_len (q g : Int) (R : List (List Int)) (a : Int) : (nmV q g R a).length ≤ 25 := by
  unfold nmV
  split
  · rename_i h
    obtain ⟨n, gN, c, rfl, rfl, q0, q1, q2, q3, q4, q5, q6, q7⟩ := golfB_at h.1
    have := nmL_length (gmM (n : Int).toNat (gN : Int).toNat R) a.toNat n
    rw [Int.toNat_natCast] at *
    omega
  · simp
theorem goV_len (q g : Int) (R : List (List Int)) (i a : Int) : (goV q g R i a).length ≤ 25 := by
  unfold goV
  split
  · rename_i h
    obtain ⟨h1, ⟨hi, hi2⟩, ha, ha2⟩ := h
    obtain ⟨n, gN, c, rfl, rfl, q0, q1, q2, q3, q4, q5, q6, q7⟩ := golfB_at h1
    obtain ⟨iN, rfl⟩ : ∃ iN : Nat, i = iN := ⟨i.toNat, by omega⟩
    rw [Int.toNat_natCast, Int.toNat_natCast]
    obtain ⟨t, ht, e, _⟩ := grp_own (by omega) q0 (q7 iN (by omega)) (a := a) ⟨ha, by omega⟩
    rw [e, blk_len q0 (q7 iN (by omega)) ht]
    omega
  · simp
theorem law_GolfGroups_c (cv : Value) (nb : Nat) (H : AH) (hc : CodeOk H cv nb) :
    ACalls Try.prog 3 [cv] H (fun v _ => v = .bool true ∧ True) := by
  refine ACalls.wf (by kernel_rfl) fun hs => acalls_of_awp [.tmp 2] Try.func3 (by kernel_rfl) rfl rfl (Nat.le_of_ble_eq_true rfl) (by kernel_rfl) ?_
  have hone := hc.one
  try simp (disch := first | omega | (simp only [L3] <;> omega)) only [Sall,evalOp,init,binA_s,binE,binI,unE,convE,okNil,builtE,gv,TD.isAgg,resV,↓reduceIte,Nat.reduceEqDiff,reduceCtorEq,Nat.reduceAdd,Nat.reduceMul,Nat.reduceLeDiff,quietOp,blindOp,Int.reduceEq,Int.reduceLT,Int.reduceLE,Nat.reduceLT,tiA,tiXA, true_and]
  refine (big_c cv nb H hc).to ?_
  refine Holds.mp ?_
  by_cases hbig : 4096 < (nb : Int)
  · have e : decide (4096 < (nb : Int)) = true := decide_eq_true hbig
    try simp (disch := first | omega | (simp only [L3] <;> omega)) only [Sall,evalOp,init,binA_s,binE,binI,unE,convE,okNil,builtE,gv,TD.isAgg,resV,↓reduceIte,Nat.reduceEqDiff,reduceCtorEq,Nat.reduceAdd,Nat.reduceMul,Nat.reduceLeDiff,quietOp,blindOp,Int.reduceEq,Int.reduceLT,Int.reduceLE,Nat.reduceLT,tiA,tiXA, e]
  have e : decide (4096 < (nb : Int)) = false := decide_eq_false hbig
  have hnb : nb ≤ 4611686018427387904 := by omega
  try simp (disch := first | omega | (simp only [L3] <;> omega)) only [Sall,evalOp,init,binA_s,binE,binI,unE,convE,okNil,builtE,gv,TD.isAgg,resV,↓reduceIte,Nat.reduceEqDiff,reduceCtorEq,Nat.reduceAdd,Nat.reduceMul,Nat.reduceLeDiff,quietOp,blindOp,Int.reduceEq,Int.reduceLT,Int.reduceLE,Nat.reduceLT,tiA,tiXA, e, hone]
  refine (drawGroupOf_c cv nb H hnb hc).ex ?_
  rintro ⟨⟨i, a⟩, ⟨q, g⟩, x⟩ H1 ⟨⟨hi, ha⟩, R, hq, hg, hR, hRR, o1⟩
  dsimp only at hi ha hq hg hRR
  have hx := (hRR H1 fun i r _ h => h).one
  have hl1 : R.length ≤ 4194304 := by omega
  have hl2 : ∀ r ∈ R, r.length ≤ 4194304 := fun r hr => by have := hR.2 r hr; omega
  refine Holds.mp ?_
  try simp (disch := first | omega | (simp only [L3] <;> omega)) only [Sall,evalOp,init,binA_s,binE,binI,unE,convE,okNil,builtE,gv,TD.isAgg,resV,↓reduceIte,Nat.reduceEqDiff,reduceCtorEq,Nat.reduceAdd,Nat.reduceMul,Nat.reduceLeDiff,quietOp,blindOp,Int.reduceEq,Int.reduceLT,Int.reduceLE,Nat.reduceLT,tiA,tiXA, hx]
  have o2 := ((o1.push ⟨26, true, [.int .i64 0, .int .i64 0, .slice none 0 0]⟩).putRow 0 rfl (cs' := [.int .i64 q, .int .i64 g, x]))
  obtain ⟨ei, eei⟩ : ∃ ei, ei = H1.next := ⟨_, rfl⟩
  rw [← eei] at o2 ⊢
  have keep : ∀ i r, H1.row i = some r → ((H1.push ⟨26, true, [.int .i64 0, .int .i64 0, .slice none 0 0]⟩).setCells ei [.int .i64 q, .int .i64 g, x]).row i = some r := fun i r hr => by
    have := o1.sc _ _ hr
    rw [AH.setCells_row, if_neg (by omega), AH.push_row, if_neg (by omega)]; exact hr
  have o2 : Ow H ((H1.push ⟨26, true, [.int .i64 0, .int .i64 0, .slice none 0 0]⟩).setCells ei [.int .i64 q, .int .i64 g, x]) [.row ei ⟨26, true, [.int .i64 q, .int .i64 g, x]⟩] := o2
  generalize (H1.push ⟨26, true, [.int .i64 0, .int .i64 0, .slice none 0 0]⟩).setCells ei [.int .i64 q, .int .i64 g, x] = H2 at o2 keep ⊢
  have g3 := (o2.rowAt 0 rfl).1
  have rx := hRR H2 fun i r _ h => keep i r h
  have sc2 := o2.sc
  clear hRR keep o2 o1 hs hc
  have k1 := goV_len q g R i a
  have k2 := gmV_len q g R
  have k3 := nmV_len q g R a
  have k4 := tidV_len q g R i
  generalize eG : goV q g R i a = G at *
  generalize eM : gmV q g R = M at *
  generalize eN : nmV q g R a = N at *
  generalize eT : tidV q g R i = T' at *
  refine ACalls.ex (g := fun u => .tuple #[u, .int .i64 (glC q g R (decide (0 ≤ i ∧ i ≤ (R.length : Int) - 1) && decide (0 ≤ a ∧ a ≤ q - 1)))]) (GroupOf_c q g x R i a H2 (by omega) rx hl1 hl2) ?_
  rintro v6 H3 o3
  rw [eG] at o3
  have hv6 := o3.one 0 rfl
  have g3' := o3.old sc2 _ _ g3
  refine Holds.mp ?_
  try simp (disch := first | omega | (simp only [L3] <;> omega)) only [Sall,evalOp,init,binA_s,binE,binI,unE,convE,okNil,builtE,gv,TD.isAgg,resV,↓reduceIte,Nat.reduceEqDiff,reduceCtorEq,Nat.reduceAdd,Nat.reduceMul,Nat.reduceLeDiff,quietOp,blindOp,Int.reduceEq,Int.reduceLT,Int.reduceLE,Nat.reduceLT,tiA,tiXA, hv6, g3', hx]
  refine ACalls.ex (g := fun u => .tuple #[u, .int .i64 (glC q g R (decide (0 ≤ i ∧ i ≤ (R.length : Int) - 1) && decide (0 ≤ a ∧ a ≤ q - 1)))]) (specGroupOf_c q g x R i a H3 (rx.same (o3.old sc2)) hl1 hl2) ?_
  rintro v8 H4 o4
  rw [eG] at o4
  have o4 := o3.call o4
  have hv8 := o4.one 1 rfl
  have g3' := o4.old sc2 _ _ g3
  refine Holds.mp ?_
  try simp (disch := first | omega | (simp only [L3] <;> omega)) only [Sall,evalOp,init,binA_s,binE,binI,unE,convE,okNil,builtE,gv,TD.isAgg,resV,↓reduceIte,Nat.reduceEqDiff,reduceCtorEq,Nat.reduceAdd,Nat.reduceMul,Nat.reduceLeDiff,quietOp,blindOp,Int.reduceEq,Int.reduceLT,Int.reduceLE,Nat.reduceLT,tiA,tiXA, hv8, bne_self_eq_false]
  refine (likeInts_c v6 v8 _ G H4 (by omega) (o4.rd 0 rfl) (o4.rd 1 rfl)).to ?_
  refine Holds.mp ?_
  try simp (disch := first | omega | (simp only [L3] <;> omega)) only [Sall,evalOp,init,binA_s,binE,binI,unE,convE,okNil,builtE,gv,TD.isAgg,resV,↓reduceIte,Nat.reduceEqDiff,reduceCtorEq,Nat.reduceAdd,Nat.reduceMul,Nat.reduceLeDiff,quietOp,blindOp,Int.reduceEq,Int.reduceLT,Int.reduceLE,Nat.reduceLT,tiA,tiXA, g3', hx, Bool.not_true]
  have o4 := o4.only 0 rfl
  refine ACalls.ex (g := fun u => .tuple #[u, .int .i64 (glC q g R true)]) (GolfMeetings_c q g x R H4 (rx.same (o4.old sc2)) hl1 hl2) ?_
  rintro v10 H5 o5
  rw [eM] at o5
  have o5 := o4.call o5
  have hv10 := (o5.rd2 1 rfl).one
  have g3' := o5.old sc2 _ _ g3
  refine Holds.mp ?_
  try simp (disch := first | omega | (simp only [L3] <;> omega)) only [Sall,evalOp,init,binA_s,binE,binI,unE,convE,okNil,builtE,gv,TD.isAgg,resV,↓reduceIte,Nat.reduceEqDiff,reduceCtorEq,Nat.reduceAdd,Nat.reduceMul,Nat.reduceLeDiff,quietOp,blindOp,Int.reduceEq,Int.reduceLT,Int.reduceLE,Nat.reduceLT,tiA,tiXA, hv10, g3', hx]
  refine ACalls.ex (g := fun u => .tuple #[u, .int .i64 (glC q g R true)]) (specGolfMeetings_c q g x R H5 (rx.same (o5.old sc2)).rd2 hl1 hl2) ?_
  rintro v12 H6 o6
  rw [eM] at o6
  have o6 := o5.call o6
  have hv12 := (o6.rd2 2 rfl).one
  have g3' := o6.old sc2 _ _ g3
  refine Holds.mp ?_
  try simp (disch := first | omega | (simp only [L3] <;> omega)) only [Sall,evalOp,init,binA_s,binE,binI,unE,convE,okNil,builtE,gv,TD.isAgg,resV,↓reduceIte,Nat.reduceEqDiff,reduceCtorEq,Nat.reduceAdd,Nat.reduceMul,Nat.reduceLeDiff,quietOp,blindOp,Int.reduceEq,Int.reduceLT,Int.reduceLE,Nat.reduceLT,tiA,tiXA, hv12, bne_self_eq_false]
  refine (rows9G_c v10 v12 M H6 (by omega) (fun j hj => by have := k2.2 j hj; omega) (o6.rd2 1 rfl) (o6.rd2 2 rfl)).to ?_
  refine Holds.mp ?_
  try simp (disch := first | omega | (simp only [L3] <;> omega)) only [Sall,evalOp,init,binA_s,binE,binI,unE,convE,okNil,builtE,gv,TD.isAgg,resV,↓reduceIte,Nat.reduceEqDiff,reduceCtorEq,Nat.reduceAdd,Nat.reduceMul,Nat.reduceLeDiff,quietOp,blindOp,Int.reduceEq,Int.reduceLT,Int.reduceLE,Nat.reduceLT,tiA,tiXA, g3', hx, Bool.not_true]
  have o6 := o6.pick2 0 1 rfl rfl (by omega)
  refine ACalls.ex (g := fun u => .tuple #[u, .int .i64 (glC q g R (decide (0 ≤ a ∧ a ≤ q - 1)))]) (NotMet_c q g x R a H6 (by omega) (rx.same (o6.old sc2)) hl1 hl2) ?_
  rintro v14 H7 o7
  rw [eN] at o7
  have o7 := o6.call o7
  have hv14 := o7.one 2 rfl
  have g3' := o7.old sc2 _ _ g3
  refine Holds.mp ?_
  try simp (disch := first | omega | (simp only [L3] <;> omega)) only [Sall,evalOp,init,binA_s,binE,binI,unE,convE,okNil,builtE,gv,TD.isAgg,resV,↓reduceIte,Nat.reduceEqDiff,reduceCtorEq,Nat.reduceAdd,Nat.reduceMul,Nat.reduceLeDiff,quietOp,blindOp,Int.reduceEq,Int.reduceLT,Int.reduceLE,Nat.reduceLT,tiA,tiXA, hv14, g3', hx]
  refine ACalls.ex (g := fun u => .tuple #[u, .int .i64 (glC q g R (decide (0 ≤ a ∧ a ≤ q - 1)))]) (specNotMet_c q g x R a H7 (by omega) (rx.same (o7.old sc2)).rd2 hl1 hl2) ?_
  rintro v16 H8 o8
  rw [eN] at o8
  have o8 := o7.call o8
  have hv16 := o8.one 3 rfl
  have g3' := o8.old sc2 _ _ g3
  refine Holds.mp ?_
  try simp (disch := first | omega | (simp only [L3] <;> omega)) only [Sall,evalOp,init,binA_s,binE,binI,unE,convE,okNil,builtE,gv,TD.isAgg,resV,↓reduceIte,Nat.reduceEqDiff,reduceCtorEq,Nat.reduceAdd,Nat.reduceMul,Nat.reduceLeDiff,quietOp,blindOp,Int.reduceEq,Int.reduceLT,Int.reduceLE,Nat.reduceLT,tiA,tiXA, hv16, bne_self_eq_false]
  refine (likeInts_c v14 v16 _ N H8 (by omega) (o8.rd 2 rfl) (o8.rd 3 rfl)).to ?_
  refine Holds.mp ?_
  try simp (disch := first | omega | (simp only [L3] <;> omega)) only [Sall,evalOp,init,binA_s,binE,binI,unE,convE,okNil,builtE,gv,TD.isAgg,resV,↓reduceIte,Nat.reduceEqDiff,reduceCtorEq,Nat.reduceAdd,Nat.reduceMul,Nat.reduceLeDiff,quietOp,blindOp,Int.reduceEq,Int.reduceLT,Int.reduceLE,Nat.reduceLT,tiA,tiXA, g3', hx, Bool.not_true]
  have o8 := o8.pick3 0 1 2 rfl rfl rfl (by omega) (by omega) (by omega)
  refine ACalls.ex (g := fun u => .tuple #[u, .int .i64 (glC q g R (decide (0 ≤ i ∧ i ≤ (R.length : Int) - 1)))]) (TidyRound_c q g x R i H8 (rx.same (o8.old sc2)) hl1 hl2) ?_
  rintro v18 H9 o9
  rw [eT] at o9
  have o9 := o8.call o9
  have hv18 := o9.one 3 rfl
  have g3' := o9.old sc2 _ _ g3
  refine Holds.mp ?_
  try simp (disch := first | omega | (simp only [L3] <;> omega)) only [Sall,evalOp,init,binA_s,binE,binI,unE,convE,okNil,builtE,gv,TD.isAgg,resV,↓reduceIte,Nat.reduceEqDiff,reduceCtorEq,Nat.reduceAdd,Nat.reduceMul,Nat.reduceLeDiff,quietOp,blindOp,Int.reduceEq,Int.reduceLT,Int.reduceLE,Nat.reduceLT,tiA,tiXA, hv18, g3', hx]
  refine ACalls.ex (g := fun u => .tuple #[u, .int .i64 (glC q g R (decide (0 ≤ i ∧ i ≤ (R.length : Int) - 1)))]) (specTidyRound_c q g x R i H9 (rx.same (o9.old sc2)) hl1 hl2) ?_
  rintro v20 Hz oz
  rw [eT] at oz
  have oz := o9.call oz
  have hv20 := oz.one 4 rfl
  have g3z := oz.old sc2 _ _ g3
  refine Holds.mp ?_
  try simp (disch := first | omega | (simp only [L3] <;> omega)) only [Sall,evalOp,init,binA_s,binE,binI,unE,convE,okNil,builtE,gv,TD.isAgg,resV,↓reduceIte,Nat.reduceEqDiff,reduceCtorEq,Nat.reduceAdd,Nat.reduceMul,Nat.reduceLeDiff,quietOp,blindOp,Int.reduceEq,Int.reduceLT,Int.reduceLE,Nat.reduceLT,tiA,tiXA, hv20, bne_self_eq_false]
  refine (likeInts_c v18 v20 _ T' Hz (by omega) (oz.rd 3 rfl) (oz.rd 4 rfl)).to ?_
  have r6 := oz.rd 0 rfl
  have r10 := oz.rd2 1 rfl
  have r14 := oz.rd 2 rfl
  have r18 := oz.rd 3 rfl
  have rxz := rx.same (oz.old sc2)
  clear oz o9 o8 o7 o6 o5 o4 o3 g3' rx g3
  refine Holds.mp ?_
  try simp (disch := first | omega | (simp only [L3] <;> omega)) only [Sall,evalOp,init,binA_s,binE,binI,unE,convE,okNil,builtE,gv,TD.isAgg,resV,↓reduceIte,Nat.reduceEqDiff,reduceCtorEq,Nat.reduceAdd,Nat.reduceMul,Nat.reduceLeDiff,quietOp,blindOp,Int.reduceEq,Int.reduceLT,Int.reduceLE,Nat.reduceLT,tiA,tiXA, g3z, hx, Bool.not_true]
  refine draw_in [0, 2, 1, 3, 4] (by kernel_rfl) (by kernel_rfl) rfl ?_
  try simp (disch := first | omega | (simp only [L3] <;> omega)) only [Sall,evalOp,init,binA_s,binE,binI,unE,convE,okNil,builtE,gv,TD.isAgg,resV,↓reduceIte,Nat.reduceEqDiff,reduceCtorEq,Nat.reduceAdd,Nat.reduceMul,Nat.reduceLeDiff,quietOp,blindOp,Int.reduceEq,Int.reduceLT,Int.reduceLE,Nat.reduceLT,tiA,tiXA, awpI_nil, awpI_cons, stepI_op, loadOk, g3z, hx]
  refine (IsGolf_c q g x R Hz rxz.rd2 hl1 hl2).to ?_
  refine ⟨.inr (.inr (LE.refl _)), ?_⟩
  try simp (disch := first | omega | (simp only [L3] <;> omega)) only [Sall,evalOp,init,binA_s,binE,binI,unE,convE,okNil,builtE,gv,TD.isAgg,resV,↓reduceIte,Nat.reduceEqDiff,reduceCtorEq,Nat.reduceAdd,Nat.reduceMul,Nat.reduceLeDiff,quietOp,blindOp,Int.reduceEq,Int.reduceLT,Int.reduceLE,Nat.reduceLT,tiA,tiXA, awpI_nil, awpI_cons, stepI_op, loadOk, g3z, hx]
  refine (specIsGolf_c q g x R Hz rxz.rd2 hl1 hl2).to ?_
  refine ⟨.inr (.inr (LE.refl _)), ?_⟩
  try simp (disch := first | omega | (simp only [L3] <;> omega)) only [Sall,evalOp,init,binA_s,binE,binI,unE,convE,okNil,builtE,gv,TD.isAgg,resV,↓reduceIte,Nat.reduceEqDiff,reduceCtorEq,Nat.reduceAdd,Nat.reduceMul,Nat.reduceLeDiff,quietOp,blindOp,Int.reduceEq,Int.reduceLT,Int.reduceLE,Nat.reduceLT,tiA,tiXA, awpI_nil, awpI_cons, stepI_op, loadOk, bne_self_eq_false]
  have eb : (!(golfB q g R == golfB q g R)) = false := by simp
  rw [eb]
  try simp (disch := first | omega | (simp only [L3] <;> omega)) only [Sall,evalOp,init,binA_s,binE,binI,unE,convE,okNil,builtE,gv,TD.isAgg,resV,↓reduceIte,Nat.reduceEqDiff,reduceCtorEq,Nat.reduceAdd,Nat.reduceMul,Nat.reduceLeDiff,quietOp,blindOp,Int.reduceEq,Int.reduceLT,Int.reduceLE,Nat.reduceLT,tiA,tiXA, true_and]
  refine Holds.mp ?_
  by_cases hgB : golfB q g R = true
  rotate_left
  · have c1 : ∀ b, glC q g R b = 1 := fun b => by unfold glC; rw [if_neg hgB]
    have e0 : ((1 : Int) != 0) = true := rfl
    have eM0 : M = [] := by rw [← eM]; unfold gmV; rw [if_neg hgB]
    have lM := r10.len
    rw [eM0] at lM
    try simp (disch := first | omega | (simp only [L3] <;> omega)) only [Sall,evalOp,init,binA_s,binE,binI,unE,convE,okNil,builtE,gv,TD.isAgg,resV,↓reduceIte,Nat.reduceEqDiff,reduceCtorEq,Nat.reduceAdd,Nat.reduceMul,Nat.reduceLeDiff,quietOp,blindOp,Int.reduceEq,Int.reduceLT,Int.reduceLE,Nat.reduceLT,tiA,tiXA, c1, e0, lM, builtE, bne_self_eq_false, beq_self_eq_true, List.length_nil, Int.natCast_zero]
  obtain ⟨n, gN, cN, rfl, rfl, q0, q1, q2, q3, q4, q5, q6, q7⟩ := golfB_at hgB
  have c1 : ∀ b, glC n gN R b = if b = true then 0 else 2 := fun b => by unfold glC; rw [if_pos hgB]
  have eM1 : M = gmM n gN R := by rw [← eM]; unfold gmV; rw [if_pos hgB, Int.toNat_natCast, Int.toNat_natCast]
  have fM : ∀ a, a < n → _ := fun a ha => gmM_facts q1 q0 q4 q6 q7 (a := a) ha
  rw [← eM1] at fM
  have hML : M.length = n := by rw [eM1]; exact (gmM_sq n gN R).1
  have lM := r10.len
  rw [hML] at lM
  have cc : glC n gN R true = 0 := by rw [c1, if_pos rfl]
  have b00 : ((0 : Int) != 0) = false := rfl
  rw [cc]
  try simp (disch := first | omega | (simp only [L3] <;> omega)) only [Sall,evalOp,init,binA_s,binE,binI,unE,convE,okNil,builtE,gv,TD.isAgg,resV,↓reduceIte,Nat.reduceEqDiff,reduceCtorEq,Nat.reduceAdd,Nat.reduceMul,Nat.reduceLeDiff,quietOp,blindOp,Int.reduceEq,Int.reduceLT,Int.reduceLE,Nat.reduceLT,tiA,tiXA, b00]
  generalize e7 : glC n gN R (decide (0 ≤ i ∧ i ≤ (R.length : Int) - 1) && decide (0 ≤ a ∧ a ≤ (n : Int) - 1)) = c7
  generalize e15 : glC n gN R (decide (0 ≤ a ∧ a ≤ (n : Int) - 1)) = c15
  generalize e19 : glC n gN R (decide (0 ≤ i ∧ i ≤ (R.length : Int) - 1)) = c19
  have lR := rxz.len
  refine awp_loop (fun m t H' => H' = Hz ∧ ∃ b : Nat, m = n - b ∧ b ≤ n ∧ t 22 = .int .i64 b ∧ t 3 = .pointer (some ⟨ei, 0, none⟩) ∧ t 5 = .int .i64 a ∧ t 6 = v6 ∧ t 7 = .int .i64 c7 ∧ t 10 = v10 ∧ t 14 = v14 ∧ t 15 = .int .i64 c15 ∧ t 18 = v18 ∧ t 19 = .int .i64 c19) n ?_ ?_
  · refine ⟨rfl, 0, by omega, by omega, ?_⟩
    try simp (disch := first | omega | (simp only [L3] <;> omega)) only [Sall,evalOp,init,binA_s,binE,binI,unE,convE,okNil,builtE,gv,TD.isAgg,resV,↓reduceIte,Nat.reduceEqDiff,reduceCtorEq,Nat.reduceAdd,Nat.reduceMul,Nat.reduceLeDiff,quietOp,blindOp,Int.reduceEq,Int.reduceLT,Int.reduceLE,Nat.reduceLT,tiA,tiXA, Int.natCast_zero]
  · rintro m t H' ⟨rfl, b, hm, hb, h22, h3, h5, h6, h7, h10, h14, h15, h18, h19⟩
    try simp (disch := first | omega | (simp only [L3] <;> omega)) only [Sall,evalOp,init,binA_s,binE,binI,unE,convE,okNil,builtE,gv,TD.isAgg,resV,↓reduceIte,Nat.reduceEqDiff,reduceCtorEq,Nat.reduceAdd,Nat.reduceMul,Nat.reduceLeDiff,quietOp,blindOp,Int.reduceEq,Int.reduceLT,Int.reduceLE,Nat.reduceLT,tiA,tiXA, h22, h10, lM, builtE]
    refine condC_dec (fun hh => ?_) (fun hh => ?_)
    · have hbn : b < n := by omega
      obtain ⟨f1, f2, f3, f4, f5⟩ := fM b hbn
      obtain ⟨xi, xo, xuu, xc, xr, yv, my, ex, hxr, hyv, hsx, hok⟩ := r10.get (j := b) (by omega)
      have hmy := hsx.lenK1
      rw [f3] at hmy
      have hmy := hmy.symm
      subst hmy
      obtain ⟨zi, zo, zu, zc, zr, ez, z1, z2, z3, _⟩ := hsx.get (by omega)
      have z4 := z3 b (by omega)
      rw [f2] at z4
      subst ex
      subst ez
      try simp (disch := first | omega | (simp only [L3] <;> omega)) only [Sall,evalOp,init,binA_s,binE,binI,unE,convE,okNil,builtE,gv,TD.isAgg,resV,↓reduceIte,Nat.reduceEqDiff,reduceCtorEq,Nat.reduceAdd,Nat.reduceMul,Nat.reduceLeDiff,quietOp,blindOp,Int.reduceEq,Int.reduceLT,Int.reduceLE,Nat.reduceLT,tiA,tiXA, true_and]
      refine draw_in [0, 1, 2, 3, 5, 6, 7, 8, 9, 10, 11, 4, 12, 13, 14, 15, 16, 17, 18, 19, 20, 21, 22] (by kernel_rfl) (by kernel_rfl) rfl ?_
      try simp (disch := first | omega | (simp only [L3] <;> omega)) only [Sall,evalOp,init,binA_s,binE,binI,unE,convE,okNil,builtE,gv,TD.isAgg,resV,↓reduceIte,Nat.reduceEqDiff,reduceCtorEq,Nat.reduceAdd,Nat.reduceMul,Nat.reduceLeDiff,quietOp,blindOp,Int.reduceEq,Int.reduceLT,Int.reduceLE,Nat.reduceLT,tiA,tiXA, awpI_nil, awpI_cons, stepI_op, loadOk, h22, h10, h3, hxr, hyv, hok, g3z, hx, lR, builtE, w64]
      refine ⟨⟨by omega, by omega⟩, (sum_c _ n (M.getD b []) H' (by omega) hsx f4).to ?_⟩
      rw [f1]
      obtain ⟨p, ep⟩ : ∃ p, p = R.length * (gN - 1) := ⟨_, rfl⟩
      have hp : p ≤ 12 * 25 := by rw [ep]; exact Nat.mul_le_mul q6 (by omega)
      have epi : ((gN : Int) - 1) * (R.length : Int) = (p : Int) := by
        rw [show (gN : Int) - 1 = ((gN - 1 : Nat) : Int) by omega, ← Int.natCast_mul, Nat.mul_comm, ep]
      rw [← ep]
      refine ⟨.inr (.inr (LE.refl _)), ?_⟩
      have hgl : (gN : Int) ≤ 25 := by omega
      have bpp : ((p : Int) != (p : Int)) = false := bne_self_eq_false _
      try simp (disch := first | omega | (simp only [L3] <;> omega)) only [Sall,evalOp,init,binA_s,binE,binI,unE,convE,okNil,builtE,gv,TD.isAgg,resV,↓reduceIte,Nat.reduceEqDiff,reduceCtorEq,Nat.reduceAdd,Nat.reduceMul,Nat.reduceLeDiff,quietOp,blindOp,Int.reduceEq,Int.reduceLT,Int.reduceLE,Nat.reduceLT,tiA,tiXA, awpI_nil, awpI_cons, stepI_op, loadOk, h22, h10, h3, hxr, hyv, hok, g3z, hx, lR, builtE, epi, bpp, z1, z4, w64]
      refine ⟨⟨by omega, by omega⟩, ⟨by omega, by omega⟩, ?_⟩
      try simp (disch := first | omega | (simp only [L3] <;> omega)) only [Sall,evalOp,init,binA_s,binE,binI,unE,convE,okNil,builtE,gv,TD.isAgg,resV,↓reduceIte,Nat.reduceEqDiff,reduceCtorEq,Nat.reduceAdd,Nat.reduceMul,Nat.reduceLeDiff,quietOp,blindOp,Int.reduceEq,Int.reduceLT,Int.reduceLE,Nat.reduceLT,tiA,tiXA, b00]
      refine awp_loop (fun m' t H'' => H'' = H' ∧ ∃ d : Nat, m' = b - d ∧ d ≤ b ∧ t 23 = .int .i64 d ∧ t 22 = .int .i64 b ∧ t 3 = .pointer (some ⟨ei, 0, none⟩) ∧ t 5 = .int .i64 a ∧ t 6 = v6 ∧ t 7 = .int .i64 c7 ∧ t 10 = .slice (some ⟨xi, xo, xuu⟩) M.length xc ∧ t 14 = v14 ∧ t 15 = .int .i64 c15 ∧ t 18 = v18 ∧ t 19 = .int .i64 c19) b ?_ ?_
      · refine ⟨rfl, 0, by omega, by omega, ?_⟩
        try simp (disch := first | omega | (simp only [L3] <;> omega)) only [Sall,evalOp,init,binA_s,binE,binI,unE,convE,okNil,builtE,gv,TD.isAgg,resV,↓reduceIte,Nat.reduceEqDiff,reduceCtorEq,Nat.reduceAdd,Nat.reduceMul,Nat.reduceLeDiff,quietOp,blindOp,Int.reduceEq,Int.reduceLT,Int.reduceLE,Nat.reduceLT,tiA,tiXA, Int.natCast_zero, h22, h3, h5, h6, h7, h10, h15, h19]
        exact ⟨h14, h18⟩
      · rintro m' t H'' ⟨rfl, d, hm', hd, h23, h22, h3, h5, h6, h7, h10, h14, h15, h18, h19⟩
        try simp (disch := first | omega | (simp only [L3] <;> omega)) only [Sall,evalOp,init,binA_s,binE,binI,unE,convE,okNil,builtE,gv,TD.isAgg,resV,↓reduceIte,Nat.reduceEqDiff,reduceCtorEq,Nat.reduceAdd,Nat.reduceMul,Nat.reduceLeDiff,quietOp,blindOp,Int.reduceEq,Int.reduceLT,Int.reduceLE,Nat.reduceLT,tiA,tiXA, h23, h22]
        refine condC_dec (fun hh2 => ?_) (fun hh2 => ?_)
        · obtain ⟨_, _, fd3, _, _⟩ := fM d (by omega)
          have hbd := f5 d (by omega)
          obtain ⟨yi, yo, yuu, yc, yr, yv, my, ey, hyr, hyv2, hsy, hoky⟩ := r10.get (j := d) (by omega)
          cases ey
          rw [hxr] at hyr
          cases hyr
          have hmy := hsy.lenK1
          rw [fd3] at hmy
          have hmy := hmy.symm
          subst hmy
          obtain ⟨wi, wo, wu, wc, wr, ew, w1, w2, w3, _⟩ := hsy.get (by omega)
          have w4 := w3 b (by omega)
          have z5 := z3 d (by omega)
          rw [← hbd] at w4
          subst ew
          have bqq : ((M.getD b []).getD d 0 != (M.getD b []).getD d 0) = false := bne_self_eq_false _
          try simp (disch := first | omega | (simp only [L3] <;> omega)) only [Sall,evalOp,init,binA_s,binE,binI,unE,convE,okNil,builtE,gv,TD.isAgg,resV,↓reduceIte,Nat.reduceEqDiff,reduceCtorEq,Nat.reduceAdd,Nat.reduceMul,Nat.reduceLeDiff,quietOp,blindOp,Int.reduceEq,Int.reduceLT,Int.reduceLE,Nat.reduceLT,tiA,tiXA, h23, h22, h10]
          refine draw_id (by kernel_rfl) (by kernel_rfl) ?_
          try simp (disch := first | omega | (simp only [L3] <;> omega)) only [Sall,evalOp,init,binA_s,binE,binI,unE,convE,okNil,builtE,gv,TD.isAgg,resV,↓reduceIte,Nat.reduceEqDiff,reduceCtorEq,Nat.reduceAdd,Nat.reduceMul,Nat.reduceLeDiff,quietOp,blindOp,Int.reduceEq,Int.reduceLT,Int.reduceLE,Nat.reduceLT,tiA,tiXA, h23, h22, h10, hxr, hyv, hok, hyv2, hoky, z1, z5, w1, w4, bqq]
          refine ⟨⟨by omega, by omega⟩, ⟨by omega, by omega⟩, ⟨by omega, by omega⟩, ⟨by omega, by omega⟩, ?_⟩
          have wd1 : IntKind.i64.wrap ((d : Int) + 1) = ((d + 1 : Nat) : Int) := w64 ⟨by omega, by omega⟩
          exact ⟨b - (d + 1), by omega, d + 1, rfl, by omega, wd1, h3, h5, h6, h7, h14, h15, h18, h19⟩
        · try simp (disch := first | omega | (simp only [L3] <;> omega)) only [Sall,evalOp,init,binA_s,binE,binI,unE,convE,okNil,builtE,gv,TD.isAgg,resV,↓reduceIte,Nat.reduceEqDiff,reduceCtorEq,Nat.reduceAdd,Nat.reduceMul,Nat.reduceLeDiff,quietOp,blindOp,Int.reduceEq,Int.reduceLT,Int.reduceLE,Nat.reduceLT,tiA,tiXA, h22, w64]
          refine ⟨n - (b + 1), by omega, b + 1, rfl, by omega, by omega, ?_⟩
          try simp (disch := first | omega | (simp only [L3] <;> omega)) only [Sall,evalOp,init,binA_s,binE,binI,unE,convE,okNil,builtE,gv,TD.isAgg,resV,↓reduceIte,Nat.reduceEqDiff,reduceCtorEq,Nat.reduceAdd,Nat.reduceMul,Nat.reduceLeDiff,quietOp,blindOp,Int.reduceEq,Int.reduceLT,Int.reduceLE,Nat.reduceLT,tiA,tiXA, h3, h5, h6, h7, h10, h14, h15, h18, h19]
    · clear h22 hm hb hh
      try simp (disch := first | omega | (simp only [L3] <;> omega)) only [Sall,evalOp,init,binA_s,binE,binI,unE,convE,okNil,builtE,gv,TD.isAgg,resV,↓reduceIte,Nat.reduceEqDiff,reduceCtorEq,Nat.reduceAdd,Nat.reduceMul,Nat.reduceLeDiff,quietOp,blindOp,Int.reduceEq,Int.reduceLT,Int.reduceLE,Nat.reduceLT,tiA,tiXA, h3, h5, h6, h7, h10, h14, h15, h18, h19]
      refine condC_cut (fun t H'' => H'' = H' ∧ t 3 = .pointer (some ⟨ei, 0, none⟩) ∧ t 5 = .int .i64 a ∧ t 6 = v6 ∧ t 7 = .int .i64 c7 ∧ t 10 = v10 ∧ t 14 = v14 ∧ t 15 = .int .i64 c15 ∧ t 18 = v18 ∧ t 19 = .int .i64 c19) (fun hb0 => ?_) (fun hb0 => ?_) ?_
      · exact ⟨rfl, h3, h5, h6, h7, h10, h14, h15, h18, h19⟩
      · have h150 : c15 = 0 := by simpa using hb0
        have hda : 0 ≤ a ∧ a ≤ (n : Int) - 1 := by
          rw [h150] at e15
          exact of_decide_eq_true (glC_yes e15).2
        obtain ⟨aN, rfl⟩ : ∃ aN : Nat, a = aN := ⟨a.toNat, by omega⟩
        have haN : aN < n := by omega
        have eN1 : N = nmL M aN n := by rw [← eN, eM1]; unfold nmV; rw [if_pos ⟨hgB, hda⟩, Int.toNat_natCast, Int.toNat_natCast, Int.toNat_natCast]
        try simp (disch := first | omega | (simp only [L3] <;> omega)) only [Sall,evalOp,init,binA_s,binE,binI,unE,convE,okNil,builtE,gv,TD.isAgg,resV,↓reduceIte,Nat.reduceEqDiff,reduceCtorEq,Nat.reduceAdd,Nat.reduceMul,Nat.reduceLeDiff,quietOp,blindOp,Int.reduceEq,Int.reduceLT,Int.reduceLE,Nat.reduceLT,tiA,tiXA, h3, h5, h6, h7, h10, h14, h15, h18, h19]
        refine awp_loop (fun m t H'' => H'' = H' ∧ ∃ d : Nat, m = n - d ∧ d ≤ n ∧ t 24 = .int .i64 d ∧ t 3 = .pointer (some ⟨ei, 0, none⟩) ∧ t 5 = .int .i64 aN ∧ t 6 = v6 ∧ t 7 = .int .i64 c7 ∧ t 10 = v10 ∧ t 14 = v14 ∧ t 15 = .int .i64 c15 ∧ t 18 = v18 ∧ t 19 = .int .i64 c19) n ?_ ?_
        · refine ⟨rfl, 0, by omega, by omega, ?_⟩
          try simp (disch := first | omega | (simp only [L3] <;> omega)) only [Sall,evalOp,init,binA_s,binE,binI,unE,convE,okNil,builtE,gv,TD.isAgg,resV,↓reduceIte,Nat.reduceEqDiff,reduceCtorEq,Nat.reduceAdd,Nat.reduceMul,Nat.reduceLeDiff,quietOp,blindOp,Int.reduceEq,Int.reduceLT,Int.reduceLE,Nat.reduceLT,tiA,tiXA, Int.natCast_zero]
          exact ⟨h3, h5, h6, h7, h10, h14, h15, h18, h19⟩
        · rintro m t H'' ⟨rfl, d, hm, hd, h24, h3, h5, h6, h7, h10, h14, h15, h18, h19⟩
          try simp (disch := first | omega | (simp only [L3] <;> omega)) only [Sall,evalOp,init,binA_s,binE,binI,unE,convE,okNil,builtE,gv,TD.isAgg,resV,↓reduceIte,Nat.reduceEqDiff,reduceCtorEq,Nat.reduceAdd,Nat.reduceMul,Nat.reduceLeDiff,quietOp,blindOp,Int.reduceEq,Int.reduceLT,Int.reduceLE,Nat.reduceLT,tiA,tiXA, h24, h3, g3z]
          refine condC_dec (fun hh => ?_) (fun hh => ?_)
          · try simp (disch := first | omega | (simp only [L3] <;> omega)) only [Sall,evalOp,init,binA_s,binE,binI,unE,convE,okNil,builtE,gv,TD.isAgg,resV,↓reduceIte,Nat.reduceEqDiff,reduceCtorEq,Nat.reduceAdd,Nat.reduceMul,Nat.reduceLeDiff,quietOp,blindOp,Int.reduceEq,Int.reduceLT,Int.reduceLE,Nat.reduceLT,tiA,tiXA, h24, h14, h5]
            have hdn : d < n := by omega
            have hmem : ((d : Int) ∈ N) ↔ d ≠ aN ∧ (M.getD aN []).getD d 0 = 0 := by
              rw [eN1, mem_nmL]
              constructor
              · rintro ⟨y, z1, z2, z3, z4⟩
                obtain rfl : y = d := by omega
                exact ⟨z3, z4⟩
              · rintro ⟨z3, z4⟩
                exact ⟨d, hdn, rfl, z3, z4⟩
            refine (hasInt_c v14 (d : Int) _ N H'' (by omega) r14).to ?_
            refine Holds.mp ?_
            have wd1 : IntKind.i64.wrap ((d : Int) + 1) = ((d + 1 : Nat) : Int) := w64 ⟨by omega, by omega⟩
            by_cases hda2 : d = aN
            · have em : decide ((d : Int) ∈ N) = false := decide_eq_false fun h => (hmem.1 h).1 hda2
              have ed : ((d : Int) != (aN : Int)) = false := by rw [hda2]; exact bne_self_eq_false _
              have ebf : (!((false : Bool) == false)) = false := rfl
              try simp (disch := first | omega | (simp only [L3] <;> omega)) only [Sall,evalOp,init,binA_s,binE,binI,unE,convE,okNil,builtE,gv,TD.isAgg,resV,↓reduceIte,Nat.reduceEqDiff,reduceCtorEq,Nat.reduceAdd,Nat.reduceMul,Nat.reduceLeDiff,quietOp,blindOp,Int.reduceEq,Int.reduceLT,Int.reduceLE,Nat.reduceLT,tiA,tiXA, em, ed, h24, h5, ebf]
              exact ⟨n - (d + 1), by omega, d + 1, rfl, by omega, wd1, h3, h6, h7, h10, h14, h15, h18, h19⟩
            · have ed : ((d : Int) != (aN : Int)) = true := bne_iff_ne.2 (by omega)
              obtain ⟨_, _, fd3, _, _⟩ := fM aN haN
              obtain ⟨yi, yo, yuu, yc, yr, yv, my, ey, hyr, hyv2, hsy, hoky⟩ := r10.get (j := aN) (by omega)
              have hmy := hsy.lenK1
              rw [fd3] at hmy
              have hmy := hmy.symm
              subst hmy
              obtain ⟨wi, wo, wu, wc, wr, ew, w1, w2, w3, _⟩ := hsy.get (by omega)
              have w4 := w3 d (by omega)
              subst ew
              subst ey
              have em : decide ((d : Int) ∈ N) = ((M.getD aN []).getD d 0 == 0) := by
                by_cases h0 : (M.getD aN []).getD d 0 = 0
                · rw [decide_eq_true (hmem.2 ⟨hda2, h0⟩), h0]; rfl
                · rw [decide_eq_false (fun h => h0 (hmem.1 h).2), beq_eq_false_iff_ne.2 h0]
              have ebb : (!(((M.getD aN []).getD d 0 == 0) == ((M.getD aN []).getD d 0 == 0))) = false := by simp
              try simp (disch := first | omega | (simp only [L3] <;> omega)) only [Sall,evalOp,init,binA_s,binE,binI,unE,convE,okNil,builtE,gv,TD.isAgg,resV,↓reduceIte,Nat.reduceEqDiff,reduceCtorEq,Nat.reduceAdd,Nat.reduceMul,Nat.reduceLeDiff,quietOp,blindOp,Int.reduceEq,Int.reduceLT,Int.reduceLE,Nat.reduceLT,tiA,tiXA, em, ed, h24, h10, h5, hyr, hyv2, hoky, w1, w4, ebb]
              refine ⟨⟨by omega, by omega⟩, ⟨by omega, by omega⟩, ?_⟩
              exact ⟨n - (d + 1), by omega, d + 1, rfl, by omega, wd1, h3, h6, h7, h14, h15, h18, h19⟩
          · try simp (disch := first | omega | (simp only [L3] <;> omega)) only [Sall,evalOp,init,binA_s,binE,binI,unE,convE,okNil,builtE,gv,TD.isAgg,resV,↓reduceIte,Nat.reduceEqDiff,reduceCtorEq,Nat.reduceAdd,Nat.reduceMul,Nat.reduceLeDiff,quietOp,blindOp,Int.reduceEq,Int.reduceLT,Int.reduceLE,Nat.reduceLT,tiA,tiXA, true_and]
            exact ⟨h3, h5, h6, h7, h10, h14, h15, h18, h19⟩
      · rintro t H'' ⟨rfl, h3, h5, h6, h7, h10, h14, h15, h18, h19⟩
        clear lM rxz lR
        by_cases h70 : c7 = 0
        rotate_left
        · have b7 : (c7 != 0) = true := bne_iff_ne.2 h70
          have hG0 : G = [] := by
            rw [← eG]
            unfold goV
            rw [if_neg]
            rintro ⟨_, h1, h2⟩
            apply h70
            rw [← e7, c1, if_pos (by rw [decide_eq_true h1, decide_eq_true h2]; rfl)]
          have lG := r6.len
          rw [hG0] at lG
          try simp (disch := first | omega | (simp only [L3] <;> omega)) only [Sall,evalOp,init,binA_s,binE,binI,unE,convE,okNil,builtE,gv,TD.isAgg,resV,↓reduceIte,Nat.reduceEqDiff,reduceCtorEq,Nat.reduceAdd,Nat.reduceMul,Nat.reduceLeDiff,quietOp,blindOp,Int.reduceEq,Int.reduceLT,Int.reduceLE,Nat.reduceLT,tiA,tiXA, h7, b7, h6, lG, builtE, List.length_nil, Int.natCast_zero, beq_self_eq_true]
        have b7 : (c7 != 0) = false := by rw [h70]; rfl
        rw [h70] at e7
        have hdd := (glC_yes e7).2
        rw [Bool.and_eq_true, decide_eq_true_iff, decide_eq_true_iff] at hdd
        obtain ⟨hdi, hda⟩ := hdd
        obtain ⟨aN, rfl⟩ : ∃ aN : Nat, a = aN := ⟨a.toNat, by omega⟩
        obtain ⟨iN, rfl⟩ : ∃ iN : Nat, i = iN := ⟨i.toNat, by omega⟩
        have haN : aN < n := by omega
        have hiN : iN < R.length := by omega
        have ho := q7 iN hiN
        have eN1 : N = nmL M aN n := by rw [← eN, eM1]; unfold nmV; rw [if_pos ⟨hgB, hda⟩, Int.toNat_natCast, Int.toNat_natCast, Int.toNat_natCast]
        have eG1 : G = grpL gN (R.getD iN []) aN := by rw [← eG]; unfold goV; rw [if_pos ⟨hgB, hdi, hda⟩, Int.toNat_natCast, Int.toNat_natCast]
        have eT1 : T' = tidF gN (R.getD iN []) n := by rw [← eT]; unfold tidV; rw [if_pos ⟨hgB, hdi⟩, Int.toNat_natCast, Int.toNat_natCast, Int.toNat_natCast]
        have h190 : c19 = 0 := by rw [← e19, c1, if_pos (decide_eq_true hdi)]
        obtain ⟨tt, ht1, ht2, ht3⟩ := grp_own (by omega) q0 ho (a := (aN : Int)) (by omega)
        have lG : G.length = gN := by rw [eG1, ht2]; exact blk_len q0 ho ht1
        have lT : T'.length = n := by rw [eT1]; exact tid_len (by omega) q0 ho
        rw [← eG1] at ht3
        have l6 := r6.len
        have l18 := r18.len
        rw [lG] at l6
        rw [lT] at l18
        have bg : ((gN : Int) != (gN : Int)) = false := bne_self_eq_false _
        have bn : ((n : Int) != (n : Int)) = false := bne_self_eq_false _
        have b19 : (c19 != 0) = false := by rw [h190]; rfl
        have hin : decide ((aN : Int) ∈ G) = true := decide_eq_true ht3
        try simp (disch := first | omega | (simp only [L3] <;> omega)) only [Sall,evalOp,init,binA_s,binE,binI,unE,convE,okNil,builtE,gv,TD.isAgg,resV,↓reduceIte,Nat.reduceEqDiff,reduceCtorEq,Nat.reduceAdd,Nat.reduceMul,Nat.reduceLeDiff,quietOp,blindOp,Int.reduceEq,Int.reduceLT,Int.reduceLE,Nat.reduceLT,tiA,tiXA, h7, b7, h6, h3, g3z, h5, l6, builtE, bg]
        refine (hasInt_c v6 (aN : Int) _ G H'' (by omega) r6).to ?_
        refine Holds.mp ?_
        try simp (disch := first | omega | (simp only [L3] <;> omega)) only [Sall,evalOp,init,binA_s,binE,binI,unE,convE,okNil,builtE,gv,TD.isAgg,resV,↓reduceIte,Nat.reduceEqDiff,reduceCtorEq,Nat.reduceAdd,Nat.reduceMul,Nat.reduceLeDiff,quietOp,blindOp,Int.reduceEq,Int.reduceLT,Int.reduceLE,Nat.reduceLT,tiA,tiXA, hin, Bool.not_true, h19, b19, h18, l18, h3, g3z, bn, builtE]
        refine awp_loop (fun m t H3 => H3 = H'' ∧ ∃ d : Nat, m = gN - d ∧ d ≤ gN ∧ t 25 = .int .i64 d ∧ t 6 = v6 ∧ t 14 = v14) gN ?_ ?_
        · refine ⟨rfl, 0, by omega, by omega, ?_⟩
          try simp (disch := first | omega | (simp only [L3] <;> omega)) only [Sall,evalOp,init,binA_s,binE,binI,unE,convE,okNil,builtE,gv,TD.isAgg,resV,↓reduceIte,Nat.reduceEqDiff,reduceCtorEq,Nat.reduceAdd,Nat.reduceMul,Nat.reduceLeDiff,quietOp,blindOp,Int.reduceEq,Int.reduceLT,Int.reduceLE,Nat.reduceLT,tiA,tiXA, Int.natCast_zero, h6, h14]
        · rintro m t H3 ⟨rfl, d, hm, hd, h25, h6, h14⟩
          try simp (disch := first | omega | (simp only [L3] <;> omega)) only [Sall,evalOp,init,binA_s,binE,binI,unE,convE,okNil,builtE,gv,TD.isAgg,resV,↓reduceIte,Nat.reduceEqDiff,reduceCtorEq,Nat.reduceAdd,Nat.reduceMul,Nat.reduceLeDiff,quietOp,blindOp,Int.reduceEq,Int.reduceLT,Int.reduceLE,Nat.reduceLT,tiA,tiXA, h25, h6, l6, builtE]
          refine condC_dec (fun hh => ?_) (fun hh => ?_)
          · obtain ⟨wi, wo, wu, wc, wr, ew, w1, w2, w3, _⟩ := r6.get (by omega)
            have w4 := w3 d (by omega)
            subst ew
            try simp (disch := first | omega | (simp only [L3] <;> omega)) only [Sall,evalOp,init,binA_s,binE,binI,unE,convE,okNil,builtE,gv,TD.isAgg,resV,↓reduceIte,Nat.reduceEqDiff,reduceCtorEq,Nat.reduceAdd,Nat.reduceMul,Nat.reduceLeDiff,quietOp,blindOp,Int.reduceEq,Int.reduceLT,Int.reduceLE,Nat.reduceLT,tiA,tiXA, h25, h6, h14, w1, w4]
            have hdm : G.getD d 0 ∈ G := by
              rw [List.getD_eq_getElem?_getD, List.getElem?_eq_getElem (by omega)]; exact List.getElem_mem _
            have hnot : decide (G.getD d 0 ∈ N) = false := by
              refine decide_eq_false fun h => ?_
              generalize G.getD d 0 = z at *
              rw [eG1] at hdm
              obtain ⟨y, y1, y2, y3⟩ := grp_met (by omega) q0 hiN q7 haN hdm
              rw [← eM1] at y3
              rw [eN1, mem_nmL] at h
              obtain ⟨y', z1, z2, z3, z4⟩ := h
              obtain rfl : y = y' := by omega
              rcases y3 with y3 | y3
              · exact z3 y3
              · omega
            refine ⟨⟨by omega, by omega⟩, (hasInt_c v14 (G.getD d 0) _ N H3 (by omega) r14).to ?_⟩
            refine Holds.mp ?_
            have wd1 : IntKind.i64.wrap ((d : Int) + 1) = ((d + 1 : Nat) : Int) := w64 ⟨by omega, by omega⟩
            try simp (disch := first | omega | (simp only [L3] <;> omega)) only [Sall,evalOp,init,binA_s,binE,binI,unE,convE,okNil,builtE,gv,TD.isAgg,resV,↓reduceIte,Nat.reduceEqDiff,reduceCtorEq,Nat.reduceAdd,Nat.reduceMul,Nat.reduceLeDiff,quietOp,blindOp,Int.reduceEq,Int.reduceLT,Int.reduceLE,Nat.reduceLT,tiA,tiXA, hnot, h25]
            exact ⟨gN - (d + 1), by omega, d + 1, rfl, by omega, wd1, h6, h14⟩
          · try simp (disch := first | omega | (simp only [L3] <;> omega)) only [Sall,evalOp,init,binA_s,binE,binI,unE,convE,okNil,builtE,gv,TD.isAgg,resV,↓reduceIte,Nat.reduceEqDiff,reduceCtorEq,Nat.reduceAdd,Nat.reduceMul,Nat.reduceLeDiff,quietOp,blindOp,Int.reduceEq,Int.reduceLT,Int.reduceLE,Nat.reduceLT,tiA,tiXA, true_and]
end Go.Proofs.Ytpienljnoaendaa.A
end

section
set_option maxRecDepth 100000
namespace Go.Proofs.Ytpienljnoaendaa.A
open Go Go.Abs Go.RowKit
section
variable {K : Type} {enc : TypeId × Value → K} {W : World} {base b0 : Nat} {spare : Nat → Bool} {held : Bool}
end
end Go.Proofs.Ytpienljnoaendaa.A
end

section
set_option maxRecDepth 100000
namespace Go.Proofs.Ytpienljnoaendaa.A
open Go Go.Abs Go.RowKit
section
variable {K : Type} {enc : TypeId × Value → K} {W : World} {b0 : Nat} {spare : Nat → Bool} {held : Bool} {v : Value} {d : DataW K} {p : List MemPlace}
theorem cell_of_val {t e : TypeId} (hu : Try.prog.underlying t = some (.slice e)) (hok : Value.okWide Try.prog W .any b0 t v) : Cell.okWide Try.prog W .any 0 t v := by
  unfold Value.okWide at hok
  rw [hu] at hok
  exact hok
theorem cells_slice1 {t e : TypeId} (hu : Try.prog.underlying t = some (.slice e)) (hok : Cell.okWide Try.prog W .any 0 t v) : v.cells.toList = [v] := by
  rcases ok_slice_cell hu hok with rfl | ⟨b, o, n, c, rfl, _⟩ <;> rfl
end
end Go.Proofs.Ytpienljnoaendaa.A
end

section
set_option maxRecDepth 100000
namespace Go.Proofs.Ytpienljnoaendaa.A
open Go Go.Abs Go.RowKit
theorem uByte : Try.prog.underlying 5 = some (.int .u8) := by kernel_rfl
theorem uBytes : Try.prog.underlying 22 = some (.slice 5) := by kernel_rfl
theorem cByte : Try.prog.cellsOf 5 = 1 := by kernel_rfl
section
variable {K : Type} {enc : TypeId × Value → K} {W : World} {b0 : Nat} {spare : Nat → Bool} {held : Bool} {v : Value} {d : DataW K} {p : List MemPlace}
theorem open_B (h : DataW.Trod enc Try.prog W 0 spare held 22 v d p) (hok : Value.okWide Try.prog W .any b0 22 v) :
    ∃ nb, CodeOk (given W) v nb ∧ V1 id W.heap.size W v v ∧ nb ≤ 9223372036854775807 := by
  have h0 := cell_of_val uBytes hok
  obtain ⟨fuel, h⟩ := h
  rw [cells_slice1 uBytes h0] at h
  rcases ok_slice_cell uBytes h0 with rfl | ⟨b, o, n, c, rfl, hb, hn⟩
  · exact ⟨0, .inl ⟨rfl, _, _, rfl⟩, .scal _ rfl, by omega⟩
  · refine ⟨n, ?_, V1.sle (ρ := id) b o n c hb, hn⟩
    rcases DataW.trod_slice uBytes h with ⟨h0, _⟩ | ⟨a, len, cap, elems, rest, m, _, hcs, _, _, _, _, hlen, hel, _, _⟩
    · simp at h0
    · simp only [List.cons.injEq, Value.slice.injEq, Option.some.injEq, and_true] at hcs
      obtain ⟨rfl, rfl, rfl⟩ := hcs
      have each : ∀ j, j < n → ∃ z, W.cell? ⟨b, o + j, none⟩ = some (.int .u8 z) ∧ 0 ≤ z ∧ z ≤ 255 := by
        intro j hj
        have h1 := hel j hj
        rw [List.getElem?_eq_getElem (by omega), cByte, Option.bind_eq_some_iff] at h1
        obtain ⟨cs', hc1, hc2⟩ := h1
        obtain ⟨_, hl, hc⟩ := World.cells?_some hc1
        have h2 := hc 0 (by omega)
        obtain ⟨z, hz, _, hw⟩ := DataW.trod_int uByte hc2
        refine ⟨z, ?_, ?_⟩
        · rw [hz] at h2
          rw [Addr.add_lit, Addr.add_lit] at h2
          simpa using h2
        · unfold Lit.wf at hw
          simp only [Bool.and_eq_true, decide_eq_true_eq] at hw
          exact hw
      rcases Nat.eq_zero_or_pos n with h0 | h0
      · exact .inl ⟨h0, _, _, by rw [h0]⟩
      · refine .inr ⟨b, o, none, c, ⟨0, false, absRow W b⟩, rfl, ?_, fun j hj => ?_⟩
        · obtain ⟨z, hz, _⟩ := each 0 h0
          exact (given_cell hz).2.1
        · obtain ⟨z, hz, z1, z2⟩ := each j hj
          exact ⟨z, (given_cell hz).2.2, z1, z2⟩
end
end Go.Proofs.Ytpienljnoaendaa.A
end
