/- Contracts: FirstDigitOrder on both sides. And what follows. -/
import Derived.Test.YtpienljnoaendaaGreatM3
set_option linter.unusedSimpArgs false
set_option linter.unusedVariables false
section
set_option maxRecDepth 100000
set_option maxHeartbeats 2000000
namespace Go.Proofs.YtpienljnoaendaaGreat.A
open Go Go.Abs Go.RowKit
theorem seqL_at (n c : Nat) (h : c < n) : (seqL 0 n).getD c 0 = (c : Int) := by rw [seqL_getD _ _ _ h, Int.zero_add]
theorem l09Orders_c (n : Nat) (hn : n ≤ 8) : ∀ (fuel : Nat) (y : List Int) (v : Value) (lo0 hi0 : Nat) (H : AH), fuel + y.length = n → Fr 1 2 lo0 hi0 H v y.length y → lo0 ≤ hi0 → hi0 ≤ H.next →
    ACalls Tryz.prog 198 [.int .i64 n, v] H (fun u H' => Up H.next H H' ∧ FrV 33 lo0 H'.next H' u (ordN (seqL 0 n) fuel y)) := by
  intro fuel
  induction fuel with
  | zero =>
    intro y v lo0 hi0 H hlen hfr hlh hhi
    refine acalls_of_awp [.tmp 4] Tryz.func198 (by kernel_rfl) rfl rfl (Nat.le_of_ble_eq_true rfl) (by kernel_rfl) ?_
    have hl := hfr.rd.len
    have ho := hfr.rd.one
    have e1 : ((y.length : Int) == (n : Int)) = true := by rw [show y.length = n by omega]; exact beq_self_eq_true _
    have zz : zeros 1 [.slice none 0 0] = [.slice none 0 0] := rfl
    have hc1 := cells_of_one ho
    have hc2 := noTuple_of_one ho
    try simp (disch := first | omega | (simp only [L3] <;> omega)) only [Sall,evalOp,init,binA_s,binE,binI,unE,convE,okNil,builtE,gv,TD.isAgg,resV,↓reduceIte,Nat.reduceEqDiff,reduceCtorEq,Nat.reduceAdd,Nat.reduceMul,Nat.reduceLeDiff,quietOp,blindOp,Int.reduceEq,Int.reduceLT,Int.reduceLE,Nat.reduceLT,tiA, builtE, hl, e1, zz, ho, hc1, hc2]
    refine ⟨(Up.refl _ H).push (Nat.le_refl _) _, .inr ⟨H.next, [v], by omega, by omega, rfl, by rw [AH.push_row, if_pos rfl], rfl, fun j hj => ?_⟩⟩
    simp only [ordN, List.length_singleton] at hj
    have hj0 : j = 0 := by omega
    subst hj0
    refine ⟨v, rfl, fun H2 h2 => ?_⟩
    have hf2 : Fr 1 2 lo0 hi0 H2 v y.length y := by
      refine ⟨hfr.1, ?_⟩
      rcases hfr.2 with h3 | ⟨q, q1, q2, q3, q4⟩
      · exact .inl h3
      · exact .inr ⟨q, q1, q2, q3, h2 q _ q1 (by omega) (by omega) (by rw [AH.push_row, if_neg (by omega)]; exact q4)⟩
    exact hf2.rd
  | succ f ih =>
    intro y v lo0 hi0 H hlen hfr hlh hhi
    refine ACalls.wf (by kernel_rfl) fun hs => acalls_of_awp [.tmp 4] Tryz.func198 (by kernel_rfl) rfl rfl (Nat.le_of_ble_eq_true rfl) (by kernel_rfl) ?_
    have hl := hfr.rd.len
    have ho := hfr.rd.one
    have e1 : ((y.length : Int) == (n : Int)) = false := by rw [beq_eq_false_iff_ne]; omega
    have hsl : (seqL 0 n).length = n := seqL_length 0 n
    try simp (disch := first | omega | (simp only [L3] <;> omega)) only [Sall,evalOp,init,binA_s,binE,binI,unE,convE,okNil,builtE,gv,TD.isAgg,resV,↓reduceIte,Nat.reduceEqDiff,reduceCtorEq,Nat.reduceAdd,Nat.reduceMul,Nat.reduceLeDiff,quietOp,blindOp,Int.reduceEq,Int.reduceLT,Int.reduceLE,Nat.reduceLT,tiA, builtE, hl, e1, zeros_zero]
    refine awp_loop (fun m t H' => ∃ (c : Nat) (u : Value) (hi : Nat), m = n - c ∧ c ≤ n ∧ t 6 = .int .i64 c ∧ t 5 = u ∧ t 0 = .int .i64 n ∧ t 1 = v ∧ Up H.next H H' ∧ H.next ≤ hi ∧ hi ≤ H'.next ∧ FrV 33 H.next hi H' u (ordP (seqL 0 n) f y c)) n ?_ ?_
    · refine ⟨0, .slice (some ⟨H.next, 0, some 1⟩) 0 0, H.next + 1, by omega, by omega, ?_⟩
      try simp (disch := first | omega | (simp only [L3] <;> omega)) only [Sall,evalOp,init,binA_s,binE,binI,unE,convE,okNil,builtE,gv,TD.isAgg,resV,↓reduceIte,Nat.reduceEqDiff,reduceCtorEq,Nat.reduceAdd,Nat.reduceMul,Nat.reduceLeDiff,quietOp,blindOp,Int.reduceEq,Int.reduceLT,Int.reduceLE,Nat.reduceLT,tiA, Int.natCast_zero, ordP_zero]
      refine ⟨(Up.refl _ H).push (Nat.le_refl _) _, ?_⟩
      (repeat refine And.intro (by omega) ?_)
      exact .inr ⟨H.next, [], by omega, by omega, rfl, by rw [AH.push_row, if_pos rfl], rfl, fun j hj => by simp at hj⟩
    · rintro m t H' ⟨c, u, hi, hm, hcn, h6, h5, h0, h1, hup, hlo, hhi', hfu⟩
      try simp (disch := first | omega | (simp only [L3] <;> omega)) only [Sall,evalOp,init,binA_s,binE,binI,unE,convE,okNil,builtE,gv,TD.isAgg,resV,↓reduceIte,Nat.reduceEqDiff,reduceCtorEq,Nat.reduceAdd,Nat.reduceMul,Nat.reduceLeDiff,quietOp,blindOp,Int.reduceEq,Int.reduceLT,Int.reduceLE,Nat.reduceLT,tiA, h6, h0]
      refine condC_dec (fun h => ?_) (fun h => ?_)
      · have hup1 := hup.next
        have hfy : Fr 1 2 lo0 hi0 H' v y.length y := hfr.same fun i _ hi => hup.row i (by omega)
        have hpre := ordP_pre (seqL 0 n) f y c (by omega)
        have hsucc := ordP_succ (seqL 0 n) f y c (by omega)
        rw [seqL_at n c (by omega)] at hsucc
        have hlen1 := seq_len_le (seqL 0 n) (f + 1) y
        have hpow : (seqL 0 n).length ^ (f + 1) ≤ 16777216 := by
          rw [hsl]
          exact Nat.le_trans (Nat.pow_le_pow_left hn _) (Nat.le_trans (Nat.pow_le_pow_right (by omega) (show f + 1 ≤ 8 by omega)) (by decide))
        obtain ⟨L3, hL3⟩ := hpre
        rw [hL3, hsucc, List.length_append, List.length_append] at hlen1
        try simp (disch := first | omega | (simp only [L3] <;> omega)) only [Sall,evalOp,init,binA_s,binE,binI,unE,convE,okNil,builtE,gv,TD.isAgg,resV,↓reduceIte,Nat.reduceEqDiff,reduceCtorEq,Nat.reduceAdd,Nat.reduceMul,Nat.reduceLeDiff,quietOp,blindOp,Int.reduceEq,Int.reduceLT,Int.reduceLE,Nat.reduceLT,tiA, h6, h0, h1, h5]
        refine awp_loop (fun z t H2 => ∃ i : Nat, z = y.length - i ∧ i ≤ y.length ∧ t 8 = .int .i64 i ∧ t 7 = .bool ((List.range i).any fun j => y.getD j 0 == (c : Int)) ∧ t 6 = .int .i64 c ∧ t 5 = u ∧ t 0 = .int .i64 n ∧ t 1 = v ∧ H2 = H') y.length ?_ ?_
        · refine ⟨0, by omega, by omega, ?_⟩
          try simp (disch := first | omega | (simp only [L3] <;> omega)) only [Sall,evalOp,init,binA_s,binE,binI,unE,convE,okNil,builtE,gv,TD.isAgg,resV,↓reduceIte,Nat.reduceEqDiff,reduceCtorEq,Nat.reduceAdd,Nat.reduceMul,Nat.reduceLeDiff,quietOp,blindOp,Int.reduceEq,Int.reduceLT,Int.reduceLE,Nat.reduceLT,tiA, Int.natCast_zero, h6, h5, h0, h1, List.range_zero, List.any_nil]
        · rintro z t H2 ⟨i, hz, hiy, h8, h7, h6, h5, h0, h1, rfl⟩
          have hlv := hfy.rd.len
          try simp (disch := first | omega | (simp only [L3] <;> omega)) only [Sall,evalOp,init,binA_s,binE,binI,unE,convE,okNil,builtE,gv,TD.isAgg,resV,↓reduceIte,Nat.reduceEqDiff,reduceCtorEq,Nat.reduceAdd,Nat.reduceMul,Nat.reduceLeDiff,quietOp,blindOp,Int.reduceEq,Int.reduceLT,Int.reduceLE,Nat.reduceLT,tiA, h8, h1, builtE, hlv]
          refine condC_dec (fun hh => ?_) (fun hh => ?_)
          · obtain ⟨i7, o7, u7, c7, r7, rfl, hr7, hc7, hs7, hg7⟩ := hfy.rd.get (by omega)
            have g1 := hs7 i (by omega)
            have hra : ((List.range (i + 1)).any fun j => y.getD j 0 == (c : Int)) = (((List.range i).any fun j => y.getD j 0 == (c : Int)) || (y.getD i 0 == (c : Int))) := by rw [List.range_succ, List.any_append]; simp
            cases hk : ((List.range i).any fun j => y.getD j 0 == (c : Int)) with
            | true =>
              rw [hk] at h7
              rw [hk, Bool.true_or] at hra
              try simp (disch := first | omega | (simp only [L3] <;> omega)) only [Sall,evalOp,init,binA_s,binE,binI,unE,convE,okNil,builtE,gv,TD.isAgg,resV,↓reduceIte,Nat.reduceEqDiff,reduceCtorEq,Nat.reduceAdd,Nat.reduceMul,Nat.reduceLeDiff,quietOp,blindOp,Int.reduceEq,Int.reduceLT,Int.reduceLE,Nat.reduceLT,tiA, h8, h7, h6, h5, h0, h1, w64]
              exact ⟨y.length - (i + 1), by omega, i + 1, rfl, by omega, rfl, by rw [hra]⟩
            | false =>
              rw [hk] at h7
              rw [hk, Bool.false_or] at hra
              try simp (disch := first | omega | (simp only [L3] <;> omega)) only [Sall,evalOp,init,binA_s,binE,binI,unE,convE,okNil,builtE,gv,TD.isAgg,resV,↓reduceIte,Nat.reduceEqDiff,reduceCtorEq,Nat.reduceAdd,Nat.reduceMul,Nat.reduceLeDiff,quietOp,blindOp,Int.reduceEq,Int.reduceLT,Int.reduceLE,Nat.reduceLT,tiA, h8, h7, h6, h5, h0, h1, hr7, g1, w64]
              (repeat refine And.intro (by omega) ?_)
              exact ⟨y.length - (i + 1), by omega, i + 1, rfl, by omega, rfl, by rw [hra]⟩
          · have hiy2 : i = y.length := by omega
            subst hiy2
            rw [any_contains] at h7
            cases hct : y.contains (c : Int) with
            | true =>
              rw [hct] at h7
              rw [hct, if_pos rfl, List.append_nil] at hsucc
              try simp (disch := first | omega | (simp only [L3] <;> omega)) only [Sall,evalOp,init,binA_s,binE,binI,unE,convE,okNil,builtE,gv,TD.isAgg,resV,↓reduceIte,Nat.reduceEqDiff,reduceCtorEq,Nat.reduceAdd,Nat.reduceMul,Nat.reduceLeDiff,quietOp,blindOp,Int.reduceEq,Int.reduceLT,Int.reduceLE,Nat.reduceLT,tiA, h7, Bool.not_true, h6, h5, h0, h1, w64]
              refine ⟨n - (c + 1), by omega, c + 1, u, hi, rfl, by omega, rfl, rfl, hup, hlo, hhi', ?_⟩
              rw [hsucc]; exact hfu
            | false =>
              rw [hct] at h7
              rw [hct, if_neg (by simp)] at hsucc hlen1
              have zz : zeros 1 [.int .i64 0] = [.int .i64 0] := rfl
              try simp (disch := first | omega | (simp only [L3] <;> omega)) only [Sall,evalOp,init,binA_s,binE,binI,unE,convE,okNil,builtE,gv,TD.isAgg,resV,↓reduceIte,Nat.reduceEqDiff,reduceCtorEq,Nat.reduceAdd,Nat.reduceMul,Nat.reduceLeDiff,quietOp,blindOp,Int.reduceEq,Int.reduceLT,Int.reduceLE,Nat.reduceLT,tiA, h7, Bool.not_false, h6, h5, h0, h1]
              refine (l01Own_c v y H2 (Cp.of_fr hfy) (by omega)).mono ?_
              rintro w H3 ⟨up3, hw⟩
              have n3 := up3.next
              refine Holds.mp ?_
              try simp (disch := first | omega | (simp only [L3] <;> omega)) only [Sall,evalOp,init,binA_s,binE,binI,unE,convE,okNil,builtE,gv,TD.isAgg,resV,↓reduceIte,Nat.reduceEqDiff,reduceCtorEq,Nat.reduceAdd,Nat.reduceMul,Nat.reduceLeDiff,quietOp,blindOp,Int.reduceEq,Int.reduceLT,Int.reduceLE,Nat.reduceLT,tiA, h6, h5, h0, h1, zz, slCells]
              obtain ⟨H4, e4⟩ : ∃ H4, H4 = H3.push ⟨2, true, [.int .i64 c]⟩ := ⟨_, rfl⟩
              have n4 : H4.next = H3.next + 1 := by rw [e4]; rfl
              have s4 : ∀ i, i < H3.next → H4.row i = H3.row i := fun i hi => by rw [e4, AH.push_row, if_neg (by omega)]
              rw [← e4]
              clear e4
              refine appE_fr (k := 1) (lo := H2.next) (hi := H3.next) (l := y) (m := [(c : Int)]) (hw.same fun i _ hi => s4 i (by omega)) rfl (by omega) rfl (by omega) (by decide) (by omega) (by omega) ?_
              intro v' H5 n5 s5 f5
              have hl1 : (y ++ [(c : Int)]).length = y.length + 1 := by simp
              rw [← hl1] at f5
              have old : ∀ i, i < H2.next → H5.row i = H2.row i := fun i hi => by rw [s5 i (by omega) (by omega), s4 i (by omega), up3.row i hi]
              try simp (disch := first | omega | (simp only [L3] <;> omega)) only [Sall,evalOp,init,binA_s,binE,binI,unE,convE,okNil,builtE,gv,TD.isAgg,resV,↓reduceIte,Nat.reduceEqDiff,reduceCtorEq,Nat.reduceAdd,Nat.reduceMul,Nat.reduceLeDiff,quietOp,blindOp,Int.reduceEq,Int.reduceLT,Int.reduceLE,Nat.reduceLT,tiA, h6, h5, h0, h1]
              refine (ih (y ++ [(c : Int)]) v' H4.next (H4.next + 1) H5 (by omega) f5 (by omega) (by omega)).mono ?_
              rintro u6 H6 ⟨up6, hf6⟩
              have n6 := up6.next
              refine Holds.mp ?_
              try simp (disch := first | omega | (simp only [L3] <;> omega)) only [Sall,evalOp,init,binA_s,binE,binI,unE,convE,okNil,builtE,gv,TD.isAgg,resV,↓reduceIte,Nat.reduceEqDiff,reduceCtorEq,Nat.reduceAdd,Nat.reduceMul,Nat.reduceLeDiff,quietOp,blindOp,Int.reduceEq,Int.reduceLT,Int.reduceLE,Nat.reduceLT,tiA, h6, h5, h0, h1]
              refine appE_frV (lo := H.next) (hi := hi) (lo' := H4.next) (hi' := H6.next) (hfu.same fun i _ hi => by rw [up6.row i (by omega), old i (by omega)]) hf6 rfl (by decide) (by omega) hlo (by omega) (Nat.le_refl _) (by omega) ?_
              intro v7 H7 n7 s7 f7
              try simp (disch := first | omega | (simp only [L3] <;> omega)) only [Sall,evalOp,init,binA_s,binE,binI,unE,convE,okNil,builtE,gv,TD.isAgg,resV,↓reduceIte,Nat.reduceEqDiff,reduceCtorEq,Nat.reduceAdd,Nat.reduceMul,Nat.reduceLeDiff,quietOp,blindOp,Int.reduceEq,Int.reduceLT,Int.reduceLE,Nat.reduceLT,tiA, h6, h5, h0, h1, w64]
              refine ⟨n - (c + 1), by omega, c + 1, v7, H7.next, rfl, by omega, rfl, rfl, ⟨by omega, fun i hi => ?_⟩, by omega, Nat.le_refl _, ?_⟩
              · rw [s7 i (by omega) (by omega), up6.row i (by omega), old i (by omega), hup.row i hi]
              · rw [hsucc]; exact f7
      · have hc : c = n := by omega
        subst hc
        have hall := ordP_all (seqL 0 c) f y
        rw [hsl] at hall
        rw [hall] at hfu
        try simp (disch := first | omega | (simp only [L3] <;> omega)) only [Sall,evalOp,init,binA_s,binE,binI,unE,convE,okNil,builtE,gv,TD.isAgg,resV,↓reduceIte,Nat.reduceEqDiff,reduceCtorEq,Nat.reduceAdd,Nat.reduceMul,Nat.reduceLeDiff,quietOp,blindOp,Int.reduceEq,Int.reduceLT,Int.reduceLE,Nat.reduceLT,tiA, h5]
        exact ⟨hup, hfu.wide (by omega) hhi'⟩
theorem isDig_cases {n : Int} (h : isDig n = true) : ∃ k : Nat, n = k ∧ k ∈ [2, 4, 8] ∧ 2 ≤ k ∧ k ≤ 8 := by
  have h := of_decide_eq_true h
  rcases h with rfl | rfl | rfl
  · exact ⟨2, rfl, by simp, by omega, by omega⟩
  · exact ⟨4, rfl, by simp, by omega, by omega⟩
  · exact ⟨8, rfl, by simp, by omega, by omega⟩
def FdS (n : Nat) (fc : Nat) (Hc : AH) (es : List (List Int)) (H : AH) : Prop :=
  Hc.next ≤ H.next ∧ (∀ i, i < Hc.next → ¬ i = fc → H.row i = Hc.row i) ∧ ∃ fv, H.row fc = some ⟨33, true, [fv]⟩ ∧
    (((∀ z ∈ es, balD n z = false) ∧ fv = .slice none 0 0) ∨ ∃ es' z fi, es = es' ++ [z] ∧ balD n z = true ∧ Hc.next ≤ fi ∧ fi < H.next ∧ ¬ fi = fc ∧ fv = .slice (some ⟨fi, 0, some 1⟩) z.length z.length ∧ H.row fi = some ⟨2, true, ints z⟩)
theorem fdClosure_c (n : Nat) (hn : n ∈ [2, 4, 8]) (nc fc : Nat) (Hc : AH) (hnc : Hc.row nc = some ⟨2, true, [.int .i64 n]⟩) (hncn : nc < Hc.next) (hne : ¬ nc = fc) (hfc : fc < Hc.next) (es : List (List Int)) (y : List Int) (v : Value) (H : AH) (hS : FdS n fc Hc es H) (hes : ∀ z ∈ es, balD n z = false)
    (hy : ∀ x ∈ y, 0 ≤ x ∧ x < n) (hyl : 0 < y.length ∧ y.length ≤ 40) (hv : Cp H v y) :
    ACalls Tryz.prog 212 [v, .pointer (some ⟨nc, 0, none⟩), .pointer (some ⟨fc, 0, none⟩)] H (fun r H' => r = .bool (!balD n y) ∧ FdS n fc Hc (es ++ [y]) H' ∧ H.next ≤ H'.next ∧ ∀ i, i < H.next → ¬ i = fc → H'.row i = H.row i) := by
  refine ACalls.wf (by kernel_rfl) fun hs => acalls_of_awp [.tmp 4] Tryz.func212 (by kernel_rfl) rfl rfl (Nat.le_of_ble_eq_true rfl) (by kernel_rfl) ?_
  obtain ⟨hnx, hrow, fv, hfv, hcase⟩ := hS
  have hnil : fv = .slice none 0 0 := by
    rcases hcase with ⟨_, h⟩ | ⟨es', z, fi, e, hz, _⟩
    · exact h
    · have := hes z (by rw [e]; simp)
      rw [this] at hz; cases hz
  subst hnil
  have hnc' : H.row nc = some ⟨2, true, [.int .i64 n]⟩ := by rw [hrow _ hncn hne]; exact hnc
  have hn14 : n ≤ 14 := by simp only [List.mem_cons, List.not_mem_nil, or_false] at hn; omega
  have hsch := digL_ok hn hy hyl.2
  try simp (disch := first | omega | (simp only [L3] <;> omega)) only [Sall,evalOp,init,binA_s,binE,binI,unE,convE,okNil,builtE,gv,TD.isAgg,resV,↓reduceIte,Nat.reduceEqDiff,reduceCtorEq,Nat.reduceAdd,Nat.reduceMul,Nat.reduceLeDiff,quietOp,blindOp,Int.reduceEq,Int.reduceLT,Int.reduceLE,Nat.reduceLT,tiA, hnc']
  refine (digitRobin_c n v y H hn14 hv.1 (by omega)).ex ?_
  rintro u H1 ⟨up1, hf1⟩
  have n1 := up1.next
  try simp (disch := first | omega | (simp only [L3] <;> omega)) only [Sall,evalOp,init,binA_s,binE,binI,unE,convE,okNil,builtE,gv,TD.isAgg,resV,↓reduceIte,Nat.reduceEqDiff,reduceCtorEq,Nat.reduceAdd,Nat.reduceMul,Nat.reduceLeDiff,quietOp,blindOp,Int.reduceEq,Int.reduceLT,Int.reduceLE,Nat.reduceLT,tiA, true_and]
  refine (carry_c n u y.length (digL n y) H1 hsch hf1.rd (by omega)).mono ?_
  rintro w H2 ⟨up2, hf2⟩
  have n2 := up2.next
  have hsq := carM_sq (rnd_toNat hsch) y.length (Nat.le_refl _)
  have old : ∀ i, i < H.next → H2.row i = H.row i := fun i hi => by rw [up2.row i (by omega), up1.row i hi]
  refine Holds.mp ?_
  try simp (disch := first | omega | (simp only [L3] <;> omega)) only [Sall,evalOp,init,binA_s,binE,binI,unE,convE,okNil,builtE,gv,TD.isAgg,resV,↓reduceIte,Nat.reduceEqDiff,reduceCtorEq,Nat.reduceAdd,Nat.reduceMul,Nat.reduceLeDiff,quietOp,blindOp,Int.reduceEq,Int.reduceLT,Int.reduceLE,Nat.reduceLT,tiA, true_and]
  refine (areAllOnce_c w n _ H2 hf2.rd hsq (by omega)).to ?_
  have hbal : balB (carM n y.length (digL n y) y.length) = balD n y := rfl
  rw [hbal]
  cases hb : balD n y with
  | true =>
    try simp (disch := first | omega | (simp only [L3] <;> omega)) only [Sall,evalOp,init,binA_s,binE,binI,unE,convE,okNil,builtE,gv,TD.isAgg,resV,↓reduceIte,Nat.reduceEqDiff,reduceCtorEq,Nat.reduceAdd,Nat.reduceMul,Nat.reduceLeDiff,quietOp,blindOp,Int.reduceEq,Int.reduceLT,Int.reduceLE,Nat.reduceLT,tiA, true_and]
    refine (cloneI_c v y H2 ⟨hv.1.same fun i r hir => by rw [old i (hs _ _ hir)]; exact hir, fun h0 => by omega⟩ (by omega)).mono ?_
    rintro x H3 ⟨up3, hf3⟩
    have n3 := up3.next
    obtain ⟨fi, q1, q2, rfl, q3⟩ := hf3.get hyl.1
    have old3 : ∀ i, i < H.next → H3.row i = H.row i := fun i hi => by rw [up3.row i (by omega), old i hi]
    have hfc3 : H3.row fc = some ⟨33, true, [.slice none 0 0]⟩ := by rw [old3 _ (by omega)]; exact hfv
    refine Holds.mp ?_
    try simp (disch := first | omega | (simp only [L3] <;> omega)) only [Sall,evalOp,init,binA_s,binE,binI,unE,convE,okNil,builtE,gv,TD.isAgg,resV,↓reduceIte,Nat.reduceEqDiff,reduceCtorEq,Nat.reduceAdd,Nat.reduceMul,Nat.reduceLeDiff,quietOp,blindOp,Int.reduceEq,Int.reduceLT,Int.reduceLE,Nat.reduceLT,tiA, hfc3, binE]
    refine ⟨⟨by simp only [AH.setCells_next]; omega, fun i hi1 hi => by rw [AH.setCells_row, if_neg hi, old3 i (by omega), hrow i hi1 hi], _, by rw [AH.setCells_row, if_pos rfl, hfc3]; rfl, .inr ⟨es, y, fi, rfl, hb, by omega, by simp only [AH.setCells_next]; omega, by omega, rfl, by rw [AH.setCells_row, if_neg (by omega)]; exact q3⟩⟩, by omega, fun i hi1 hi => by rw [if_neg hi, old3 i hi1]⟩
  | false =>
    have hfc2 : H2.row fc = some ⟨33, true, [.slice none 0 0]⟩ := by rw [old _ (by omega)]; exact hfv
    try simp (disch := first | omega | (simp only [L3] <;> omega)) only [Sall,evalOp,init,binA_s,binE,binI,unE,convE,okNil,builtE,gv,TD.isAgg,resV,↓reduceIte,Nat.reduceEqDiff,reduceCtorEq,Nat.reduceAdd,Nat.reduceMul,Nat.reduceLeDiff,quietOp,blindOp,Int.reduceEq,Int.reduceLT,Int.reduceLE,Nat.reduceLT,tiA, hfc2, binE, Option.isNone_none, Bool.not_false]
    refine ⟨⟨by omega, fun i hi1 hi => by rw [old i (by omega), hrow i hi1 hi], _, hfc2, .inl ⟨fun z hz => (List.mem_append.1 hz).elim (hes z) fun h => by rw [List.mem_singleton] at h; rw [h, hb], rfl⟩⟩, by omega, fun i hi1 _ => old i hi1⟩
theorem FirstDigitOrder_c (q : Int) (H : AH) (hq : -9223372036854775808 ≤ q ∧ q ≤ 9223372036854775807) :
    ACalls Tryz.prog 81 [.int .i64 q] H (fun r H' => ∃ u, r = .tuple #[u, .int .i64 (fdC q)] ∧ Up H.next H H' ∧ Fr 1 2 H.next H'.next H' u (fdR q).length (fdR q)) := by
  refine ACalls.wf (by kernel_rfl) fun hs => acalls_of_awp [.tmp 2, .tmp 3] Tryz.func81 (by kernel_rfl) rfl rfl (Nat.le_of_ble_eq_true rfl) (by kernel_rfl) ?_
  try simp (disch := first | omega | (simp only [L3] <;> omega)) only [Sall,evalOp,init,binA_s,binE,binI,unE,convE,okNil,builtE,gv,TD.isAgg,resV,↓reduceIte,Nat.reduceEqDiff,reduceCtorEq,Nat.reduceAdd,Nat.reduceMul,Nat.reduceLeDiff,quietOp,blindOp,Int.reduceEq,Int.reduceLT,Int.reduceLE,Nat.reduceLT,tiA, true_and]
  refine (isDigit_c q _).to ?_
  have eq0 : decide (q = 2 ∨ q = 4 ∨ q = 8) = isDig q := rfl
  rw [eq0]
  cases hd : isDig q with
  | false =>
    try simp (disch := first | omega | (simp only [L3] <;> omega)) only [Sall,evalOp,init,binA_s,binE,binI,unE,convE,okNil,builtE,gv,TD.isAgg,resV,↓reduceIte,Nat.reduceEqDiff,reduceCtorEq,Nat.reduceAdd,Nat.reduceMul,Nat.reduceLeDiff,quietOp,blindOp,Int.reduceEq,Int.reduceLT,Int.reduceLE,Nat.reduceLT,tiA, Bool.not_false]
    unfold fdC fdR
    rw [hd]
    exact ⟨_, rfl, (Up.refl _ H).push (Nat.le_refl _) _, ⟨rfl, .inl ⟨rfl, rfl⟩⟩⟩
  | true =>
    obtain ⟨n, rfl, hn, hn2, hn8⟩ := isDig_cases hd
    try simp (disch := first | omega | (simp only [L3] <;> omega)) only [Sall,evalOp,init,binA_s,binE,binI,unE,convE,okNil,builtE,gv,TD.isAgg,resV,↓reduceIte,Nat.reduceEqDiff,reduceCtorEq,Nat.reduceAdd,Nat.reduceMul,Nat.reduceLeDiff,quietOp,blindOp,Int.reduceEq,Int.reduceLT,Int.reduceLE,Nat.reduceLT,tiA, Bool.not_true, w64]
    obtain ⟨H1, e1⟩ : ∃ H1, H1 = (H.push ⟨2, true, [.int .i64 n]⟩).push ⟨33, true, [.slice none 0 0]⟩ := ⟨_, rfl⟩
    have up1 : Up H.next H H1 := by rw [e1]; exact ((Up.refl _ H).push (by omega) _).push (by simp only [AH.push_next]; omega) _
    have n1 : H1.next = H.next + 2 := by rw [e1]; rfl
    have r0 : H1.row H.next = some ⟨2, true, [.int .i64 n]⟩ := by rw [e1]; (simp [AH.setCells_row, AH.push_row, AH.push_next] <;> (try omega) <;> (repeat rw [if_neg (by omega)]))
    have r1 : H1.row (H.next + 1) = some ⟨33, true, [.slice none 0 0]⟩ := by rw [e1]; (simp [AH.setCells_row, AH.push_row, AH.push_next] <;> (try omega) <;> (repeat rw [if_neg (by omega)]))
    rw [← e1]
    clear e1
    refine (numbersFrom_c 1 ((n : Int) - 1) (n - 1) (by omega) (by omega) (by omega) H1).sc.mono ?_
    rintro nv Hc ⟨⟨upc, hfc⟩, scc⟩
    have nc := upc.next
    have hnl : (seqL 1 (n - 1)).length = n - 1 := seqL_length _ _
    have hc0 : Hc.row H.next = some ⟨2, true, [.int .i64 n]⟩ := by rw [upc.row _ (by omega), r0]
    have hc1 : Hc.row (H.next + 1) = some ⟨33, true, [.slice none 0 0]⟩ := by rw [upc.row _ (by omega), r1]
    refine Holds.mp ?_
    try simp (disch := first | omega | (simp only [L3] <;> omega)) only [Sall,evalOp,init,binA_s,binE,binI,unE,convE,okNil,builtE,gv,TD.isAgg,resV,↓reduceIte,Nat.reduceEqDiff,reduceCtorEq,Nat.reduceAdd,Nat.reduceMul,Nat.reduceLeDiff,quietOp,blindOp,Int.reduceEq,Int.reduceLT,Int.reduceLE,Nat.reduceLT,tiA, List.mem_cons, List.not_mem_nil, or_false, forall_eq_or_imp, forall_eq, Array.size_empty]
    have hnvB : Rd 1 (Hc.drop (H.next + 1)) nv (seqL 1 (n - 1)).length (seqL 1 (n - 1)) := by
      rw [hnl]
      exact (hfc.same (H' := Hc.drop (H.next + 1)) fun i hi _ => by rw [AH.drop_row, if_neg (by omega)]).rd
    refine (orders_c 212 [.pointer (some ⟨H.next, 0, none⟩), .pointer (some ⟨H.next + 1, 0, none⟩)] (fun y => !balD n y) (fun y => ∀ x ∈ y, 0 ≤ x ∧ x < n) (FdS n (H.next + 1) Hc) (H.next + 2) nv (seqL 1 (n - 1)) (Hc.drop (H.next + 1)) hnvB (by omega) ?_ ?_ ?_ ?_ (n - 1) [] [] (.slice none 0 0) Hc (by simp [hnl]) ⟨Nat.le_refl _, fun i _ _ => rfl, _, hc1, .inl ⟨by simp, rfl⟩⟩ (by simp) (by omega) (Per.nil _ _) (by simp)).mono ?_
    · rintro es H' ⟨_, h2, _⟩ i r hir
      rw [AH.drop_row] at hir
      split at hir
      · cases hir
      · rename_i hne; rw [h2 i (scc _ _ hir) hne]; exact hir
    · rintro es Ha Hb ⟨a1, a2, fv, a3, a4⟩ hn2 hr2
      refine ⟨by omega, fun i hi1 hi => by rw [hr2 _ (by omega), a2 i hi1 hi], fv, by rw [hr2 _ (by omega)]; exact a3, ?_⟩
      rcases a4 with a4 | ⟨es', z, fi, b1, b2, b3, b4, b5, b6, b7⟩
      · exact .inl a4
      · exact .inr ⟨es', z, fi, b1, b2, b3, by omega, b5, b6, by rw [hr2 _ (by omega)]; exact b7⟩
    · intro y x hy hx _ z hz
      rcases List.mem_append.1 hz with hz | hz
      · exact hy z hz
      · rw [List.mem_singleton] at hz
        subst hz
        have := mem_seqL hx
        omega
    · intro es y v Ha hS hall _ hyl hy hcp
      refine (fdClosure_c n hn _ _ Hc hc0 (by omega) (by omega) (by omega) es y v Ha hS (fun z hz => by have := hall z hz; simpa using this) hy (by omega) hcp).mono ?_
      rintro r Hb ⟨g1, g2, g3, g4⟩
      exact ⟨g1, g2, g3, fun i hi hi2 => g4 i hi2 (by omega)⟩
    · rintro rr H' ⟨n', rows', hcase⟩
      refine Holds.mp ?_
      unfold fdC fdR
      rw [hd, if_pos rfl, if_pos rfl, Int.toNat_natCast]
      have upF : ∀ H' : AH, Hc.next ≤ H'.next → (∀ i, i < Hc.next → ¬ i = H.next + 1 → H'.row i = Hc.row i) → Up H.next H H' := fun H' h1 h2 =>
        ⟨by omega, fun i hi => by rw [h2 i (by omega) (by omega), upc.row i (by omega), up1.row i hi]⟩
      rcases hcase with ⟨rfl, q1, q2⟩ | ⟨rfl, L1, z, L2, q1, q2, q3, q4⟩
      · obtain ⟨s1, s2, fv, s3, s4⟩ := q2
        have hnone : (digOrders (n - 1)).find? (balD n) = none := by
          rw [List.find?_eq_none]
          intro z hz
          have := q1 z hz
          simpa using this
        have hnil : fv = .slice none 0 0 := by
          rcases s4 with ⟨_, h⟩ | ⟨es', z, fi, e, hz, _⟩
          · exact h
          · have h5 : (!balD n z) = true := q1 z (by rw [← List.nil_append (ordN _ _ _), e]; simp)
            rw [hz] at h5; cases h5
        subst hnil
        rw [hnone]
        try simp (disch := first | omega | (simp only [L3] <;> omega)) only [Sall,evalOp,init,binA_s,binE,binI,unE,convE,okNil,builtE,gv,TD.isAgg,resV,↓reduceIte,Nat.reduceEqDiff,reduceCtorEq,Nat.reduceAdd,Nat.reduceMul,Nat.reduceLeDiff,quietOp,blindOp,Int.reduceEq,Int.reduceLT,Int.reduceLE,Nat.reduceLT,tiA, s3, binE, Option.isNone_none]
        exact ⟨_, rfl, upF _ s1 s2, ⟨rfl, .inl ⟨rfl, rfl⟩⟩⟩
      · obtain ⟨s1, s2, fv, s3, s4⟩ := q4
        have hz : balD n z = true := by simpa using q3
        have hsome : (digOrders (n - 1)).find? (balD n) = some z := by
          unfold digOrders
          rw [q1]
          exact find_first (fun w hw => by have := q2 w hw; simpa using this) hz
        rw [hsome]
        rcases s4 with ⟨h, _⟩ | ⟨es', z', fi, e, _, b3, b4, b5, b6, b7⟩
        · have := h z (by simp)
          rw [this] at hz; cases hz
        · have hzz : z' = z := by
            have h1 := congrArg List.getLast? e
            simp at h1
            exact h1.symm
          subst hzz
          subst b6
          try simp (disch := first | omega | (simp only [L3] <;> omega)) only [Sall,evalOp,init,binA_s,binE,binI,unE,convE,okNil,builtE,gv,TD.isAgg,resV,↓reduceIte,Nat.reduceEqDiff,reduceCtorEq,Nat.reduceAdd,Nat.reduceMul,Nat.reduceLeDiff,quietOp,blindOp,Int.reduceEq,Int.reduceLT,Int.reduceLE,Nat.reduceLT,tiA, s3, binE]
          exact ⟨_, rfl, upF _ s1 s2, ⟨by simp, .inr ⟨fi, by omega, b4, rfl, b7⟩⟩⟩
theorem specFirstDigitOrder_c (q : Int) (H : AH) (hq : -9223372036854775808 ≤ q ∧ q ≤ 9223372036854775807) :
    ACalls Tryz.prog 82 [.int .i64 q] H (fun r H' => ∃ u, r = .tuple #[u, .int .i64 (fdC q)] ∧ Up H.next H H' ∧ Fr 1 2 H.next H'.next H' u (fdR q).length (fdR q)) := by
  refine acalls_of_awp [.tmp 2, .tmp 3] Tryz.func82 (by kernel_rfl) rfl rfl (Nat.le_of_ble_eq_true rfl) (by kernel_rfl) ?_
  cases hd : isDig q with
  | false =>
    have h := of_decide_eq_false hd
    have e2 : (q != 2) = true := by rw [bne_iff_ne]; omega
    have e4 : (q != 4) = true := by rw [bne_iff_ne]; omega
    have e8 : (q != 8) = true := by rw [bne_iff_ne]; omega
    try simp (disch := first | omega | (simp only [L3] <;> omega)) only [Sall,evalOp,init,binA_s,binE,binI,unE,convE,okNil,builtE,gv,TD.isAgg,resV,↓reduceIte,Nat.reduceEqDiff,reduceCtorEq,Nat.reduceAdd,Nat.reduceMul,Nat.reduceLeDiff,quietOp,blindOp,Int.reduceEq,Int.reduceLT,Int.reduceLE,Nat.reduceLT,tiA, e2, e4, e8]
    unfold fdC fdR
    rw [hd]
    exact ⟨_, rfl, Up.refl _ _, ⟨rfl, .inl ⟨rfl, rfl⟩⟩⟩
  | true =>
    obtain ⟨n, rfl, hn, hn2, hn8⟩ := isDig_cases hd
    have hneq : (((n : Int) != 2) = false ∧ ((n : Int) != 4) = true ∧ ((n : Int) != 8) = true) ∨ (((n : Int) != 2) = true ∧ ((n : Int) != 4) = false ∧ ((n : Int) != 8) = true) ∨ (((n : Int) != 2) = true ∧ ((n : Int) != 4) = true ∧ ((n : Int) != 8) = false) := by
      simp only [List.mem_cons, List.not_mem_nil, or_false] at hn
      rcases hn with rfl | rfl | rfl
      · exact .inl ⟨rfl, rfl, rfl⟩
      · exact .inr (.inl ⟨rfl, rfl, rfl⟩)
      · exact .inr (.inr ⟨rfl, rfl, rfl⟩)
    have em : ((n : Int) - 1) = ((n - 1 : Nat) : Int) := by omega
    have hmap := digOrders_map (n - 1)
    have hmem : ∀ z ∈ ordN (seqL 0 (n - 1)) (n - 1) [], z.length = n - 1 ∧ ∀ x ∈ z, 0 ≤ x ∧ x < (n : Int) - 1 := fun z hz => by
      obtain ⟨h1, h2⟩ := ordN_mem _ _ _ hz
      refine ⟨by rw [h1]; simp, fun x hx => ?_⟩
      rcases h2 x hx with h3 | h3
      · simp at h3
      · have := mem_seqL h3; omega
    have hlenL : (ordN (seqL 0 (n - 1)) (n - 1) []).length ≤ 16777216 := by
      refine Nat.le_trans (seq_len_le _ _ _) ?_
      rw [seqL_length]
      exact Nat.le_trans (Nat.pow_le_pow_left (show n - 1 ≤ 8 by omega) _) (Nat.le_trans (Nat.pow_le_pow_right (by omega) (show n - 1 ≤ 8 by omega)) (by decide))
    unfold fdC fdR
    rw [hd, if_pos rfl, if_pos rfl, Int.toNat_natCast, hmap]
    have orders := l09Orders_c (n - 1) (by omega) (n - 1) [] (.slice (some ⟨H.next, 0, some 1⟩) 0 0) H.next (H.next + 1) (H.push ⟨2, true, []⟩) (by simp) ⟨rfl, .inr ⟨H.next, by omega, by omega, rfl, by rw [AH.push_row, if_pos rfl]; rfl⟩⟩ (by omega) (by rw [AH.push_next]; omega)
    revert orders hmem hlenL
    generalize ordN (seqL 0 (n - 1)) (n - 1) [] = L
    intro hmem hlenL orders
    refine Holds.mp ?_
    rcases hneq with ⟨e2, e4, e8⟩ | ⟨e2, e4, e8⟩ | ⟨e2, e4, e8⟩ <;> rw [holds_def]
    all_goals
      try simp (disch := first | omega | (simp only [L3] <;> omega)) only [Sall,evalOp,init,binA_s,binE,binI,unE,convE,okNil,builtE,gv,TD.isAgg,resV,↓reduceIte,Nat.reduceEqDiff,reduceCtorEq,Nat.reduceAdd,Nat.reduceMul,Nat.reduceLeDiff,quietOp,blindOp,Int.reduceEq,Int.reduceLT,Int.reduceLE,Nat.reduceLT,tiA, e2, e4, e8, w64, em, zeros_zero]
      refine orders.mono ?_
      rintro u H2 ⟨up2, hf⟩
      have n2 := up2.next
      rw [AH.push_next] at n2
      have u2 : Up H.next H H2 := ((Up.refl _ H).push (Nat.le_refl _) _).trans up2 (by rw [AH.push_next]; omega)
      refine Holds.mp ?_
      try simp (disch := first | omega | (simp only [L3] <;> omega)) only [Sall,evalOp,init,binA_s,binE,binI,unE,convE,okNil,builtE,gv,TD.isAgg,resV,↓reduceIte,Nat.reduceEqDiff,reduceCtorEq,Nat.reduceAdd,Nat.reduceMul,Nat.reduceLeDiff,quietOp,blindOp,Int.reduceEq,Int.reduceLT,Int.reduceLE,Nat.reduceLT,tiA, true_and]
      refine awp_loop (fun m t H' => ∃ i : Nat, m = L.length - i ∧ i ≤ L.length ∧ t 5 = .int .i64 i ∧ t 4 = u ∧ t 0 = .int .i64 n ∧ Up H.next H H' ∧ H2.next ≤ H'.next ∧ FrV 33 H.next H2.next H' u L ∧ (∀ j, j < i → balD n (up1 (L.getD j [])) = false)) L.length ?_ ?_
      · refine ⟨0, by omega, by omega, ?_⟩
        try simp (disch := first | omega | (simp only [L3] <;> omega)) only [Sall,evalOp,init,binA_s,binE,binI,unE,convE,okNil,builtE,gv,TD.isAgg,resV,↓reduceIte,Nat.reduceEqDiff,reduceCtorEq,Nat.reduceAdd,Nat.reduceMul,Nat.reduceLeDiff,quietOp,blindOp,Int.reduceEq,Int.reduceLT,Int.reduceLE,Nat.reduceLT,tiA, Int.natCast_zero, Nat.not_lt_zero, false_implies]
        exact ⟨u2, hf⟩
      · rintro m t H' ⟨i, hm, hiL, h5, h4, h0, hup, hnx, hfu, hall⟩
        have hlu := hfu.rd.len
        try simp (disch := first | omega | (simp only [L3] <;> omega)) only [Sall,evalOp,init,binA_s,binE,binI,unE,convE,okNil,builtE,gv,TD.isAgg,resV,↓reduceIte,Nat.reduceEqDiff,reduceCtorEq,Nat.reduceAdd,Nat.reduceMul,Nat.reduceLeDiff,quietOp,blindOp,Int.reduceEq,Int.reduceLT,Int.reduceLE,Nat.reduceLT,tiA, h5, h4, builtE, hlu]
        refine condC_dec (fun h => ?_) (fun h => ?_)
        · obtain ⟨hyl, hyx⟩ := hmem _ (getD_mem (ll := L) (a := i) (by omega))
          have hup1 := hup.next
          revert hyl hyx
          obtain ⟨y, ey⟩ : ∃ y, y = L.getD i [] := ⟨_, rfl⟩
          rw [← ey]
          intro hyl hyx
          try simp (disch := first | omega | (simp only [L3] <;> omega)) only [Sall,evalOp,init,binA_s,binE,binI,unE,convE,okNil,builtE,gv,TD.isAgg,resV,↓reduceIte,Nat.reduceEqDiff,reduceCtorEq,Nat.reduceAdd,Nat.reduceMul,Nat.reduceLeDiff,quietOp,blindOp,Int.reduceEq,Int.reduceLT,Int.reduceLE,Nat.reduceLT,tiA, h5, h4, h0, zeros_zero]
          refine awp_loop (fun z t H3 => ∃ (k : Nat) (w : Value) (lo hi : Nat), z = y.length - k ∧ k ≤ y.length ∧ t 7 = .int .i64 k ∧ t 6 = w ∧ t 5 = .int .i64 i ∧ t 4 = u ∧ t 0 = .int .i64 n ∧ H'.next ≤ lo ∧ lo ≤ hi ∧ hi ≤ H3.next ∧ (∀ z, z < H'.next → H3.row z = H'.row z) ∧ Fr 1 2 lo hi H3 w k (up1 (y.take k))) y.length ?_ ?_
          · refine ⟨0, .slice (some ⟨H'.next, 0, some 1⟩) 0 0, H'.next, H'.next + 1, by omega, by omega, ?_⟩
            try simp (disch := first | omega | (simp only [L3] <;> omega)) only [Sall,evalOp,init,binA_s,binE,binI,unE,convE,okNil,builtE,gv,TD.isAgg,resV,↓reduceIte,Nat.reduceEqDiff,reduceCtorEq,Nat.reduceAdd,Nat.reduceMul,Nat.reduceLeDiff,quietOp,blindOp,Int.reduceEq,Int.reduceLT,Int.reduceLE,Nat.reduceLT,tiA, Int.natCast_zero, h5, h4, h0]
            (repeat refine And.intro (by omega) ?_)
            exact ⟨fun z hz => by rw [if_neg (by omega)], rfl, .inr ⟨H'.next, by omega, by omega, rfl, by rw [AH.push_row, if_pos rfl]; rfl⟩⟩
          · rintro z t H3 ⟨k, w, lo, hi, hz, hky, h7, h6, h5, h4, h0, hlo, hlh, hhi, hs3, hfw⟩
            have hfu3 : FrV 33 H.next H2.next H3 u L := hfu.same fun z _ hz => hs3 z (by omega)
            obtain ⟨ai, ao, au, ac, ar, ax, am, rfl, har, hax, hsx, haok⟩ := hfu3.rd.get (j := i) (by omega)
            rw [← ey] at hsx
            have ham := hsx.lenK1
            subst ham
            try simp (disch := first | omega | (simp only [L3] <;> omega)) only [Sall,evalOp,init,binA_s,binE,binI,unE,convE,okNil,builtE,gv,TD.isAgg,resV,↓reduceIte,Nat.reduceEqDiff,reduceCtorEq,Nat.reduceAdd,Nat.reduceMul,Nat.reduceLeDiff,quietOp,blindOp,Int.reduceEq,Int.reduceLT,Int.reduceLE,Nat.reduceLT,tiA, h7, h5, h4, har, hax, haok, builtE, hsx.len]
            (repeat refine And.intro (by omega) ?_)
            refine condC_dec (fun hh => ?_) (fun hh => ?_)
            · obtain ⟨i7, o7, u7, c7, r7, rfl, hr7, hc7, hs7, hg7⟩ := hsx.get (by omega)
              have g1 := hs7 k (by omega)
              have hyk := hyx _ (show y.getD k 0 ∈ y by rw [List.getD_eq_getElem?_getD, List.getElem?_eq_getElem (by omega)]; exact List.getElem_mem _)
              have hsn := up1_snoc y k (by omega)
              have zz : zeros 1 [.int .i64 0] = [.int .i64 0] := rfl
              revert g1 hyk hsn
              generalize y.getD k 0 = yk
              intro g1 hyk hsn
              try simp (disch := first | omega | (simp only [L3] <;> omega)) only [Sall,evalOp,init,binA_s,binE,binI,unE,convE,okNil,builtE,gv,TD.isAgg,resV,↓reduceIte,Nat.reduceEqDiff,reduceCtorEq,Nat.reduceAdd,Nat.reduceMul,Nat.reduceLeDiff,quietOp,blindOp,Int.reduceEq,Int.reduceLT,Int.reduceLE,Nat.reduceLT,tiA, h7, h6, h5, h4, h0, har, hax, haok, hr7, g1, zz, slCells, w64]
              (repeat refine And.intro (by omega) ?_)
              obtain ⟨H4, e4'⟩ : ∃ H4, H4 = H3.push ⟨2, true, [.int .i64 (yk + 1)]⟩ := ⟨_, rfl⟩
              have n4 : H4.next = H3.next + 1 := by rw [e4']; rfl
              have s4 : ∀ i, i < H3.next → H4.row i = H3.row i := fun i hi => by rw [e4', AH.push_row, if_neg (by omega)]
              rw [← e4']
              clear e4'
              refine appE_fr (k := 1) (lo := lo) (hi := hi) (l := up1 (y.take k)) (m := [yk + 1]) (hfw.same fun i _ hi => s4 i (by omega)) rfl (by omega) rfl (by omega) (by decide) (by omega) (by omega) ?_
              intro v' H5 n5 s5 f5
              try simp (disch := first | omega | (simp only [L3] <;> omega)) only [Sall,evalOp,init,binA_s,binE,binI,unE,convE,okNil,builtE,gv,TD.isAgg,resV,↓reduceIte,Nat.reduceEqDiff,reduceCtorEq,Nat.reduceAdd,Nat.reduceMul,Nat.reduceLeDiff,quietOp,blindOp,Int.reduceEq,Int.reduceLT,Int.reduceLE,Nat.reduceLT,tiA, h7, h5, h4, h0, w64]
              refine ⟨y.length - (k + 1), by omega, k + 1, v', H4.next, H4.next + 1, rfl, by omega, rfl, rfl, by omega, by omega, by omega, fun z hz => by rw [s5 z (by omega) (by omega), s4 z (by omega), hs3 z hz], ?_⟩
              rw [hsn]; exact f5
            · have hk : k = y.length := by omega
              subst hk
              rw [List.take_length] at hfw
              have hol := up1_length y
              have hfw2 : Fr 1 2 lo hi H3 w (up1 y).length (up1 y) := by rw [hol]; exact hfw
              have hok : schedB n (up1 y).length (digL n (up1 y)) = true := digL_ok hn (fun x hx => by
                obtain ⟨x', hx', rfl⟩ := List.mem_map.1 hx
                have := hyx x' hx'
                omega) (by rw [hol]; omega)
              try simp (disch := first | omega | (simp only [L3] <;> omega)) only [Sall,evalOp,init,binA_s,binE,binI,unE,convE,okNil,builtE,gv,TD.isAgg,resV,↓reduceIte,Nat.reduceEqDiff,reduceCtorEq,Nat.reduceAdd,Nat.reduceMul,Nat.reduceLeDiff,quietOp,blindOp,Int.reduceEq,Int.reduceLT,Int.reduceLE,Nat.reduceLT,tiA, h6, h0]
              refine (l09Robin_c n w (up1 y) H3 (by omega) hfw2.rd (by omega)).ex ?_
              rintro sv H4 ⟨up4, hf4⟩
              have n4 := up4.next
              try simp (disch := first | omega | (simp only [L3] <;> omega)) only [Sall,evalOp,init,binA_s,binE,binI,unE,convE,okNil,builtE,gv,TD.isAgg,resV,↓reduceIte,Nat.reduceEqDiff,reduceCtorEq,Nat.reduceAdd,Nat.reduceMul,Nat.reduceLeDiff,quietOp,blindOp,Int.reduceEq,Int.reduceLT,Int.reduceLE,Nat.reduceLT,tiA, true_and]
              refine (l09Matrix_c n sv (up1 y).length (digL n (up1 y)) H4 hok hf4.rd (by omega)).mono ?_
              rintro mv H5 ⟨up5, hf5⟩
              have n5 := up5.next
              have hsq := carM_sq (rnd_toNat hok) (up1 y).length (Nat.le_refl _)
              refine Holds.mp ?_
              try simp (disch := first | omega | (simp only [L3] <;> omega)) only [Sall,evalOp,init,binA_s,binE,binI,unE,convE,okNil,builtE,gv,TD.isAgg,resV,↓reduceIte,Nat.reduceEqDiff,reduceCtorEq,Nat.reduceAdd,Nat.reduceMul,Nat.reduceLeDiff,quietOp,blindOp,Int.reduceEq,Int.reduceLT,Int.reduceLE,Nat.reduceLT,tiA, true_and]
              refine (l09Balanced_c mv n _ H5 hf5.rd hsq (by omega)).to ?_
              have hbal : balB (carM n (up1 y).length (digL n (up1 y)) (up1 y).length) = balD n (up1 y) := rfl
              rw [hbal]
              have old5 : ∀ z, z < H3.next → H5.row z = H3.row z := fun z hz => by rw [up5.row z (by omega), up4.row z hz]
              cases hb : balD n (up1 y) with
              | true =>
                have hfind := find_up (M := L) (i := i) (p := balD n) (by omega) (by rw [← ey]; exact hb) hall
                rw [← ey] at hfind
                rw [hfind]
                try simp (disch := first | omega | (simp only [L3] <;> omega)) only [Sall,evalOp,init,binA_s,binE,binI,unE,convE,okNil,builtE,gv,TD.isAgg,resV,↓reduceIte,Nat.reduceEqDiff,reduceCtorEq,Nat.reduceAdd,Nat.reduceMul,Nat.reduceLeDiff,quietOp,blindOp,Int.reduceEq,Int.reduceLT,Int.reduceLE,Nat.reduceLT,tiA, h6]
                refine ⟨_, rfl, ⟨by omega, fun z hz => by rw [old5 z (by omega), hs3 z (by omega), hup.row z hz]⟩, ?_⟩
                exact (hfw2.same fun z _ hz => old5 z (by omega)).wide (by omega) (by omega)
              | false =>
                try simp (disch := first | omega | (simp only [L3] <;> omega)) only [Sall,evalOp,init,binA_s,binE,binI,unE,convE,okNil,builtE,gv,TD.isAgg,resV,↓reduceIte,Nat.reduceEqDiff,reduceCtorEq,Nat.reduceAdd,Nat.reduceMul,Nat.reduceLeDiff,quietOp,blindOp,Int.reduceEq,Int.reduceLT,Int.reduceLE,Nat.reduceLT,tiA, h5, h4, h0, w64]
                refine ⟨L.length - (i + 1), by omega, i + 1, rfl, by omega, rfl, ⟨by omega, fun z hz => by rw [old5 z (by omega), hs3 z (by omega), hup.row z hz]⟩, by omega, hfu.same fun z _ hz => by rw [old5 z (by omega), hs3 z (by omega)], fun j hj => ?_⟩
                by_cases e : j = i
                · rw [e, ← ey]; exact hb
                · exact hall j (by omega)
        · have hi2 : i = L.length := by omega
          subst hi2
          rw [find_up_none hall]
          try simp (disch := first | omega | (simp only [L3] <;> omega)) only [Sall,evalOp,init,binA_s,binE,binI,unE,convE,okNil,builtE,gv,TD.isAgg,resV,↓reduceIte,Nat.reduceEqDiff,reduceCtorEq,Nat.reduceAdd,Nat.reduceMul,Nat.reduceLeDiff,quietOp,blindOp,Int.reduceEq,Int.reduceLT,Int.reduceLE,Nat.reduceLT,tiA, true_and]
          exact ⟨_, rfl, hup, ⟨rfl, .inl ⟨rfl, rfl⟩⟩⟩
end Go.Proofs.YtpienljnoaendaaGreat.A
end

section
namespace Go.Abs
def reoL (l : List Int) (y : List Int) : List Int := y.flatMap fun x => rnd l x.toNat
theorem reoL_snoc (l y : List Int) (x : Int) : reoL l (y ++ [x]) = reoL l y ++ rnd l x.toNat := by simp [reoL]
theorem rnd_len {l : List Int} {k i : Nat} (hl : l.length = k * 14) (hi : i < k) : (rnd l i).length = 14 := rnd_length l i k hl hi
theorem rnd_app0 {a b : List Int} (h : a.length = 14) : rnd (a ++ b) 0 = a := by
  unfold rnd
  rw [Nat.zero_mul, List.drop_zero, List.take_append_of_le_length (by omega), List.take_of_length_le (by omega)]
theorem rnd_app1 {a b : List Int} (h : a.length = 14) (i : Nat) : rnd (a ++ b) (i + 1) = rnd b i := by
  unfold rnd
  rw [show (i + 1) * 14 = 14 + i * 14 by omega, ← List.drop_drop, List.drop_left' h]
theorem rnd_reoL {l : List Int} {k : Nat} (hl : l.length = k * 14) : ∀ {y : List Int}, (∀ x ∈ y, 0 ≤ x ∧ x < (k : Int)) → ∀ (i : Nat), i < y.length → rnd (reoL l y) i = rnd l (y.getD i 0).toNat
  | [], _, i, h => by simp at h
  | x :: y, hy, i, h => by
    have hx := hy x List.mem_cons_self
    have h14 := rnd_len hl (show x.toNat < k by omega)
    have e : reoL l (x :: y) = rnd l x.toNat ++ reoL l y := by unfold reoL; rw [List.flatMap_cons]
    rw [e]
    cases i with
    | zero => rw [rnd_app0 h14]; rfl
    | succ i =>
      rw [rnd_app1 h14, rnd_reoL hl (fun z hz => hy z (List.mem_cons_of_mem _ hz)) i (by simpa using h)]
      rfl
theorem reoL_ok {n : Int} {k : Nat} {l : List Int} (hb : schedB n k l = true) (hl : l.length = k * 14) {y : List Int} (hy : ∀ x ∈ y, 0 ≤ x ∧ x < (k : Int)) (hyl : y.length ≤ 40) : schedB n y.length (reoL l y) = true := by
  obtain ⟨hn, _, hr⟩ := schedB_at hb
  unfold schedB
  rw [decide_eq_true hn, decide_eq_true hyl, Bool.true_and, Bool.true_and]
  refine all_true_of fun i hi => ?_
  rw [rnd_reoL hl hy i hi]
  have hm : y.getD i 0 ∈ y := by rw [List.getD_eq_getElem?_getD, List.getElem?_eq_getElem hi]; exact List.getElem_mem _
  have := hy _ hm
  exact hr _ (by omega)
def costO (n : Nat) (l y : List Int) : Int := costM (carM n y.length (reoL l y) y.length) n
def boStep (n : Nat) (l : List Int) (s : List Int × Int) (z : List Int) : List Int × Int := if s.2 < 0 ∨ costO n l z < s.2 then (z, costO n l z) else s
def boFold (n : Nat) (l : List Int) (zs : List (List Int)) : List Int × Int := zs.foldl (boStep n l) ([], -1)
theorem boFold_snoc (n : Nat) (l : List Int) (zs : List (List Int)) (z : List Int) : boFold n l (zs ++ [z]) = boStep n l (boFold n l zs) z := by simp [boFold]
theorem boFold_nil (n : Nat) (l : List Int) : boFold n l [] = ([], -1) := rfl
theorem foldl_mem {α β : Type} (f : α × β → α → α × β) (hf : ∀ s z, (f s z).1 = z ∨ (f s z).1 = s.1) : ∀ (zs : List α) (s : α × β), (zs.foldl f s).1 = s.1 ∨ (zs.foldl f s).1 ∈ zs
  | [], s => .inl rfl
  | z :: zs, s => by
    rw [List.foldl_cons]
    rcases foldl_mem f hf zs (f s z) with h | h
    · rcases hf s z with h2 | h2
      · right; rw [h, h2]; exact List.mem_cons_self
      · left; rw [h, h2]
    · right; exact List.mem_cons_of_mem _ h
theorem boFold_cons (n : Nat) (l : List Int) (z : List Int) (zs : List (List Int)) : boFold n l (z :: zs) = zs.foldl (boStep n l) (z, costO n l z) := by
  unfold boFold
  rw [List.foldl_cons]
  unfold boStep
  rw [if_pos (.inl (by show (-1 : Int) < 0; omega))]
theorem boFold_mem (n : Nat) (l : List Int) (zs : List (List Int)) (h : zs ≠ []) : (boFold n l zs).1 ∈ zs := by
  cases zs with
  | nil => exact absurd rfl h
  | cons z zs =>
    rw [boFold_cons]
    rcases foldl_mem (boStep n l) (fun s z => by unfold boStep; split <;> simp) zs (z, costO n l z) with h1 | h1
    · rw [h1]; exact List.mem_cons_self
    · exact List.mem_cons_of_mem _ h1
def boL (k : Nat) : List (List Int) := ordN (seqL 0 k) (k - 1) [0]
theorem boL_ne (k : Nat) (hk : 1 ≤ k) : boL k ≠ [] := by
  have key : ∀ (f : Nat) (y : List Int), f + y.length = k → (∀ x ∈ y, 0 ≤ x ∧ x < (k : Int)) → y.Nodup → ordN (seqL 0 k) f y ≠ [] := by
    intro f
    induction f with
    | zero => intro y _ _ _; simp [ordN]
    | succ f ih =>
      intro y hl hin hnd hcon
      have e : ordN (seqL 0 k) (f + 1) y = (seqL 0 k).flatMap fun x => if y.contains x = true then [] else ordN (seqL 0 k) f (y ++ [x]) := rfl
      rw [e, List.flatMap_eq_nil_iff] at hcon
      have hex : ∃ x ∈ seqL 0 k, y.contains x = false := by
        by_cases h : ∃ x ∈ seqL 0 k, y.contains x = false
        · exact h
        · exfalso
          have hsub : ∀ x ∈ seqL 0 k, x ∈ y := fun x hx => by
            by_cases hc : y.contains x = true
            · exact List.contains_iff_mem.1 hc
            · exact absurd ⟨x, hx, by simpa using hc⟩ h
          have hp := perm_of_nodup y (seqL 0 k) hnd (fun x hx => (mem_seqL_iff 0 k x).2 (by have := hin x hx; omega))
          have h2 : (seqL 0 k).length ≤ y.length := by
            by_cases hle : (seqL 0 k).length ≤ y.length
            · exact hle
            · have h3 := perm_of_nodup (seqL 0 k) y (seqL_nodup 0 k) hsub (by omega)
              have := h3.length_eq
              omega
          rw [seqL_length] at h2
          omega
      obtain ⟨x, hx, hc⟩ := hex
      have h1 := hcon x hx
      rw [hc, if_neg (by simp)] at h1
      refine ih (y ++ [x]) (by rw [List.length_append, List.length_singleton]; omega) (fun z hz => ?_) (nodup_snoc.2 ⟨hnd, fun hm => by rw [List.contains_iff_mem.2 hm] at hc; cases hc⟩) h1
      rcases List.mem_append.1 hz with h5 | h5
      · exact hin z h5
      · rw [List.mem_singleton] at h5; rw [h5]; have := (mem_seqL_iff 0 k x).1 hx; omega
  exact key (k - 1) [0] (by simp; omega) (by simp; omega) (by simp)
def boC (q : Int) (k : Nat) (l : List Int) : Int := if codeC q k l = 0 then (if 7 < k then 3 else 0) else codeC q k l
def boR (q : Int) (k : Nat) (l : List Int) : List Int := if boC q k l = 0 then (boFold q.toNat l (boL k)).1 else []
def boN (q : Int) (k : Nat) (l : List Int) : Int := if boC q k l = 0 then (boFold q.toNat l (boL k)).2 else 0
theorem boL_mem {k : Nat} (hk : 1 ≤ k) {z : List Int} (hz : z ∈ boL k) : z.length = k ∧ ∀ x ∈ z, 0 ≤ x ∧ x < (k : Int) := by
  obtain ⟨h1, h2⟩ := ordN_mem _ _ _ hz
  refine ⟨by rw [h1]; simp; omega, fun x hx => ?_⟩
  rcases h2 x hx with h3 | h3
  · rw [List.mem_singleton] at h3; omega
  · have := (mem_seqL_iff 0 k x).1 h3; omega
theorem boL_len (k : Nat) (hk : k ≤ 7) : (boL k).length ≤ 16777216 := by
  refine Nat.le_trans (seq_len_le _ _ _) ?_
  rw [seqL_length]
  exact Nat.le_trans (Nat.pow_le_pow_left (show k ≤ 8 by omega) _) (Nat.le_trans (Nat.pow_le_pow_right (by omega) (show k - 1 ≤ 8 by omega)) (by decide))
theorem codeC_rounds {q : Int} {k : Nat} {l : List Int} (h : codeC q k l = 0) : schedB q k l = true ∧ 1 ≤ k := by
  unfold codeC at h
  by_cases hb : schedB q k l = true
  · refine ⟨hb, ?_⟩
    obtain ⟨h2, _, _⟩ := schedB_at hb
    rw [if_pos hb] at h
    by_cases h3 : (decide (q.toNat % 2 = 1) || !robinB q.toNat k l) = true
    · rw [if_pos h3] at h; omega
    · have h4 : robinB q.toNat k l = true := by
        cases hr : robinB q.toNat k l with
        | true => rfl
        | false => rw [hr] at h3; simp at h3
      unfold robinB at h4
      have := of_decide_eq_true (Bool.and_eq_true_iff.1 h4).1
      omega
  · rw [if_neg hb] at h; omega
theorem boR_length (q : Int) (k : Nat) (l : List Int) : (boR q k l).length ≤ 7 := by
  unfold boR
  split
  · rename_i h
    have h0 : codeC q k l = 0 ∧ ¬ 7 < k := by
      unfold boC at h
      by_cases hc : codeC q k l = 0
      · rw [if_pos hc] at h
        by_cases h7 : 7 < k
        · rw [if_pos h7] at h; omega
        · exact ⟨hc, h7⟩
      · rw [if_neg hc] at h; exact absurd h hc
    have hk := (codeC_rounds h0.1).2
    have := (boL_mem hk (boFold_mem q.toNat l _ (boL_ne k hk))).1
    omega
  · simp
end Go.Abs
end

section
set_option maxRecDepth 100000
set_option maxHeartbeats 2000000
namespace Go.Proofs.YtpienljnoaendaaGreat.A
open Go Go.Abs Go.RowKit
theorem cloneNilR_c (H : AH) : ACalls Tryz.prog 276 [.slice none 0 0] H (is (.slice none 0 0) H) := by
  refine acalls_of_awp [.tmp 2] Tryz.func276 (by kernel_rfl) rfl rfl (Nat.le_of_ble_eq_true rfl) (by kernel_rfl) ?_
  try simp (disch := first | omega | (simp only [L3] <;> omega)) only [Sall,evalOp,init,binA_s,binE,binI,unE,convE,okNil,builtE,gv,TD.isAgg,resV,↓reduceIte,Nat.reduceEqDiff,reduceCtorEq,Nat.reduceAdd,Nat.reduceMul,Nat.reduceLeDiff,quietOp,blindOp,Int.reduceEq,Int.reduceLT,Int.reduceLE,Nat.reduceLT,tiA, binE, Option.isNone_none, is]
theorem with0_c (q : Int) (v : Value) (H : AH) (hone : v.oneCell' = true) : ACalls Tryz.prog 194 [.agg #[.int .i64 q, v], .slice none 0 0] H (is (.agg #[.int .i64 q, .slice none 0 0]) H) := by
  refine acalls_up (by simp [flat, Abs.scal]) (acalls_of_awp [.cell 4 26] Tryz.func194 (by kernel_rfl) rfl rfl (Nat.le_of_ble_eq_true rfl) (by kernel_rfl) ?_)
  try simp (disch := first | omega | (simp only [L3] <;> omega)) only [Sall,evalOp,init,binA_s,binE,binI,unE,convE,okNil,builtE,gv,TD.isAgg,resV,↓reduceIte,Nat.reduceEqDiff,reduceCtorEq,Nat.reduceAdd,Nat.reduceMul,Nat.reduceLeDiff,quietOp,blindOp,Int.reduceEq,Int.reduceLT,Int.reduceLE,Nat.reduceLT,tiA, hone]
  refine draw_id (by kernel_rfl) (by kernel_rfl) ?_
  try simp (disch := first | omega | (simp only [L3] <;> omega)) only [Sall,evalOp,init,binA_s,binE,binI,unE,convE,okNil,builtE,gv,TD.isAgg,resV,↓reduceIte,Nat.reduceEqDiff,reduceCtorEq,Nat.reduceAdd,Nat.reduceMul,Nat.reduceLeDiff,quietOp,blindOp,Int.reduceEq,Int.reduceLT,Int.reduceLE,Nat.reduceLT,tiA, hone]
  refine (cloneNilR_c _).to ?_
  try simp (disch := first | omega | (simp only [L3] <;> omega)) only [Sall,evalOp,init,binA_s,binE,binI,unE,convE,okNil,builtE,gv,TD.isAgg,resV,↓reduceIte,Nat.reduceEqDiff,reduceCtorEq,Nat.reduceAdd,Nat.reduceMul,Nat.reduceLeDiff,quietOp,blindOp,Int.reduceEq,Int.reduceLT,Int.reduceLE,Nat.reduceLT,tiA, hone]
  refine ⟨.inr (.inr (LE.refl _)), .inr (.inl (by kernel_rfl)), ?_⟩
  exact (((Up.refl _ H).push (by omega) _).push (Nat.le_succ _) _).set (by omega) _
theorem l01Reordered_c (n : Nat) (v : Value) (k : Nat) (l : List Int) (w : Value) (y : List Int) (H : AH) (hv : Rd 14 H v k l) (hw : Rd 1 H w y.length y) (hy : ∀ x ∈ y, 0 ≤ x ∧ x < (k : Int)) (hyl : y.length ≤ 40) (hk : k ≤ 4294967296) :
    ACalls Tryz.prog 101 [.agg #[.int .i64 n, v], w] H (FrS n y.length (reoL l y) H) := by
  refine ACalls.wf (by kernel_rfl) fun hs => acalls_of_awp [.cell 4 26] Tryz.func101 (by kernel_rfl) rfl rfl (Nat.le_of_ble_eq_true rfl) (by kernel_rfl) ?_
  have hone := hv.one
  try simp (disch := first | omega | (simp only [L3] <;> omega)) only [Sall,evalOp,init,binA_s,binE,binI,unE,convE,okNil,builtE,gv,TD.isAgg,resV,↓reduceIte,Nat.reduceEqDiff,reduceCtorEq,Nat.reduceAdd,Nat.reduceMul,Nat.reduceLeDiff,quietOp,blindOp,Int.reduceEq,Int.reduceLT,Int.reduceLE,Nat.reduceLT,tiA, hone, zeros_zero]
  refine awp_loop (fun m t H' => ∃ (c : Nat) (u : Value) (lo hi : Nat), m = y.length - c ∧ c ≤ y.length ∧ t 6 = .int .i64 c ∧ t 1 = w ∧ t 2 = .pointer (some ⟨H.next, 0, none⟩) ∧ t 4 = .pointer (some ⟨H.next + 1, 0, none⟩) ∧ t 5 = .pointer (some ⟨H.next + 3, 0, none⟩) ∧
    Up H.next H H' ∧ H'.row H.next = some ⟨26, true, [.int .i64 n, v]⟩ ∧ H'.row (H.next + 1) = some ⟨26, true, [.int .i64 0, .slice none 0 0]⟩ ∧ H'.row (H.next + 3) = some ⟨26, true, [.int .i64 n, u]⟩ ∧ Fr 14 69 lo hi H' u c (reoL l (y.take c)) ∧ H.next + 1 < lo ∧ hi ≤ H'.next ∧ (hi ≤ H.next + 3 ∨ H.next + 3 < lo) ∧ H.next + 4 ≤ H'.next ∧ Sc H') y.length ?_ ?_
  · refine ⟨0, .slice (some ⟨H.next + 2, 0, some 14⟩) 0 0, H.next + 2, H.next + 3, by omega, by omega, ?_⟩
    try simp (disch := first | omega | (simp only [L3] <;> omega)) only [Sall,evalOp,init,binA_s,binE,binI,unE,convE,okNil,builtE,gv,TD.isAgg,resV,↓reduceIte,Nat.reduceEqDiff,reduceCtorEq,Nat.reduceAdd,Nat.reduceMul,Nat.reduceLeDiff,quietOp,blindOp,Int.reduceEq,Int.reduceLT,Int.reduceLE,Nat.reduceLT,tiA, Int.natCast_zero, List.take_zero]
    refine ⟨((((((Up.refl _ H).push (by omega) _).push (Nat.le_succ _) _).push (Nat.le_succ_of_le (Nat.le_succ _)) _).push (Nat.le_succ_of_le (Nat.le_succ_of_le (Nat.le_succ _))) _).set (by omega) _), by rw [if_neg (by omega), if_neg (by omega)], ⟨by simp [reoL], .inr ⟨H.next + 2, by omega, by omega, rfl, ?_⟩⟩, by omega, by omega, ((((Sc.push hs _).push _).push _).push _).set _ _⟩
    simp [AH.push_row, AH.setCells_row, AH.push_next, reoL, ints]
  · rintro m t H' ⟨c, u, lo, hi, hm, hcn, h6, h1, h2, h4, h5, hup, hr0, hr1, hr3, hfr, hlo, hhi, hdj, hnx, hsc⟩
    have hup1 := hup.next
    have hw' : Rd 1 H' w y.length y := hw.same (hup.le hs).row
    try simp (disch := first | omega | (simp only [L3] <;> omega)) only [Sall,evalOp,init,binA_s,binE,binI,unE,convE,okNil,builtE,gv,TD.isAgg,resV,↓reduceIte,Nat.reduceEqDiff,reduceCtorEq,Nat.reduceAdd,Nat.reduceMul,Nat.reduceLeDiff,quietOp,blindOp,Int.reduceEq,Int.reduceLT,Int.reduceLE,Nat.reduceLT,tiA, h6, h1, builtE, hw'.len]
    refine condC_dec (fun h => ?_) (fun h => ?_)
    · have hv' : Rd 14 H' v k l := hv.same (hup.le hs).row
      obtain ⟨i, o, uu, cc, r, rfl, hr, hc', hg, _⟩ := hw'.get (by omega)
      have g1 := hg c (by omega)
      have hx := hy (y.getD c 0) (by rw [List.getD_eq_getElem?_getD, List.getElem?_eq_getElem (by omega)]; exact List.getElem_mem _)
      have htk : y.take (c + 1) = y.take c ++ [y.getD c 0] := by rw [List.take_add_one, List.getElem?_eq_getElem (by omega), List.getD_eq_getElem?_getD, List.getElem?_eq_getElem (by omega)]; rfl
      revert g1 hx htk
      generalize y.getD c 0 = x0
      intro g1 hx htk
      obtain ⟨x, rfl⟩ : ∃ x : Nat, x0 = x := ⟨x0.toNat, by omega⟩
      obtain ⟨i2, o2, u2, c2, r2, rfl, hr2, hc2, _, hg2⟩ := hv'.get (by omega)
      have hrl : (rnd l x).length = 14 := rnd_length l x k hv.1 (by omega)
      have hrl2 : ((l.drop (x * 14)).take 14).length = 14 := hrl
      have hsg := hg2 (x * 14) 14 (by omega)
      have hrd : ints ((l.drop (x * 14)).take 14) = ints (rnd l x) := rfl
      have hre := reoL_snoc l (y.take c) (x : Int)
      rw [Int.toNat_natCast] at hre
      refine draw_id (by kernel_rfl) (by kernel_rfl) ?_
      try simp (disch := first | omega | (simp only [L3] <;> omega)) only [Sall,evalOp,init,binA_s,binE,binI,unE,convE,okNil,builtE,gv,TD.isAgg,resV,↓reduceIte,Nat.reduceEqDiff,reduceCtorEq,Nat.reduceAdd,Nat.reduceMul,Nat.reduceLeDiff,quietOp,blindOp,Int.reduceEq,Int.reduceLT,Int.reduceLE,Nat.reduceLT,tiA, h6, h1, h2, h4, h5, hr0, hr3, hr, g1, hr2, hsg, hrd, hrl, hrl2, ints_length, slCells, zeros_one]
      (repeat refine And.intro (by omega) ?_)
      refine ⟨.inr (.inr (hsc.le _)), ?_⟩
      obtain ⟨H2, e2⟩ : ∃ H2, H2 = H'.push ⟨69, true, ints (rnd l x)⟩ := ⟨_, rfl⟩
      have n2 : H2.next = H'.next + 1 := by rw [e2]; rfl
      have s2 : ∀ i, i < H'.next → H2.row i = H'.row i := fun i hi => by rw [e2, AH.push_row, if_neg (by omega)]
      have sc2 : Sc H2 := by rw [e2]; exact hsc.push _
      rw [← e2]
      clear e2
      refine appE_frS (k := 14) (lo := lo) (hi := hi) (l := reoL l (y.take c)) (m := rnd l x) (hfr.same fun i _ hi => s2 i (by omega)) rfl (by omega) hrl (by omega) (by decide) (by omega) (by omega) sc2 ?_
      intro v' H3 n3 s3 sc3 f3
      have hr33 : H3.row (H.next + 3) = some ⟨26, true, [.int .i64 n, u]⟩ := by rw [s3 _ (by omega) (by omega), s2 _ (by omega), hr3]
      have o3 := f3.rd.one
      refine ⟨.inr (.inl (by kernel_rfl)), ?_⟩
      try simp (disch := first | omega | (simp only [L3] <;> omega)) only [Sall,evalOp,init,binA_s,binE,binI,unE,convE,okNil,builtE,gv,TD.isAgg,resV,↓reduceIte,Nat.reduceEqDiff,reduceCtorEq,Nat.reduceAdd,Nat.reduceMul,Nat.reduceLeDiff,quietOp,blindOp,Int.reduceEq,Int.reduceLT,Int.reduceLE,Nat.reduceLT,tiA, h6, h1, h2, h4, h5, hr33, o3, w64, List.set_cons_succ, List.set_cons_zero]
      refine ⟨.inr (.inl (by kernel_rfl)), y.length - (c + 1), by omega, c + 1, v', H2.next, H2.next + 1, rfl, by omega, rfl, Up.set ⟨by omega, fun i hi => by rw [s3 i (by omega) (by omega), s2 i (by omega), hup.row i hi]⟩ (by omega) _, ?_⟩
      have q0 : H3.row H.next = H'.row H.next := by rw [s3 _ (by omega) (by omega), s2 _ (by omega)]
      have q1 : H3.row (H.next + 1) = H'.row (H.next + 1) := by rw [s3 _ (by omega) (by omega), s2 _ (by omega)]
      refine ⟨by rw [q0, hr0], by rw [q1, hr1], rfl, ?_, by omega, by omega, by omega, by omega, sc3.set _ _⟩
      rw [htk, hre]
      exact f3.same fun i hi _ => by rw [AH.setCells_row, if_neg (by omega)]
    · have hc : c = y.length := by omega
      subst hc
      rw [List.take_length] at hfr
      try simp (disch := first | omega | (simp only [L3] <;> omega)) only [Sall,evalOp,init,binA_s,binE,binI,unE,convE,okNil,builtE,gv,TD.isAgg,resV,↓reduceIte,Nat.reduceEqDiff,reduceCtorEq,Nat.reduceAdd,Nat.reduceMul,Nat.reduceLeDiff,quietOp,blindOp,Int.reduceEq,Int.reduceLT,Int.reduceLE,Nat.reduceLT,tiA, h4, h5, hr1, hr3]
      refine ⟨u, rfl, hup.set (by omega) _, ?_⟩
      exact (hfr.same (H' := H'.setCells (H.next + 1) [.int .i64 n, u]) fun i hi _ => by rw [AH.setCells_row, if_neg (by omega)]).wide (by omega) (by rw [AH.setCells_next]; omega)
def BoS (n : Nat) (l : List Int) (mc fc : Nat) (Hc : AH) (es : List (List Int)) (H : AH) : Prop :=
  Hc.next ≤ H.next ∧ (∀ i, i < Hc.next → ¬ i = fc → ¬ i = mc → H.row i = Hc.row i) ∧ H.row mc = some ⟨2, true, [.int .i64 (boFold n l es).2]⟩ ∧ ∃ fv, H.row fc = some ⟨33, true, [fv]⟩ ∧
    ((es = [] ∧ fv = .slice none 0 0) ∨ ∃ fi, Hc.next ≤ fi ∧ fi < H.next ∧ fv = .slice (some ⟨fi, 0, some 1⟩) (boFold n l es).1.length (boFold n l es).1.length ∧ H.row fi = some ⟨2, true, ints (boFold n l es).1⟩)
theorem boClosure_c (n : Nat) (v : Value) (k : Nat) (l : List Int) (hb : schedB n k l = true) (hk : 1 ≤ k ∧ k ≤ 7) (sc mc fc : Nat) (Hc : AH) (hv : ∀ H', (∀ i, i < Hc.next → ¬ i = fc → ¬ i = mc → H'.row i = Hc.row i) → Rd 14 H' v k l) (hsc : Hc.row sc = some ⟨26, true, [.int .i64 n, v]⟩) (hscn : sc < Hc.next) (hne : ¬ sc = mc ∧ ¬ sc = fc ∧ ¬ mc = fc) (hmc : mc < Hc.next) (hfc : fc < Hc.next) (es : List (List Int)) (y : List Int) (w : Value) (H : AH) (hS : BoS n l mc fc Hc es H)
    (hy : ∀ x ∈ y, 0 ≤ x ∧ x < (k : Int)) (hyl : y.length = k) (hw : Cp H w y) :
    ACalls Tryz.prog 193 [w, .pointer (some ⟨sc, 0, none⟩), .pointer (some ⟨mc, 0, none⟩), .pointer (some ⟨fc, 0, none⟩)] H (fun r H' => r = .bool true ∧ BoS n l mc fc Hc (es ++ [y]) H' ∧ H.next ≤ H'.next ∧ ∀ i, i < H.next → ¬ i = fc → ¬ i = mc → H'.row i = H.row i) := by
  refine ACalls.wf (by kernel_rfl) fun hs => acalls_of_awp [.tmp 5] Tryz.func193 (by kernel_rfl) rfl rfl (Nat.le_of_ble_eq_true rfl) (by kernel_rfl) ?_
  obtain ⟨hnx, hrow, hm, fv, hfv, hcase⟩ := hS
  have hvH := hv H hrow
  have hone := hvH.one
  have hll := hvH.1
  have hsc' : H.row sc = some ⟨26, true, [.int .i64 n, v]⟩ := by rw [hrow _ hscn hne.2.1 hne.1]; exact hsc
  try simp (disch := first | omega | (simp only [L3] <;> omega)) only [Sall,evalOp,init,binA_s,binE,binI,unE,convE,okNil,builtE,gv,TD.isAgg,resV,↓reduceIte,Nat.reduceEqDiff,reduceCtorEq,Nat.reduceAdd,Nat.reduceMul,Nat.reduceLeDiff,quietOp,blindOp,Int.reduceEq,Int.reduceLT,Int.reduceLE,Nat.reduceLT,tiA, hsc']
  refine (with0_c n v H hone).to ?_
  try simp (disch := first | omega | (simp only [L3] <;> omega)) only [Sall,evalOp,init,binA_s,binE,binI,unE,convE,okNil,builtE,gv,TD.isAgg,resV,↓reduceIte,Nat.reduceEqDiff,reduceCtorEq,Nat.reduceAdd,Nat.reduceMul,Nat.reduceLeDiff,quietOp,blindOp,Int.reduceEq,Int.reduceLT,Int.reduceLE,Nat.reduceLT,tiA, hone, push_setCells, builtE, hw.1.len]
  obtain ⟨H1, e1⟩ : ∃ H1, H1 = H.push ⟨26, true, [.int .i64 n, .slice none 0 0]⟩ := ⟨_, rfl⟩
  have n1 : H1.next = H.next + 1 := by rw [e1]; rfl
  have s1 : ∀ i, i < H.next → H1.row i = H.row i := fun i hi => by rw [e1, AH.push_row, if_neg (by omega)]
  have r1 : H1.row H.next = some ⟨26, true, [.int .i64 n, .slice none 0 0]⟩ := by rw [e1, AH.push_row, if_pos rfl]
  have sc1 : Sc H1 := by rw [e1]; exact Sc.push hs _
  rw [← e1]
  clear e1
  refine awp_loop (fun m t H' => ∃ (c : Nat) (u : Value) (lo hi : Nat), m = y.length - c ∧ c ≤ y.length ∧ t 14 = .int .i64 c ∧ t 13 = .int .i64 y.length ∧ t 12 = w ∧ t 0 = w ∧ t 1 = .pointer (some ⟨sc, 0, none⟩) ∧ t 2 = .pointer (some ⟨mc, 0, none⟩) ∧ t 3 = .pointer (some ⟨fc, 0, none⟩) ∧ t 6 = .pointer (some ⟨H.next, 0, none⟩) ∧
    Up H.next H H' ∧ H.next < H'.next ∧ H'.row H.next = some ⟨26, true, [.int .i64 n, u]⟩ ∧ Fr 14 69 lo hi H' u c (reoL l (y.take c)) ∧ H.next < lo ∧ lo ≤ hi ∧ hi ≤ H'.next ∧ Sc H') y.length ?_ ?_
  · refine ⟨0, .slice none 0 0, H.next + 1, H.next + 1, by omega, by omega, ?_⟩
    try simp (disch := first | omega | (simp only [L3] <;> omega)) only [Sall,evalOp,init,binA_s,binE,binI,unE,convE,okNil,builtE,gv,TD.isAgg,resV,↓reduceIte,Nat.reduceEqDiff,reduceCtorEq,Nat.reduceAdd,Nat.reduceMul,Nat.reduceLeDiff,quietOp,blindOp,Int.reduceEq,Int.reduceLT,Int.reduceLE,Nat.reduceLT,tiA, Int.natCast_zero, List.take_zero]
    exact ⟨⟨by omega, s1⟩, by omega, r1, ⟨by simp [reoL], .inl ⟨rfl, rfl⟩⟩, by omega, by omega, sc1⟩
  · rintro m t H' ⟨c, u, lo, hi, hm', hcn, h14, h13, h12, h0, h1, h2, h3, h6, hup, hnx1, hr6, hfr, hlo, hlh, hhi, hsc1⟩
    have hup1 := hup.next
    try simp (disch := first | omega | (simp only [L3] <;> omega)) only [Sall,evalOp,init,binA_s,binE,binI,unE,convE,okNil,builtE,gv,TD.isAgg,resV,↓reduceIte,Nat.reduceEqDiff,reduceCtorEq,Nat.reduceAdd,Nat.reduceMul,Nat.reduceLeDiff,quietOp,blindOp,Int.reduceEq,Int.reduceLT,Int.reduceLE,Nat.reduceLT,tiA, h14, h13]
    refine condC_dec (fun h => ?_) (fun h => ?_)
    · have hw' : Rd 1 H' w y.length y := hw.1.same (hup.le hs).row
      have hv' : Rd 14 H' v k l := hvH.same (hup.le hs).row
      have hsc2 : H'.row sc = some ⟨26, true, [.int .i64 n, v]⟩ := by rw [hup.row _ (by omega)]; exact hsc'
      obtain ⟨i, o, uu, cc, r, rfl, hr, hc', hg, _⟩ := hw'.get (by omega)
      have g1 := hg c (by omega)
      have hx := hy (y.getD c 0) (by rw [List.getD_eq_getElem?_getD, List.getElem?_eq_getElem (by omega)]; exact List.getElem_mem _)
      have htk : y.take (c + 1) = y.take c ++ [y.getD c 0] := by rw [List.take_add_one, List.getElem?_eq_getElem (by omega), List.getD_eq_getElem?_getD, List.getElem?_eq_getElem (by omega)]; rfl
      revert g1 hx htk
      generalize y.getD c 0 = x0
      intro g1 hx htk
      obtain ⟨x, rfl⟩ : ∃ x : Nat, x0 = x := ⟨x0.toNat, by omega⟩
      obtain ⟨i2, o2, u2, c2, r2, rfl, hr2, hc2, _, hg2⟩ := hv'.get (by omega)
      have hrl : (rnd l x).length = 14 := rnd_length l x k hll (by omega)
      have hrl2 : ((l.drop (x * 14)).take 14).length = 14 := hrl
      have hsg := hg2 (x * 14) 14 (by omega)
      have hrd : ints ((l.drop (x * 14)).take 14) = ints (rnd l x) := rfl
      have hre := reoL_snoc l (y.take c) (x : Int)
      rw [Int.toNat_natCast] at hre
      try simp (disch := first | omega | (simp only [L3] <;> omega)) only [Sall,evalOp,init,binA_s,binE,binI,unE,convE,okNil,builtE,gv,TD.isAgg,resV,↓reduceIte,Nat.reduceEqDiff,reduceCtorEq,Nat.reduceAdd,Nat.reduceMul,Nat.reduceLeDiff,quietOp,blindOp,Int.reduceEq,Int.reduceLT,Int.reduceLE,Nat.reduceLT,tiA, h14, h13, h12, h0, h1, h2, h3, h6, hr, g1]
      (repeat refine And.intro (by omega) ?_)
      refine draw_id (by kernel_rfl) (by kernel_rfl) ?_
      try simp (disch := first | omega | (simp only [L3] <;> omega)) only [Sall,evalOp,init,binA_s,binE,binI,unE,convE,okNil,builtE,gv,TD.isAgg,resV,↓reduceIte,Nat.reduceEqDiff,reduceCtorEq,Nat.reduceAdd,Nat.reduceMul,Nat.reduceLeDiff,quietOp,blindOp,Int.reduceEq,Int.reduceLT,Int.reduceLE,Nat.reduceLT,tiA, h14, h13, h12, h0, h1, h2, h3, h6, hsc2, hr6, hr, g1, hr2, hsg, hrd, hrl, hrl2, ints_length, slCells, zeros_one]
      (repeat refine And.intro (by omega) ?_)
      refine ⟨.inr (.inr (hsc1.le _)), ?_⟩
      obtain ⟨H2, e2⟩ : ∃ H2, H2 = H'.push ⟨69, true, ints (rnd l x)⟩ := ⟨_, rfl⟩
      have n2 : H2.next = H'.next + 1 := by rw [e2]; rfl
      have s2 : ∀ i, i < H'.next → H2.row i = H'.row i := fun i hi => by rw [e2, AH.push_row, if_neg (by omega)]
      have sc2 : Sc H2 := by rw [e2]; exact hsc1.push _
      rw [← e2]
      clear e2
      refine appE_frS (k := 14) (lo := lo) (hi := hi) (l := reoL l (y.take c)) (m := rnd l x) (hfr.same fun i _ hi => s2 i (by omega)) rfl (by omega) hrl (by omega) (by decide) (by omega) (by omega) sc2 ?_
      intro v' H3 n3 s3 sc3 f3
      have hr33 : H3.row H.next = some ⟨26, true, [.int .i64 n, u]⟩ := by rw [s3 _ (by omega) (by omega), s2 _ (by omega), hr6]
      have o3 := f3.rd.one
      refine ⟨.inr (.inl (by kernel_rfl)), ?_⟩
      try simp (disch := first | omega | (simp only [L3] <;> omega)) only [Sall,evalOp,init,binA_s,binE,binI,unE,convE,okNil,builtE,gv,TD.isAgg,resV,↓reduceIte,Nat.reduceEqDiff,reduceCtorEq,Nat.reduceAdd,Nat.reduceMul,Nat.reduceLeDiff,quietOp,blindOp,Int.reduceEq,Int.reduceLT,Int.reduceLE,Nat.reduceLT,tiA, h14, h13, h12, h0, h1, h2, h3, h6, hr33, o3, w64, List.set_cons_succ, List.set_cons_zero]
      refine ⟨.inr (.inl (by kernel_rfl)), y.length - (c + 1), by omega, c + 1, v', H2.next, H2.next + 1, rfl, by omega, rfl, Up.set ⟨by omega, fun i hi => by rw [s3 i (by omega) (by omega), s2 i (by omega), hup.row i hi]⟩ (by omega) _, by omega, rfl, ?_, by omega, by omega, by omega, sc3.set _ _⟩
      rw [htk, hre]
      exact f3.same fun i hi _ => by rw [AH.setCells_row, if_neg (by omega)]
    · have hc : c = y.length := by omega
      subst hc
      rw [List.take_length] at hfr
      have hok := reoL_ok hb hll hy (by omega)
      have hou := hfr.rd.one
      try simp (disch := first | omega | (simp only [L3] <;> omega)) only [Sall,evalOp,init,binA_s,binE,binI,unE,convE,okNil,builtE,gv,TD.isAgg,resV,↓reduceIte,Nat.reduceEqDiff,reduceCtorEq,Nat.reduceAdd,Nat.reduceMul,Nat.reduceLeDiff,quietOp,blindOp,Int.reduceEq,Int.reduceLT,Int.reduceLE,Nat.reduceLT,tiA, h6, hr6, hou]
      refine (cost_c n u y.length (reoL l y) H' hok hfr.rd (by omega)).to ?_
      have hcO : costM (carM n y.length (reoL l y) y.length) n = costO n l y := rfl
      rw [hcO]
      have hm2 : H'.row mc = some ⟨2, true, [.int .i64 (boFold n l es).2]⟩ := by rw [hup.row _ (by omega)]; exact hm
      have hf2 : H'.row fc = some ⟨33, true, [fv]⟩ := by rw [hup.row _ (by omega)]; exact hfv
      have hcp : Cp H' w y := ⟨hw.1.same (hup.le hs).row, fun h0 => by omega⟩
      have hsnoc := boFold_snoc n l es y
      have yes : ∀ (H'' : AH), ((boFold n l es).2 < 0 ∨ costO n l y < (boFold n l es).2) → H'.next ≤ H''.next → (∀ i, i < H'.next → ¬ i = fc → ¬ i = mc → H''.row i = H'.row i) → H''.row mc = some ⟨2, true, [.int .i64 (costO n l y)]⟩ →
          (∃ fi, H'.next ≤ fi ∧ fi < H''.next ∧ H''.row fc = some ⟨33, true, [.slice (some ⟨fi, 0, some 1⟩) y.length y.length]⟩ ∧ H''.row fi = some ⟨2, true, ints y⟩) →
          BoS n l mc fc Hc (es ++ [y]) H'' ∧ H.next ≤ H''.next ∧ ∀ i, i < H.next → ¬ i = fc → ¬ i = mc → H''.row i = H.row i := by
        rintro H'' hyes a1 a2 a3 ⟨fi, b1, b2, b3, b4⟩
        have e : boFold n l (es ++ [y]) = (y, costO n l y) := by rw [hsnoc]; unfold boStep; rw [if_pos hyes]
        refine ⟨⟨by omega, fun i hi h1 h2 => by rw [a2 i (by omega) h1 h2, hup.row i (by omega), hrow i hi h1 h2], by rw [e]; exact a3, _, b3, .inr ⟨fi, by omega, b2, by rw [e], by rw [e]; exact b4⟩⟩, by omega, fun i hi h1 h2 => by rw [a2 i (by omega) h1 h2, hup.row i hi]⟩
      have clone : ∀ (Q : Value → AH → Prop), (∀ fi H'', H'.next ≤ fi → fi < H''.next → (∀ i, i < H'.next → H''.row i = H'.row i) → H'.next ≤ H''.next → H''.row fi = some ⟨2, true, ints y⟩ → Q (.slice (some ⟨fi, 0, some 1⟩) y.length y.length) H'') → ACalls Tryz.prog 196 [w] H' Q := by
        intro Q hQ
        refine (cloneI_c w y H' hcp (by omega)).mono ?_
        rintro x H3 ⟨up3, hf3⟩
        obtain ⟨fi, q1, q2, rfl, q3⟩ := hf3.get (by omega)
        exact hQ fi H3 q1 q2 (fun i hi => up3.row i hi) up3.next q3
      have nfm : ¬ fc = mc := fun e => hne.2.2 e.symm
      by_cases q1 : (boFold n l es).2 < 0
      · try simp (disch := first | omega | (simp only [L3] <;> omega)) only [Sall,evalOp,init,binA_s,binE,binI,unE,convE,okNil,builtE,gv,TD.isAgg,resV,↓reduceIte,Nat.reduceEqDiff,reduceCtorEq,Nat.reduceAdd,Nat.reduceMul,Nat.reduceLeDiff,quietOp,blindOp,Int.reduceEq,Int.reduceLT,Int.reduceLE,Nat.reduceLT,tiA, h0, h1, h2, h3, hm2, q1, decide_true]
        refine clone _ ?_
        intro fi H'' b1 b2 b3 b4 b5
        have hm3 : H''.row mc = some ⟨2, true, [.int .i64 (boFold n l es).2]⟩ := by rw [b3 _ (by omega)]; exact hm2
        have hf3 : H''.row fc = some ⟨33, true, [fv]⟩ := by rw [b3 _ (by omega)]; exact hf2
        refine Holds.mp ?_
        try simp (disch := first | omega | (simp only [L3] <;> omega)) only [Sall,evalOp,init,binA_s,binE,binI,unE,convE,okNil,builtE,gv,TD.isAgg,resV,↓reduceIte,Nat.reduceEqDiff,reduceCtorEq,Nat.reduceAdd,Nat.reduceMul,Nat.reduceLeDiff,quietOp,blindOp,Int.reduceEq,Int.reduceLT,Int.reduceLE,Nat.reduceLT,tiA, h2, h3, hm3, hf3, hne.2.2, nfm]
        obtain ⟨y1, _, _⟩ := yes ((H''.setCells fc [.slice (some ⟨fi, 0, some 1⟩) y.length y.length]).setCells mc [.int .i64 (costO n l y)]) (.inl q1) (by simp only [AH.setCells_next]; omega) (fun i hi h1 h2 => by rw [AH.setCells_row, if_neg h2, AH.setCells_row, if_neg h1, b3 i hi]) (by rw [AH.setCells_row, if_pos rfl, AH.setCells_row, if_neg hne.2.2, hm3]; rfl)
          ⟨fi, b1, by simp only [AH.setCells_next]; omega, by rw [AH.setCells_row, if_neg nfm, AH.setCells_row, if_pos rfl, hf3]; rfl, by rw [AH.setCells_row, if_neg (by omega), AH.setCells_row, if_neg (by omega)]; exact b5⟩
        exact ⟨y1, by omega, fun i hi h1 h2 => by rw [if_neg h2, if_neg h1, b3 i (by omega), hup.row i hi]⟩
      · by_cases q2 : costO n l y < (boFold n l es).2
        · try simp (disch := first | omega | (simp only [L3] <;> omega)) only [Sall,evalOp,init,binA_s,binE,binI,unE,convE,okNil,builtE,gv,TD.isAgg,resV,↓reduceIte,Nat.reduceEqDiff,reduceCtorEq,Nat.reduceAdd,Nat.reduceMul,Nat.reduceLeDiff,quietOp,blindOp,Int.reduceEq,Int.reduceLT,Int.reduceLE,Nat.reduceLT,tiA, h0, h1, h2, h3, hm2, q1, q2, decide_true, decide_false]
          refine clone _ ?_
          intro fi H'' b1 b2 b3 b4 b5
          have hm3 : H''.row mc = some ⟨2, true, [.int .i64 (boFold n l es).2]⟩ := by rw [b3 _ (by omega)]; exact hm2
          have hf3 : H''.row fc = some ⟨33, true, [fv]⟩ := by rw [b3 _ (by omega)]; exact hf2
          refine Holds.mp ?_
          try simp (disch := first | omega | (simp only [L3] <;> omega)) only [Sall,evalOp,init,binA_s,binE,binI,unE,convE,okNil,builtE,gv,TD.isAgg,resV,↓reduceIte,Nat.reduceEqDiff,reduceCtorEq,Nat.reduceAdd,Nat.reduceMul,Nat.reduceLeDiff,quietOp,blindOp,Int.reduceEq,Int.reduceLT,Int.reduceLE,Nat.reduceLT,tiA, h2, h3, hm3, hf3, hne.2.2, nfm]
          obtain ⟨y1, _, _⟩ := yes ((H''.setCells fc [.slice (some ⟨fi, 0, some 1⟩) y.length y.length]).setCells mc [.int .i64 (costO n l y)]) (.inr q2) (by simp only [AH.setCells_next]; omega) (fun i hi h1 h2 => by rw [AH.setCells_row, if_neg h2, AH.setCells_row, if_neg h1, b3 i hi]) (by rw [AH.setCells_row, if_pos rfl, AH.setCells_row, if_neg hne.2.2, hm3]; rfl)
            ⟨fi, b1, by simp only [AH.setCells_next]; omega, by rw [AH.setCells_row, if_neg nfm, AH.setCells_row, if_pos rfl, hf3]; rfl, by rw [AH.setCells_row, if_neg (by omega), AH.setCells_row, if_neg (by omega)]; exact b5⟩
          exact ⟨y1, by omega, fun i hi h1 h2 => by rw [if_neg h2, if_neg h1, b3 i (by omega), hup.row i hi]⟩
        · try simp (disch := first | omega | (simp only [L3] <;> omega)) only [Sall,evalOp,init,binA_s,binE,binI,unE,convE,okNil,builtE,gv,TD.isAgg,resV,↓reduceIte,Nat.reduceEqDiff,reduceCtorEq,Nat.reduceAdd,Nat.reduceMul,Nat.reduceLeDiff,quietOp,blindOp,Int.reduceEq,Int.reduceLT,Int.reduceLE,Nat.reduceLT,tiA, h0, h1, h2, h3, hm2, q1, q2, decide_false]
          have e : boFold n l (es ++ [y]) = boFold n l es := by rw [hsnoc]; unfold boStep; rw [if_neg (by omega)]
          refine ⟨⟨by omega, fun i hi h1 h2 => by rw [hup.row i (by omega), hrow i hi h1 h2], by rw [e]; exact hm2, fv, hf2, ?_⟩, by omega, fun i hi _ _ => hup.row i hi⟩
          rcases hcase with ⟨rfl, hnil⟩ | ⟨fi, c1, c2, c3, c4⟩
          · exact absurd (show (boFold n l []).2 < 0 by rw [boFold_nil]; decide) q1
          · right; rw [e]; exact ⟨fi, c1, by omega, c3, by rw [hup.row fi (by omega)]; exact c4⟩
theorem BestOrder_c (q : Int) (v : Value) (k : Nat) (l : List Int) (H : AH) (hv : Rd 14 H v k l) (hk : k ≤ 4294967296) :
    ACalls Tryz.prog 67 [.agg #[.int .i64 q, v]] H (fun r H' => ∃ u, r = .tuple #[u, .int .i64 (boN q k l), .int .i64 (boC q k l)] ∧ Up H.next H H' ∧ Fr 1 2 H.next H'.next H' u (boR q k l).length (boR q k l)) := by
  refine ACalls.wf (by kernel_rfl) fun hs => acalls_of_awp [.tmp 2, .tmp 3, .tmp 4] Tryz.func67 (by kernel_rfl) rfl rfl (Nat.le_of_ble_eq_true rfl) (by kernel_rfl) ?_
  have hone := hv.one
  have up : Up H.next H (H.push ⟨26, true, [.int .i64 q, v]⟩) := (Up.refl _ H).push (Nat.le_refl _) _
  have e1 : (H.push ⟨26, true, [.int .i64 q, v]⟩).row H.next = some ⟨26, true, [.int .i64 q, v]⟩ := by rw [AH.push_row, if_pos rfl]
  have n1 : (H.push ⟨26, true, [.int .i64 q, v]⟩).next = H.next + 1 := rfl
  have sc1 : Sc (H.push ⟨26, true, [.int .i64 q, v]⟩) := Sc.push hs _
  try simp (disch := first | omega | (simp only [L3] <;> omega)) only [Sall,evalOp,init,binA_s,binE,binI,unE,convE,okNil,builtE,gv,TD.isAgg,resV,↓reduceIte,Nat.reduceEqDiff,reduceCtorEq,Nat.reduceAdd,Nat.reduceMul,Nat.reduceLeDiff,quietOp,blindOp,Int.reduceEq,Int.reduceLT,Int.reduceLE,Nat.reduceLT,tiA, hone]
  revert up e1 n1 sc1
  generalize H.push ⟨26, true, [.int .i64 q, v]⟩ = H1
  intro up e1 n1 sc1
  have hv1 := hv.same (up.le hs).row
  refine (carryCode_c q v k l H1 hv1 hk).to ?_
  by_cases hok : codeC q k l = 0
  · obtain ⟨hb, hk1⟩ := codeC_rounds hok
    obtain ⟨h2, _, _⟩ := schedB_at hb
    obtain ⟨n, rfl⟩ : ∃ n : Nat, q = n := ⟨q.toNat, by omega⟩
    have e0 : ((0 : Int) == 0) = true := rfl
    have e00 : ((0 : Int) != 0) = false := rfl
    have e3 : ((3 : Int) != 0) = true := rfl
    rw [hok]
    by_cases h7 : 7 < k
    · have hbo : boC n k l = 3 := by unfold boC; rw [if_pos hok, if_pos h7]
      have h7' : (7 : Int) < (k : Int) := by omega
      unfold boR boN
      rw [hbo, if_neg (by decide), if_neg (by decide)]
      try simp (disch := first | omega | (simp only [L3] <;> omega)) only [Sall,evalOp,init,binA_s,binE,binI,unE,convE,okNil,builtE,gv,TD.isAgg,resV,↓reduceIte,Nat.reduceEqDiff,reduceCtorEq,Nat.reduceAdd,Nat.reduceMul,Nat.reduceLeDiff,quietOp,blindOp,Int.reduceEq,Int.reduceLT,Int.reduceLE,Nat.reduceLT,tiA, e0, e1, builtE, hv1.len, h7', decide_true, e3]
      exact ⟨_, rfl, up, ⟨rfl, .inl ⟨rfl, rfl⟩⟩⟩
    · have hbo : boC n k l = 0 := by unfold boC; rw [if_pos hok, if_neg h7]
      have h7' : ¬ (7 : Int) < (k : Int) := by omega
      unfold boR boN
      rw [hbo, if_pos rfl, if_pos rfl, Int.toNat_natCast]
      have zz : zeros 1 [.int .i64 0] = [.int .i64 0] := rfl
      try simp (disch := first | omega | (simp only [L3] <;> omega)) only [Sall,evalOp,init,binA_s,binE,binI,unE,convE,okNil,builtE,gv,TD.isAgg,resV,↓reduceIte,Nat.reduceEqDiff,reduceCtorEq,Nat.reduceAdd,Nat.reduceMul,Nat.reduceLeDiff,quietOp,blindOp,Int.reduceEq,Int.reduceLT,Int.reduceLE,Nat.reduceLT,tiA, e0, e1, builtE, hv1.len, h7', decide_false, e00, zz, slCells]
      obtain ⟨H2, e2⟩ : ∃ H2, H2 = (((H1.push ⟨33, true, [.slice none 0 0]⟩).push ⟨2, true, [.int .i64 0]⟩).setCells (H.next + 2) [.int .i64 (-1)]).push ⟨2, true, [.int .i64 0]⟩ := ⟨_, rfl⟩
      have up2 : Up H1.next H1 H2 := by rw [e2]; exact ((((Up.refl _ H1).push (by omega) _).push (by simp only [AH.push_next]; omega) _).set (by omega) _).push (by simp only [AH.push_next, AH.setCells_next]; omega) _
      have n2 : H2.next = H.next + 4 := by rw [e2]; simp only [AH.push_next, AH.setCells_next]; omega
      have r0 : H2.row H.next = some ⟨26, true, [.int .i64 n, v]⟩ := by rw [up2.row _ (by omega), e1]
      have r1 : H2.row (H.next + 1) = some ⟨33, true, [.slice none 0 0]⟩ := by rw [e2]; simp [AH.setCells_row, AH.setCells_next, AH.push_row, AH.push_next, n1]
      have r2 : H2.row (H.next + 2) = some ⟨2, true, [.int .i64 (-1)]⟩ := by rw [e2]; simp [AH.setCells_row, AH.setCells_next, AH.push_row, AH.push_next, n1]
      have r3 : H2.row (H.next + 3) = some ⟨2, true, [.int .i64 0]⟩ := by rw [e2]; simp [AH.setCells_row, AH.setCells_next, AH.push_row, AH.push_next, n1]
      have sc2 : Sc H2 := by rw [e2]; exact (((sc1.push _).push _).set _ _).push _
      have z1 : ¬ H.next = H.next + 1 + 2 := by omega
      have z2 : ¬ H.next = H.next + 1 + 1 := by omega
      try simp (disch := first | omega | (simp only [L3] <;> omega)) only [Sall,evalOp,init,binA_s,binE,binI,unE,convE,okNil,builtE,gv,TD.isAgg,resV,↓reduceIte,Nat.reduceEqDiff,reduceCtorEq,Nat.reduceAdd,Nat.reduceMul,Nat.reduceLeDiff,quietOp,blindOp,Int.reduceEq,Int.reduceLT,Int.reduceLE,Nat.reduceLT,tiA, n1, z1, z2, e1]
      rw [← e2]
      clear e2
      have upp : Up H.next H H2 := up.trans up2 (by omega)
      have hv2 := hv.same (upp.le hs).row
      refine (sizeR_c v k l H2 hv2 hk).to ?_
      try simp (disch := first | omega | (simp only [L3] <;> omega)) only [Sall,evalOp,init,binA_s,binE,binI,unE,convE,okNil,builtE,gv,TD.isAgg,resV,↓reduceIte,Nat.reduceEqDiff,reduceCtorEq,Nat.reduceAdd,Nat.reduceMul,Nat.reduceLeDiff,quietOp,blindOp,Int.reduceEq,Int.reduceLT,Int.reduceLE,Nat.reduceLT,tiA, w64]
      refine (numbersFrom_c 0 ((k : Int) - 1) k (by omega) (by omega) (by omega) H2).sc.mono ?_
      rintro nv Hc ⟨⟨upc, hfc⟩, scc⟩
      have nc := upc.next
      have hnl : (seqL 0 k).length = k := seqL_length _ _
      have hc0 : Hc.row H.next = some ⟨26, true, [.int .i64 n, v]⟩ := by rw [upc.row _ (by omega), r0]
      have hc1 : Hc.row (H.next + 1) = some ⟨33, true, [.slice none 0 0]⟩ := by rw [upc.row _ (by omega), r1]
      have hc2 : Hc.row (H.next + 2) = some ⟨2, true, [.int .i64 (-1)]⟩ := by rw [upc.row _ (by omega), r2]
      have hc3 : Hc.row (H.next + 3) = some ⟨2, true, [.int .i64 0]⟩ := by rw [upc.row _ (by omega), r3]
      refine Holds.mp ?_
      try simp (disch := first | omega | (simp only [L3] <;> omega)) only [Sall,evalOp,init,binA_s,binE,binI,unE,convE,okNil,builtE,gv,TD.isAgg,resV,↓reduceIte,Nat.reduceEqDiff,reduceCtorEq,Nat.reduceAdd,Nat.reduceMul,Nat.reduceLeDiff,quietOp,blindOp,Int.reduceEq,Int.reduceLT,Int.reduceLE,Nat.reduceLT,tiA, List.mem_cons, List.not_mem_nil, or_false, forall_eq_or_imp, forall_eq, Array.size_empty]
      have hnvB : Rd 1 ((Hc.drop (H.next + 1)).drop (H.next + 2)) nv (seqL 0 k).length (seqL 0 k) := by
        rw [hnl]
        exact (hfc.same (H' := (Hc.drop (H.next + 1)).drop (H.next + 2)) fun i hi _ => by rw [AH.drop_row, if_neg (by omega), AH.drop_row, if_neg (by omega)]).rd
      have hper : Per (H.next + 3) Hc (.slice (some ⟨H.next + 3, 0, some 1⟩) 1 1) [0] := Per.fr (ty := 2) (lo := H.next + 3) (hi := H.next + 4) ⟨rfl, .inr ⟨H.next + 3, by omega, by omega, rfl, hc3⟩⟩ (by omega) (by omega)
      have hvc : ∀ H' : AH, (∀ i, i < Hc.next → ¬ i = H.next + 1 → ¬ i = H.next + 2 → H'.row i = Hc.row i) → Rd 14 H' v k l := fun H' h => by
        refine hv.same fun i r hr => ?_
        have hi := hs _ _ hr
        rw [h i (by omega) (by omega) (by omega), upc.row i (by omega), upp.row i hi]
        exact hr
      refine (orders_c 193 [.pointer (some ⟨H.next, 0, none⟩), .pointer (some ⟨H.next + 2, 0, none⟩), .pointer (some ⟨H.next + 1, 0, none⟩)] (fun _ => true) (fun y => ∀ x ∈ y, 0 ≤ x ∧ x < k) (BoS n l (H.next + 2) (H.next + 1) Hc) (H.next + 3) nv (seqL 0 k) ((Hc.drop (H.next + 1)).drop (H.next + 2)) hnvB (by omega) ?_ ?_ ?_ ?_ (k - 1) [0] [] (.slice (some ⟨H.next + 3, 0, some 1⟩) 1 1) Hc (by rw [hnl, List.length_singleton]; omega) ⟨Nat.le_refl _, fun i _ _ _ => rfl, hc2, _, hc1, .inl ⟨rfl, rfl⟩⟩ (by simp) (by omega) hper (by simp; omega)).mono ?_
      · rintro es H' ⟨_, h2, _⟩ i r hir
        rw [AH.drop_row] at hir
        split at hir
        · cases hir
        · rename_i hne
          rw [AH.drop_row] at hir
          split at hir
          · cases hir
          · rename_i hne2; rw [h2 i (scc _ _ hir) hne2 hne]; exact hir
      · rintro es Ha Hb ⟨a1, a2, a3, fv, a4, a5⟩ hn2 hr2
        refine ⟨by omega, fun i hi1 hi hi2 => by rw [hr2 _ (by omega), a2 i hi1 hi hi2], by rw [hr2 _ (by omega)]; exact a3, fv, by rw [hr2 _ (by omega)]; exact a4, ?_⟩
        rcases a5 with a5 | ⟨fi, b1, b2, b3, b4⟩
        · exact .inl a5
        · exact .inr ⟨fi, b1, by omega, b3, by rw [hr2 _ (by omega)]; exact b4⟩
      · intro y x hy hx _ z hz
        rcases List.mem_append.1 hz with hz | hz
        · exact hy z hz
        · rw [List.mem_singleton] at hz
          subst hz
          have := (mem_seqL_iff 0 k _).1 hx
          omega
      · intro es y w Ha hS _ _ hyl hy hcp
        refine (boClosure_c n v k l hb (by omega) H.next (H.next + 2) (H.next + 1) Hc hvc hc0 (by omega) (by omega) (by omega) (by omega) es y w Ha hS hy (by omega) hcp).mono ?_
        rintro r Hb ⟨g1, g2, g3, g4⟩
        exact ⟨g1, g2, g3, fun i hi hi2 => g4 i hi2 (by omega) (by omega)⟩
      · rintro rr H' ⟨n', rows', hcase⟩
        refine Holds.mp ?_
        rcases hcase with ⟨rfl, _, s1, s2, s3, fv, s4, s5⟩ | ⟨_, L1, z, L2, _, _, q3, _⟩
        · have hfold : boFold n l ([] ++ ordN (seqL 0 k) (k - 1) [0]) = boFold n l (boL k) := rfl
          rw [hfold] at s3 s5
          rcases s5 with ⟨s6, _⟩ | ⟨fi, b1, b2, rfl, b4⟩
          · exact absurd s6 (by rw [List.nil_append]; exact boL_ne k (by omega))
          · have upE : Up H.next H H' := ⟨by omega, fun i hi => by rw [s2 i (by omega) (by omega) (by omega), upc.row i (by omega), upp.row i hi]⟩
            refine draw_id (by kernel_rfl) (by kernel_rfl) ?_
            try simp (disch := first | omega | (simp only [L3] <;> omega)) only [Sall,evalOp,init,binA_s,binE,binI,unE,convE,okNil,builtE,gv,TD.isAgg,resV,↓reduceIte,Nat.reduceEqDiff,reduceCtorEq,Nat.reduceAdd,Nat.reduceMul,Nat.reduceLeDiff,quietOp,blindOp,Int.reduceEq,Int.reduceLT,Int.reduceLE,Nat.reduceLT,tiA, s3, s4]
            exact ⟨_, rfl, upE, ⟨by simp, .inr ⟨fi, by omega, b2, rfl, b4⟩⟩⟩
        · cases q3
  · have ec := codeC_ne hok
    have e0 : (codeC q k l == 0) = false := by rw [beq_eq_false_iff_ne]; exact hok
    have hbo : boC q k l = codeC q k l := by unfold boC; rw [if_neg hok]
    unfold boR boN
    rw [hbo, if_neg hok, if_neg hok]
    try simp (disch := first | omega | (simp only [L3] <;> omega)) only [Sall,evalOp,init,binA_s,binE,binI,unE,convE,okNil,builtE,gv,TD.isAgg,resV,↓reduceIte,Nat.reduceEqDiff,reduceCtorEq,Nat.reduceAdd,Nat.reduceMul,Nat.reduceLeDiff,quietOp,blindOp,Int.reduceEq,Int.reduceLT,Int.reduceLE,Nat.reduceLT,tiA, ec, e0]
    exact ⟨_, rfl, up, ⟨rfl, .inl ⟨rfl, rfl⟩⟩⟩
theorem specBestOrder_c (q : Int) (v : Value) (k : Nat) (l : List Int) (H : AH) (hv : Rd 14 H v k l) (hk : k ≤ 4294967296) :
    ACalls Tryz.prog 68 [.agg #[.int .i64 q, v]] H (fun r H' => ∃ u, r = .tuple #[u, .int .i64 (boN q k l), .int .i64 (boC q k l)] ∧ Up H.next H H' ∧ Fr 1 2 H.next H'.next H' u (boR q k l).length (boR q k l)) := by
  refine ACalls.wf (by kernel_rfl) fun hs => acalls_of_awp [.tmp 2, .tmp 3, .tmp 4] Tryz.func68 (by kernel_rfl) rfl rfl (Nat.le_of_ble_eq_true rfl) (by kernel_rfl) ?_
  have hone := hv.one
  have up : Up H.next H (H.push ⟨26, true, [.int .i64 q, v]⟩) := (Up.refl _ H).push (Nat.le_refl _) _
  have e1 : (H.push ⟨26, true, [.int .i64 q, v]⟩).row H.next = some ⟨26, true, [.int .i64 q, v]⟩ := by rw [AH.push_row, if_pos rfl]
  have n1 : (H.push ⟨26, true, [.int .i64 q, v]⟩).next = H.next + 1 := rfl
  have sc1 : Sc (H.push ⟨26, true, [.int .i64 q, v]⟩) := Sc.push hs _
  try simp (disch := first | omega | (simp only [L3] <;> omega)) only [Sall,evalOp,init,binA_s,binE,binI,unE,convE,okNil,builtE,gv,TD.isAgg,resV,↓reduceIte,Nat.reduceEqDiff,reduceCtorEq,Nat.reduceAdd,Nat.reduceMul,Nat.reduceLeDiff,quietOp,blindOp,Int.reduceEq,Int.reduceLT,Int.reduceLE,Nat.reduceLT,tiA, hone]
  revert up e1 n1 sc1
  generalize H.push ⟨26, true, [.int .i64 q, v]⟩ = H1
  intro up e1 n1 sc1
  have hv1 := hv.same (up.le hs).row
  refine (l09Code_c q v k l H1 hv1 hk).to ?_
  by_cases hok : codeC q k l = 0
  · obtain ⟨hb, hk1⟩ := codeC_rounds hok
    obtain ⟨h2, _, _⟩ := schedB_at hb
    obtain ⟨n, rfl⟩ : ∃ n : Nat, q = n := ⟨q.toNat, by omega⟩
    have e0 : ((0 : Int) == 0) = true := rfl
    have e00 : ((0 : Int) != 0) = false := rfl
    have e3 : ((3 : Int) != 0) = true := rfl
    rw [hok]
    by_cases h7 : 7 < k
    · have hbo : boC n k l = 3 := by unfold boC; rw [if_pos hok, if_pos h7]
      have h7' : (7 : Int) < (k : Int) := by omega
      unfold boR boN
      rw [hbo, if_neg (by decide), if_neg (by decide)]
      try simp (disch := first | omega | (simp only [L3] <;> omega)) only [Sall,evalOp,init,binA_s,binE,binI,unE,convE,okNil,builtE,gv,TD.isAgg,resV,↓reduceIte,Nat.reduceEqDiff,reduceCtorEq,Nat.reduceAdd,Nat.reduceMul,Nat.reduceLeDiff,quietOp,blindOp,Int.reduceEq,Int.reduceLT,Int.reduceLE,Nat.reduceLT,tiA, e0, e1, builtE, hv1.len, h7', decide_true, e3]
      exact ⟨_, rfl, up, ⟨rfl, .inl ⟨rfl, rfl⟩⟩⟩
    · have hbo : boC n k l = 0 := by unfold boC; rw [if_pos hok, if_neg h7]
      have h7' : ¬ (7 : Int) < (k : Int) := by omega
      unfold boR boN
      rw [hbo, if_pos rfl, if_pos rfl, Int.toNat_natCast]
      have zz : zeros 1 [.int .i64 0] = [.int .i64 0] := rfl
      have hone1 := hv1.one
      have orders := l09Orders_c k (by omega) (k - 1) [0] (.slice (some ⟨H.next + 1, 0, some 1⟩) 1 1) (H.next + 1) (H.next + 2) (H1.push ⟨2, true, [.int .i64 0]⟩) (by simp; omega) ⟨rfl, .inr ⟨H.next + 1, by omega, by omega, rfl, by rw [AH.push_row, if_pos n1.symm]; rfl⟩⟩ (by omega) (by rw [AH.push_next]; omega)
      have hL1 : ordN (seqL 0 k) (k - 1) [0] = boL k := rfl
      rw [hL1] at orders
      have hmem : ∀ z ∈ boL k, z.length = k ∧ ∀ x ∈ z, 0 ≤ x ∧ x < (k : Int) := fun z hz => boL_mem hk1 hz
      have hL0 : 0 < (boL k).length := List.length_pos_iff.2 (boL_ne k hk1)
      have hlenL := boL_len k (by omega)
      revert orders hmem hL0 hlenL
      generalize boL k = L
      intro orders hmem hL0 hlenL
      try simp (disch := first | omega | (simp only [L3] <;> omega)) only [Sall,evalOp,init,binA_s,binE,binI,unE,convE,okNil,builtE,gv,TD.isAgg,resV,↓reduceIte,Nat.reduceEqDiff,reduceCtorEq,Nat.reduceAdd,Nat.reduceMul,Nat.reduceLeDiff,quietOp,blindOp,Int.reduceEq,Int.reduceLT,Int.reduceLE,Nat.reduceLT,tiA, e0, e1, builtE, hv1.len, h7', decide_false, e00, zz, slCells, n1]
      refine orders.sc.mono ?_
      rintro u H2 ⟨⟨up2, hfu⟩, sc2⟩
      have n2 := up2.next
      rw [AH.push_next] at n2
      have upp2 : Up H.next H H2 := up.trans (((Up.refl _ H1).push (Nat.le_refl _) _).trans up2 (by rw [AH.push_next]; omega)) (by omega)
      have hr0 : H2.row H.next = some ⟨26, true, [.int .i64 n, v]⟩ := by rw [up2.row _ (by rw [AH.push_next]; omega), AH.push_row, if_neg (by omega), e1]
      refine Holds.mp ?_
      obtain ⟨ai, ao, au, ac, ar, ax, am, eu, har, hax, hsx, haok⟩ := hfu.rd.get (j := 0) hL0
      have ham := hsx.lenK1
      subst ham
      obtain ⟨hy0, _⟩ := hmem _ (getD_mem (ll := L) (a := 0) hL0)
      have hlu0 := hfu.rd.len
      rw [eu] at hlu0
      have hax0 : ar.cells[ao + Int.toNat 0]? = some ax := hax
      have hL0' : (0 : Int) < (L.length : Int) := by omega
      try simp (disch := first | omega | (simp only [L3] <;> omega)) only [Sall,evalOp,init,binA_s,binE,binI,unE,convE,okNil,builtE,gv,TD.isAgg,resV,↓reduceIte,Nat.reduceEqDiff,reduceCtorEq,Nat.reduceAdd,Nat.reduceMul,Nat.reduceLeDiff,quietOp,blindOp,Int.reduceEq,Int.reduceLT,Int.reduceLE,Nat.reduceLT,tiA, eu, har, hax0, haok, hlu0, hL0']
      refine awp_loop (fun m t H' => ∃ (i : Nat) (z : List Int) (w : Value), m = L.length - i ∧ i ≤ L.length ∧ t 9 = .int .i64 i ∧ t 6 = u ∧ t 1 = .pointer (some ⟨H.next, 0, none⟩) ∧ t 7 = w ∧ t 8 = .int .i64 (boFold n l (L.take i)).2 ∧ Rd 1 H' w z.length z ∧ z.length = k ∧ Up H2.next H2 H' ∧ Sc H' ∧ (0 < i → z = (boFold n l (L.take i)).1)) L.length ?_ ?_
      · refine ⟨0, L.getD 0 [], ax, by omega, by omega, ?_⟩
        try simp (disch := first | omega | (simp only [L3] <;> omega)) only [Sall,evalOp,init,binA_s,binE,binI,unE,convE,okNil,builtE,gv,TD.isAgg,resV,↓reduceIte,Nat.reduceEqDiff,reduceCtorEq,Nat.reduceAdd,Nat.reduceMul,Nat.reduceLeDiff,quietOp,blindOp,Int.reduceEq,Int.reduceLT,Int.reduceLE,Nat.reduceLT,tiA, Int.natCast_zero, List.take_zero, boFold_nil, Nat.lt_irrefl, false_implies]
        exact ⟨eu.symm, hsx, hy0, Up.refl _ _, sc2⟩
      · rintro m t H' ⟨i, z, w, hm, hiL, h9, h6, h1, h7, h8, hw, hzl, hup, hsc, hz⟩
        have hup1 := hup.next
        have hfu3 : FrV 33 (H.next + 1) H2.next H' u L := hfu.same fun z _ hz => hup.row z hz
        have hlu := hfu3.rd.len
        try simp (disch := first | omega | (simp only [L3] <;> omega)) only [Sall,evalOp,init,binA_s,binE,binI,unE,convE,okNil,builtE,gv,TD.isAgg,resV,↓reduceIte,Nat.reduceEqDiff,reduceCtorEq,Nat.reduceAdd,Nat.reduceMul,Nat.reduceLeDiff,quietOp,blindOp,Int.reduceEq,Int.reduceLT,Int.reduceLE,Nat.reduceLT,tiA, h9, h6, builtE, hlu]
        refine condC_dec (fun h => ?_) (fun h => ?_)
        · obtain ⟨hyl, hyx⟩ := hmem _ (getD_mem (ll := L) (a := i) (by omega))
          obtain ⟨ai, ao, au, ac, ar, ax, am, eu, har, hax, hsx, haok⟩ := hfu3.rd.get (j := i) (by omega)
          have htk : L.take (i + 1) = L.take i ++ [L.getD i []] := take_snoc L [] i (by omega)
          revert hyl hyx htk hsx
          generalize L.getD i [] = y
          intro hyl hyx hsx htk
          have ham := hsx.lenK1
          subst ham
          have hr1 : H'.row H.next = some ⟨26, true, [.int .i64 n, v]⟩ := by rw [hup.row _ (by omega), hr0]
          have hv3 : Rd 14 H' v k l := hv.same fun i r hr => by rw [hup.row i (by have := hs _ _ hr; omega), upp2.row i (hs _ _ hr)]; exact hr
          refine draw_id (by kernel_rfl) (by kernel_rfl) ?_
          try simp (disch := first | omega | (simp only [L3] <;> omega)) only [Sall,evalOp,init,binA_s,binE,binI,unE,convE,okNil,builtE,gv,TD.isAgg,resV,↓reduceIte,Nat.reduceEqDiff,reduceCtorEq,Nat.reduceAdd,Nat.reduceMul,Nat.reduceLeDiff,quietOp,blindOp,Int.reduceEq,Int.reduceLT,Int.reduceLE,Nat.reduceLT,tiA, h9, h6, h1, eu, hr1, har, hax, haok]
          (repeat refine And.intro (by omega) ?_)
          refine (l01Reordered_c n v k l ax y H' hv3 hsx hyx (by omega) hk).sc.mono ?_
          rintro r3 H3 ⟨⟨sv, rfl, up3, hf3⟩, sc3⟩
          have n3 := up3.next
          refine Holds.mp ?_
          rw [holds_def]
          refine ⟨.inr (.inr (up3.le hsc)), ?_⟩
          have hok3 := reoL_ok hb hv.1 hyx (by omega)
          try simp (disch := first | omega | (simp only [L3] <;> omega)) only [Sall,evalOp,init,binA_s,binE,binI,unE,convE,okNil,builtE,gv,TD.isAgg,resV,↓reduceIte,Nat.reduceEqDiff,reduceCtorEq,Nat.reduceAdd,Nat.reduceMul,Nat.reduceLeDiff,quietOp,blindOp,Int.reduceEq,Int.reduceLT,Int.reduceLE,Nat.reduceLT,tiA, true_and]
          refine (l09Matrix_c n sv y.length (reoL l y) H3 hok3 hf3.rd (by omega)).sc.mono ?_
          rintro mv H4 ⟨⟨up4, hf4⟩, sc4⟩
          have n4 := up4.next
          have hsq := carM_sq (rnd_toNat hok3) y.length (Nat.le_refl _)
          refine Holds.mp ?_
          rw [holds_def]
          refine ⟨.inr (.inr (up4.le sc3)), ?_⟩
          try simp (disch := first | omega | (simp only [L3] <;> omega)) only [Sall,evalOp,init,binA_s,binE,binI,unE,convE,okNil,builtE,gv,TD.isAgg,resV,↓reduceIte,Nat.reduceEqDiff,reduceCtorEq,Nat.reduceAdd,Nat.reduceMul,Nat.reduceLeDiff,quietOp,blindOp,Int.reduceEq,Int.reduceLT,Int.reduceLE,Nat.reduceLT,tiA, true_and]
          refine (l09Cost_c mv n _ H4 hf4.rd hsq (by omega)).to ?_
          have hcO : costM (carM n y.length (reoL l y) y.length) n = costO n l y := rfl
          rw [hcO]
          refine ⟨.inr (.inr (LE.refl _)), ?_⟩
          have upE : Up H'.next H' H4 := up3.trans up4 (by omega)
          have hax4 : Rd 1 H4 ax y.length y := hsx.same (upE.le hsc).row
          have hw4 : Rd 1 H4 w z.length z := hw.same (upE.le hsc).row
          have hsnoc := boFold_snoc n l (L.take i) y
          rw [← htk] at hsnoc
          have upE2 : Up H2.next H2 H4 := ⟨by omega, fun i hi => by rw [upE.row i (by omega), hup.row i hi]⟩
          by_cases q1 : (boFold n l (L.take i)).2 < 0 ∨ costO n l y < (boFold n l (L.take i)).2
          · have e : boFold n l (L.take (i + 1)) = (y, costO n l y) := by rw [hsnoc]; unfold boStep; rw [if_pos q1]
            refine Holds.mp ?_
            by_cases q2 : (boFold n l (L.take i)).2 < 0 <;> rw [holds_def]
            · try simp (disch := first | omega | (simp only [L3] <;> omega)) only [Sall,evalOp,init,binA_s,binE,binI,unE,convE,okNil,builtE,gv,TD.isAgg,resV,↓reduceIte,Nat.reduceEqDiff,reduceCtorEq,Nat.reduceAdd,Nat.reduceMul,Nat.reduceLeDiff,quietOp,blindOp,Int.reduceEq,Int.reduceLT,Int.reduceLE,Nat.reduceLT,tiA, h9, h6, h1, h7, h8, eu, q2, decide_true]
              have fr4 : H4.row _ = _ := (upE.le hsc).row _ _ har
              try simp (disch := first | omega | (simp only [L3] <;> omega)) only [Sall,evalOp,init,binA_s,binE,binI,unE,convE,okNil,builtE,gv,TD.isAgg,resV,↓reduceIte,Nat.reduceEqDiff,reduceCtorEq,Nat.reduceAdd,Nat.reduceMul,Nat.reduceLeDiff,quietOp,blindOp,Int.reduceEq,Int.reduceLT,Int.reduceLE,Nat.reduceLT,tiA, h9, h6, h1, h7, h8, eu, fr4, hax, haok, w64]
              (repeat refine And.intro (by omega) ?_)
              refine ⟨L.length - (i + 1), by omega, i + 1, y, ax, rfl, by omega, rfl, rfl, by rw [e], hax4, by omega, upE2, sc4, fun _ => by rw [e]⟩
            · have q3 : costO n l y < (boFold n l (L.take i)).2 := by omega
              try simp (disch := first | omega | (simp only [L3] <;> omega)) only [Sall,evalOp,init,binA_s,binE,binI,unE,convE,okNil,builtE,gv,TD.isAgg,resV,↓reduceIte,Nat.reduceEqDiff,reduceCtorEq,Nat.reduceAdd,Nat.reduceMul,Nat.reduceLeDiff,quietOp,blindOp,Int.reduceEq,Int.reduceLT,Int.reduceLE,Nat.reduceLT,tiA, h9, h6, h1, h7, h8, eu, q2, q3, decide_true, decide_false]
              have fr4 : H4.row _ = _ := (upE.le hsc).row _ _ har
              try simp (disch := first | omega | (simp only [L3] <;> omega)) only [Sall,evalOp,init,binA_s,binE,binI,unE,convE,okNil,builtE,gv,TD.isAgg,resV,↓reduceIte,Nat.reduceEqDiff,reduceCtorEq,Nat.reduceAdd,Nat.reduceMul,Nat.reduceLeDiff,quietOp,blindOp,Int.reduceEq,Int.reduceLT,Int.reduceLE,Nat.reduceLT,tiA, h9, h6, h1, h7, h8, eu, fr4, hax, haok, w64]
              (repeat refine And.intro (by omega) ?_)
              refine ⟨L.length - (i + 1), by omega, i + 1, y, ax, rfl, by omega, rfl, rfl, by rw [e], hax4, by omega, upE2, sc4, fun _ => by rw [e]⟩
          · have e : boFold n l (L.take (i + 1)) = boFold n l (L.take i) := by rw [hsnoc]; unfold boStep; rw [if_neg q1]
            have q2 : ¬ (boFold n l (L.take i)).2 < 0 := fun h => q1 (.inl h)
            have q3 : ¬ costO n l y < (boFold n l (L.take i)).2 := fun h => q1 (.inr h)
            try simp (disch := first | omega | (simp only [L3] <;> omega)) only [Sall,evalOp,init,binA_s,binE,binI,unE,convE,okNil,builtE,gv,TD.isAgg,resV,↓reduceIte,Nat.reduceEqDiff,reduceCtorEq,Nat.reduceAdd,Nat.reduceMul,Nat.reduceLeDiff,quietOp,blindOp,Int.reduceEq,Int.reduceLT,Int.reduceLE,Nat.reduceLT,tiA, h9, h6, h1, h7, h8, eu, q2, q3, decide_false, w64]
            have hi0 : 0 < i := by
              by_cases h0 : i = 0
              · subst h0; exact absurd (show (boFold n l (L.take 0)).2 < 0 by rw [List.take_zero, boFold_nil]; decide) q2
              · omega
            refine ⟨L.length - (i + 1), by omega, i + 1, z, w, rfl, by omega, rfl, rfl, by rw [e], hw4, hzl, upE2, sc4, fun _ => by rw [e]; exact hz hi0⟩
        · have hi2 : i = L.length := by omega
          subst hi2
          have hzz := hz hL0
          rw [List.take_length] at hzz
          try simp (disch := first | omega | (simp only [L3] <;> omega)) only [Sall,evalOp,init,binA_s,binE,binI,unE,convE,okNil,builtE,gv,TD.isAgg,resV,↓reduceIte,Nat.reduceEqDiff,reduceCtorEq,Nat.reduceAdd,Nat.reduceMul,Nat.reduceLeDiff,quietOp,blindOp,Int.reduceEq,Int.reduceLT,Int.reduceLE,Nat.reduceLT,tiA, h7]
          refine (l01Own_c w z H' ⟨hw, fun h0 => by omega⟩ (by omega)).mono ?_
          rintro r H5 ⟨up5, hf5⟩
          have n5 := up5.next
          refine Holds.mp ?_
          try simp (disch := first | omega | (simp only [L3] <;> omega)) only [Sall,evalOp,init,binA_s,binE,binI,unE,convE,okNil,builtE,gv,TD.isAgg,resV,↓reduceIte,Nat.reduceEqDiff,reduceCtorEq,Nat.reduceAdd,Nat.reduceMul,Nat.reduceLeDiff,quietOp,blindOp,Int.reduceEq,Int.reduceLT,Int.reduceLE,Nat.reduceLT,tiA, h8, List.take_length]
          rw [← hzz]
          exact ⟨_, rfl, ⟨by omega, fun i hi => by rw [up5.row i (by omega), hup.row i (by omega), upp2.row i hi]⟩, hf5.wide (by omega) (Nat.le_refl _)⟩
  · have ec := codeC_ne hok
    have e0 : (codeC q k l == 0) = false := by rw [beq_eq_false_iff_ne]; exact hok
    have hbo : boC q k l = codeC q k l := by unfold boC; rw [if_neg hok]
    unfold boR boN
    rw [hbo, if_neg hok, if_neg hok]
    try simp (disch := first | omega | (simp only [L3] <;> omega)) only [Sall,evalOp,init,binA_s,binE,binI,unE,convE,okNil,builtE,gv,TD.isAgg,resV,↓reduceIte,Nat.reduceEqDiff,reduceCtorEq,Nat.reduceAdd,Nat.reduceMul,Nat.reduceLeDiff,quietOp,blindOp,Int.reduceEq,Int.reduceLT,Int.reduceLE,Nat.reduceLT,tiA, ec, e0]
    exact ⟨_, rfl, up, ⟨rfl, .inl ⟨rfl, rfl⟩⟩⟩
end Go.Proofs.YtpienljnoaendaaGreat.A
end

section
set_option maxRecDepth 100000
set_option maxHeartbeats 2000000
namespace Go.Proofs.YtpienljnoaendaaGreat.A
open Go Go.Abs Go.RowKit
def VL (n : Nat) (l : List Int) : Prop := ∀ x, x ∈ l → 0 ≤ x ∧ x < (n : Int)
theorem VL.getD {n : Nat} {l : List Int} (h : VL n l) {j : Nat} (hj : j < l.length) : 0 ≤ l.getD j 0 ∧ l.getD j 0 < (n : Int) := by
  rw [List.getD_eq_getElem?_getD, List.getElem?_eq_getElem hj]
  exact h _ (List.getElem_mem _)
theorem VL.set {n : Nat} {l : List Int} (h : VL n l) {x : Int} (hx : 0 ≤ x ∧ x < (n : Int)) (j : Nat) : VL n (l.set j x) := fun y hy => by
  rcases List.mem_or_eq_of_mem_set hy with h1 | h1
  · exact h y h1
  · rw [h1]; exact hx
theorem VL.app {n : Nat} {l m : List Int} (h : VL n l) (k : VL n m) : VL n (l ++ m) := fun y hy => by
  rcases List.mem_append.1 hy with h1 | h1
  · exact h y h1
  · exact k y h1
theorem VL.zeros {n : Nat} (h : 0 < n) (k : Nat) : VL n (List.replicate k 0) := fun y hy => by
  rw [List.eq_of_mem_replicate hy]; omega
theorem VL.nil (n : Nat) : VL n [] := fun y hy => by simp at hy
theorem l01Renamed_c (n k : Nat) (v pv : Value) (l y : List Int) (H : AH) (hn : 0 < n ∧ n ≤ 14) (hk : k ≤ 4294967290) (hv : Rd 14 H v k l) (hl : VL n l) (hp : Rd 1 H pv n y) (hy : VL n y) :
    ACalls Tryz.prog 120 [.agg #[.int .i64 n, v], pv] H (fun r H' => ∃ u l', r = .agg #[.int .i64 n, u] ∧ Ow H H' [.sl 14 69 u k (ints l')] ∧ VL n l') := by
  refine ACalls.wf (by kernel_rfl) fun hs => acalls_of_awp [.cell 4 26] Tryz.func120 (by kernel_rfl) rfl rfl (Nat.le_of_ble_eq_true rfl) (by kernel_rfl) ?_
  have hone := hv.one
  have hln0 := hv.1
  have hyl := hp.1
  have o1 := (((((Ow.refl hs).push ⟨26, true, [.int .i64 n, v]⟩).push ⟨26, true, [.int .i64 0, .slice none 0 0]⟩).pushSl (k := 14) (n := 0) (ty := 69) (vs := ints []) rfl).push ⟨26, true, [.int .i64 0, .slice none 0 0]⟩).putRow 3 rfl (cs' := [.int .i64 n, .slice (some ⟨H.next + 2, 0, some 14⟩) 0 0])
  try simp (disch := first | omega | (simp only [L3] <;> omega)) only [Sall,evalOp,init,binA_s,binE,binI,unE,convE,okNil,builtE,gv,TD.isAgg,resV,↓reduceIte,Nat.reduceEqDiff,reduceCtorEq,Nat.reduceAdd,Nat.reduceMul,Nat.reduceLeDiff,quietOp,blindOp,Int.reduceEq,Int.reduceLT,Int.reduceLE,Nat.reduceLT,tiA,tiXA, hone, zeros_zero]
  refine awp_loop (fun z t H' => ∃ (c : Nat) (u : Value) (l' : List Int), z = k - c ∧ c ≤ k ∧ t 6 = .int .i64 c ∧ t 1 = pv ∧ t 2 = .pointer (some ⟨H.next, 0, none⟩) ∧ t 4 = .pointer (some ⟨H.next + 1, 0, none⟩) ∧ t 5 = .pointer (some ⟨H.next + 3, 0, none⟩) ∧ VL n l' ∧
    Ow H H' [.row H.next ⟨26, true, [.int .i64 n, v]⟩, .row (H.next + 1) ⟨26, true, [.int .i64 0, .slice none 0 0]⟩, .sl 14 69 u c (ints l'), .row (H.next + 3) ⟨26, true, [.int .i64 n, u]⟩]) k ?_ ?_
  · refine ⟨0, .slice (some ⟨H.next + 2, 0, some 14⟩) 0 0, [], by omega, by omega, ?_⟩
    try simp (disch := first | omega | (simp only [L3] <;> omega)) only [Sall,evalOp,init,binA_s,binE,binI,unE,convE,okNil,builtE,gv,TD.isAgg,resV,↓reduceIte,Nat.reduceEqDiff,reduceCtorEq,Nat.reduceAdd,Nat.reduceMul,Nat.reduceLeDiff,quietOp,blindOp,Int.reduceEq,Int.reduceLT,Int.reduceLE,Nat.reduceLT,tiA,tiXA, Int.natCast_zero]
    exact ⟨VL.nil n, o1⟩
  · rintro z t H' ⟨c, u, l', hz, hc, h6, h1, h2, h4, h5, hV, o2⟩
    have g0 := (o2.rowAt 0 rfl).1
    have hv2 := hv.len
    try simp (disch := first | omega | (simp only [L3] <;> omega)) only [Sall,evalOp,init,binA_s,binE,binI,unE,convE,okNil,builtE,gv,TD.isAgg,resV,↓reduceIte,Nat.reduceEqDiff,reduceCtorEq,Nat.reduceAdd,Nat.reduceMul,Nat.reduceLeDiff,quietOp,blindOp,Int.reduceEq,Int.reduceLT,Int.reduceLE,Nat.reduceLT,tiA,tiXA, h6, h2, g0, hone, builtE, hv2]
    refine condC_dec (fun hh => ?_) (fun hh => ?_)
    · have o3 := (o2.push ⟨69, true, ints (List.replicate 14 0)⟩).putRow 4 rfl (cs' := ints (List.replicate 14 0))
      try simp (disch := first | omega | (simp only [L3] <;> omega)) only [Sall,evalOp,init,binA_s,binE,binI,unE,convE,okNil,builtE,gv,TD.isAgg,resV,↓reduceIte,Nat.reduceEqDiff,reduceCtorEq,Nat.reduceAdd,Nat.reduceMul,Nat.reduceLeDiff,quietOp,blindOp,Int.reduceEq,Int.reduceLT,Int.reduceLE,Nat.reduceLT,tiA,tiXA, h6]
      refine awp_loop (fun z2 t H2 => ∃ (a : Nat) (rd : List Int), z2 = n - a ∧ a ≤ n ∧ t 8 = .int .i64 a ∧ t 7 = .pointer (some ⟨H'.next, 0, none⟩) ∧ t 6 = .int .i64 c ∧ t 1 = pv ∧ t 2 = .pointer (some ⟨H.next, 0, none⟩) ∧ t 4 = .pointer (some ⟨H.next + 1, 0, none⟩) ∧ t 5 = .pointer (some ⟨H.next + 3, 0, none⟩) ∧ rd.length = 14 ∧ VL n rd ∧
        Ow H H2 [.row H.next ⟨26, true, [.int .i64 n, v]⟩, .row (H.next + 1) ⟨26, true, [.int .i64 0, .slice none 0 0]⟩, .sl 14 69 u c (ints l'), .row (H.next + 3) ⟨26, true, [.int .i64 n, u]⟩, .row H'.next ⟨69, true, ints rd⟩]) n ?_ ?_
      · refine ⟨0, List.replicate 14 0, by omega, by omega, ?_⟩
        try simp (disch := first | omega | (simp only [L3] <;> omega)) only [Sall,evalOp,init,binA_s,binE,binI,unE,convE,okNil,builtE,gv,TD.isAgg,resV,↓reduceIte,Nat.reduceEqDiff,reduceCtorEq,Nat.reduceAdd,Nat.reduceMul,Nat.reduceLeDiff,quietOp,blindOp,Int.reduceEq,Int.reduceLT,Int.reduceLE,Nat.reduceLT,tiA,tiXA, Int.natCast_zero, h6, h1, h2, h4, h5]
        exact ⟨VL.zeros hn.1 _, o3⟩
      · rintro z2 t H2 ⟨a, rd, hz2, ha, h8, h7, h6, h1, h2, h4, h5, hrl, hR, o4⟩
        have g0 := (o4.rowAt 0 rfl).1
        have g4 := (o4.rowAt 4 rfl).1
        try simp (disch := first | omega | (simp only [L3] <;> omega)) only [Sall,evalOp,init,binA_s,binE,binI,unE,convE,okNil,builtE,gv,TD.isAgg,resV,↓reduceIte,Nat.reduceEqDiff,reduceCtorEq,Nat.reduceAdd,Nat.reduceMul,Nat.reduceLeDiff,quietOp,blindOp,Int.reduceEq,Int.reduceLT,Int.reduceLE,Nat.reduceLT,tiA,tiXA, h8, h2, g0, hone]
        refine condC_dec (fun hh2 => ?_) (fun hh2 => ?_)
        · obtain ⟨i, o, uu, cc, r, rfl, hr, q1, hg, _⟩ := (hp.same (o4.old hs)).get (by omega)
          obtain ⟨i2, o2', u2, c2, r2, rfl, hr2, q2, hg2, _⟩ := (hv.same (o4.old hs)).get (by omega)
          have k1 := hg a (by omega)
          have k2 := hg2 (c * 14 + a) (by omega)
          rw [← Nat.add_assoc] at k2
          have b1 := hy.getD (j := a) (by omega)
          have b2 := hl.getD (j := c * 14 + a) (by omega)
          revert k1 k2 b1 b2
          generalize y.getD a 0 = x1
          generalize l.getD (c * 14 + a) 0 = x2
          intro k1 k2 b1 b2
          have k3 := hg x2.toNat (by omega)
          have b3 := hy.getD (j := x2.toNat) (by omega)
          try simp (disch := first | omega | (simp only [L3] <;> omega)) only [Sall,evalOp,init,binA_s,binE,binI,unE,convE,okNil,builtE,gv,TD.isAgg,resV,↓reduceIte,Nat.reduceEqDiff,reduceCtorEq,Nat.reduceAdd,Nat.reduceMul,Nat.reduceLeDiff,quietOp,blindOp,Int.reduceEq,Int.reduceLT,Int.reduceLE,Nat.reduceLT,tiA,tiXA, h8, h7, h6, h1, h2]
          refine draw_id (by kernel_rfl) (by kernel_rfl) ?_
          try simp (disch := first | omega | (simp only [L3] <;> omega)) only [Sall,evalOp,init,binA_s,binE,binI,unE,convE,okNil,builtE,gv,TD.isAgg,resV,↓reduceIte,Nat.reduceEqDiff,reduceCtorEq,Nat.reduceAdd,Nat.reduceMul,Nat.reduceLeDiff,quietOp,blindOp,Int.reduceEq,Int.reduceLT,Int.reduceLE,Nat.reduceLT,tiA,tiXA, h8, h7, h6, h1, h2, g0, g4, hone, hr, hr2, k1, k2, k3, hrl, ints_set, w64]
          (repeat refine And.intro (by omega) ?_)
          try simp (disch := first | omega | (simp only [L3] <;> omega)) only [Sall,evalOp,init,binA_s,binE,binI,unE,convE,okNil,builtE,gv,TD.isAgg,resV,↓reduceIte,Nat.reduceEqDiff,reduceCtorEq,Nat.reduceAdd,Nat.reduceMul,Nat.reduceLeDiff,quietOp,blindOp,Int.reduceEq,Int.reduceLT,Int.reduceLE,Nat.reduceLT,tiA,tiXA, h8, h7, h6, h1, h2, h4, h5, g0, g4, hone, hr, hr2, k1, k2, k3, hrl, ints_set, w64]
          have o5 := o4.putRow 4 rfl (cs' := ints (rd.set x1.toNat (y.getD x2.toNat 0)))
          exact ⟨.inr (.inl (by kernel_rfl)), n - (a + 1), by omega, a + 1, _, rfl, by omega, by omega, by rw [List.length_set]; exact hrl, hR.set b3 _, o5⟩
        · have ou := o4.one 2 rfl
          have g3 := (o4.rowAt 3 rfl).1
          try simp (disch := first | omega | (simp only [L3] <;> omega)) only [Sall,evalOp,init,binA_s,binE,binI,unE,convE,okNil,builtE,gv,TD.isAgg,resV,↓reduceIte,Nat.reduceEqDiff,reduceCtorEq,Nat.reduceAdd,Nat.reduceMul,Nat.reduceLeDiff,quietOp,blindOp,Int.reduceEq,Int.reduceLT,Int.reduceLE,Nat.reduceLT,tiA,tiXA, h5, h7, g3, g4, ou, slCells, hrl, zeros_one]
          (repeat refine And.intro (by omega) ?_)
          refine (o4.tmp ⟨69, true, ints rd⟩).app 2 (c := 1) (ms := ints rd) rfl rfl (by omega) (by rw [ints_length, hrl]) (by omega) (by decide) (by omega) ?_
          intro v' H3 n3 o6
          rw [ints_append] at o6
          have g3' := (o6.rowAt 3 rfl).1
          have ou' := o6.one 2 rfl
          try simp (disch := first | omega | (simp only [L3] <;> omega)) only [Sall,evalOp,init,binA_s,binE,binI,unE,convE,okNil,builtE,gv,TD.isAgg,resV,↓reduceIte,Nat.reduceEqDiff,reduceCtorEq,Nat.reduceAdd,Nat.reduceMul,Nat.reduceLeDiff,quietOp,blindOp,Int.reduceEq,Int.reduceLT,Int.reduceLE,Nat.reduceLT,tiA,tiXA, h6, h1, h2, h4, h5, g3', ou', w64]
          have o7 := o6.putRow 3 rfl (cs' := [.int .i64 n, v'])
          exact ⟨k - (c + 1), by omega, c + 1, _, _, rfl, by omega, by omega, hV.app hR, Ow.left (L := [_, _, _, _]) o7⟩
    · have hck : c = k := by omega
      subst hck
      have g3 := (o2.rowAt 3 rfl).1
      have g1 := (o2.rowAt 1 rfl).1
      have ou := o2.one 2 rfl
      have o3 := o2.putRow 1 rfl (cs' := [.int .i64 n, u])
      try simp (disch := first | omega | (simp only [L3] <;> omega)) only [Sall,evalOp,init,binA_s,binE,binI,unE,convE,okNil,builtE,gv,TD.isAgg,resV,↓reduceIte,Nat.reduceEqDiff,reduceCtorEq,Nat.reduceAdd,Nat.reduceMul,Nat.reduceLeDiff,quietOp,blindOp,Int.reduceEq,Int.reduceLT,Int.reduceLE,Nat.reduceLT,tiA,tiXA, h4, h5, g3, g1, ou]
      exact ⟨u, l', rfl, o3.sub (fun _ => 2) (fun j hj => by
          obtain rfl : j = 0 := by simp at hj; omega
          rfl) (fun x y hx hy _ => by simp at hx hy; omega), hV⟩
end Go.Proofs.YtpienljnoaendaaGreat.A
end

section
set_option maxRecDepth 100000
set_option maxHeartbeats 2000000
namespace Go.Proofs.YtpienljnoaendaaGreat.A
open Go Go.Abs Go.RowKit
theorem condC_cut {P : Program} {A : Code} {Q : Exit → T → AH → Prop} {N : T → AH → Prop} {t : T} {H : AH} {b : Bool} (M : T → AH → Prop) (hf : b = false → M t H) (ht : b = true → awp P A (seqQ M Q) t H) (hN : ∀ t H, M t H → N t H) :
    condC (some (.bool b)) (awp P A (seqQ N Q) t H) (N t H) := by
  cases b with
  | false => exact hN _ _ (hf rfl)
  | true => exact awp_mono A _ _ t H (seqQ_mono hN fun _ _ _ h => h) (ht rfl)
end Go.Proofs.YtpienljnoaendaaGreat.A
end

section
set_option maxRecDepth 100000
set_option maxHeartbeats 2000000
namespace Go.Proofs.YtpienljnoaendaaGreat.A
open Go Go.Abs Go.RowKit
structure Dq (cv : Value) (nb si : Nat) (H H' : AH) (L : List Th) : Prop where
  ex : ∃ B, SrcB cv nb si H B ∧ Ow B H' L
section
variable {cv : Value} {nb si : Nat} {H H' : AH} {L : List Th}
theorem Dq.start (h : Src cv nb si H) (sc : Sc H) : Dq cv nb si H H [] := ⟨⟨H, SrcB.refl h, Ow.refl sc⟩⟩
theorem Dq.src (h : Dq cv nb si H H' L) (hn : si < H.next) : Src cv nb si H' := by
  obtain ⟨B, b, o⟩ := h.ex; exact Ow.srcAt o b hn
theorem Dq.code (h : Dq cv nb si H H' L) (hx : CodeX cv nb si H) (sc : Sc H) : CodeX cv nb si H' := by
  obtain ⟨B, b, o⟩ := h.ex; exact hx.later fun i r hi hr => Ow.oldX o b sc i r hi hr
theorem Dq.sc (h : Dq cv nb si H H' L) : Sc H' := by obtain ⟨B, b, o⟩ := h.ex; exact o.sc
theorem Dq.le (h : Dq cv nb si H H' L) : H.next ≤ H'.next := by obtain ⟨B, b, o⟩ := h.ex; have := b.next; have := o.next; omega
theorem Dq.old (h : Dq cv nb si H H' L) (sc : Sc H) : ∀ i r, i ≠ si → H.row i = some r → H'.row i = some r := by
  obtain ⟨B, b, o⟩ := h.ex; exact Ow.oldX o b sc
theorem Dq.next (h : Dq cv nb si H H' L) (hn : si < H.next) {H2 : AH} (k : SrcB cv nb si H' H2) : Dq cv nb si H H2 L := by
  obtain ⟨B, b, o⟩ := h.ex
  obtain ⟨B2, b2, o2⟩ := Ow.src o (by rw [b.next]; exact hn) k
  exact ⟨B2, b.trans b2, o2⟩
theorem Dq.call (h : Dq cv nb si H H' L) (hn : si < H.next) {H2 H3 : AH} {M : List Th} (k : SrcB cv nb si H' H2) (o3 : Ow H2 H3 M) : Dq cv nb si H H3 (L ++ M) := by
  obtain ⟨B, b, o⟩ := h.ex
  obtain ⟨B2, b2, o2⟩ := Ow.srcCall o (by rw [b.next]; exact hn) k o3
  exact ⟨B2, b.trans b2, o2⟩
theorem Dq.bind (h : Dq cv nb si H H' L) (hn : si < H.next) {H3 : AH} {M : List Th} (k : Dq cv nb si H' H3 M) : Dq cv nb si H H3 (L ++ M) := by
  obtain ⟨B, b, o⟩ := k.ex
  exact h.call hn b o
theorem Dq.calls (h : Dq cv nb si H H' L) {H3 : AH} {M : List Th} (o3 : Ow H' H3 M) : Dq cv nb si H H3 (L ++ M) := by
  obtain ⟨B, b, o⟩ := h.ex
  exact ⟨B, b, o.call o3⟩
theorem Dq.map (h : Dq cv nb si H H' L) {H2 : AH} {M : List Th} (f : ∀ B, Ow B H' L → Ow B H2 M) : Dq cv nb si H H2 M := by
  obtain ⟨B, b, o⟩ := h.ex
  exact ⟨B, b, f B o⟩
theorem Dq.push (h : Dq cv nb si H H' L) (r : Row) : Dq cv nb si H (H'.push r) (L ++ [.row H'.next r]) := h.map fun B o => o.push r
theorem Dq.tmp (h : Dq cv nb si H H' L) (r : Row) : Dq cv nb si H (H'.push r) L := h.map fun B o => o.tmp r
theorem Dq.left {M : List Th} (h : Dq cv nb si H H' (L ++ M)) : Dq cv nb si H H' L := h.map fun B o => o.left
theorem Dq.putRow (h : Dq cv nb si H H' L) (k : Nat) {i : Nat} {ty : TypeId} {b : Bool} {cs cs' : List Value} (hk : L[k]? = some (.row i ⟨ty, b, cs⟩)) : Dq cv nb si H (H'.setCells i cs') (L.set k (.row i ⟨ty, b, cs'⟩)) := h.map fun B o => o.putRow k hk
theorem Dq.rowAt (h : Dq cv nb si H H' L) (k : Nat) {i : Nat} {r : Row} (hk : L[k]? = some (.row i r)) : H'.row i = some r := by
  obtain ⟨B, b, o⟩ := h.ex
  exact (o.rowAt k hk).1
theorem Dq.rd (h : Dq cv nb si H H' L) (k : Nat) {z n : Nat} {ty : TypeId} {v : Value} {l : List Int} (hk : L[k]? = some (.sl z ty v n (ints l))) : Rd z H' v n l := by
  obtain ⟨B, b, o⟩ := h.ex
  exact o.rd k hk
theorem Dq.rd2 (h : Dq cv nb si H H' L) (k : Nat) {ty ty' : TypeId} {v : Value} {ll : List (List Int)} (hk : L[k]? = some (.sl2 (Value.int .i64) ty ty' v ll)) : Rd2 1 H' v ll := by
  obtain ⟨B, b, o⟩ := h.ex
  exact o.rd2 k hk
theorem Dq.one (h : Dq cv nb si H H' L) (k : Nat) {z n : Nat} {ty : TypeId} {v : Value} {vs : List Value} (hk : L[k]? = some (.sl z ty v n vs)) : v.oneCell' = true := by
  obtain ⟨B, b, o⟩ := h.ex
  exact o.one k hk
theorem Dq.capOne (h : Dq cv nb si H H' L) (k : Nat) {z n : Nat} {ty : TypeId} {v : Value} {vs : List Value} (hk : L[k]? = some (.cap z ty v n vs)) : v.oneCell' = true := by
  obtain ⟨B, b, o⟩ := h.ex
  exact o.capOne k hk
theorem Dq.capRs (h : Dq cv nb si H H' L) (k : Nat) {z n : Nat} {ty : TypeId} {v : Value} {l : List Int} (hk : L[k]? = some (.cap z ty v n (ints l))) : Rs z H' v n l := by
  obtain ⟨B, b, o⟩ := h.ex
  exact o.capRs k hk
end
theorem freeVL {n : Nat} (h : 0 < n) : VL n (freeL n) := fun y hy => by
  unfold freeL at hy
  rw [List.mem_map] at hy
  obtain ⟨a, _, rfl⟩ := hy
  split <;> omega
theorem l01Made_c (n : Nat) (v : Value) (ll : List (List Int)) (H : AH) (hn : 0 < n ∧ n ≤ 14) (hk : ll.length ≤ 4294967290) (hv : Rd2 1 H v ll) (hl : ∀ j, j < ll.length → (ll.getD j []).length = 2 ∧ VL n (ll.getD j [])) :
    ACalls Tryz.prog 285 [.int .i64 n, v] H (fun r H' => ∃ rd, r = .agg (ints rd).toArray ∧ rd.length = 14 ∧ VL n rd ∧ Ow H H' []) := by
  refine ACalls.wf (by kernel_rfl) fun hs => acalls_of_awp [.cell 4 69] Tryz.func285 (by kernel_rfl) rfl rfl (Nat.le_of_ble_eq_true rfl) (by kernel_rfl) ?_
  have hone := hv.one
  have hlen := hv.len
  try simp (disch := first | omega | (simp only [L3] <;> omega)) only [Sall,evalOp,init,binA_s,binE,binI,unE,convE,okNil,builtE,gv,TD.isAgg,resV,↓reduceIte,Nat.reduceEqDiff,reduceCtorEq,Nat.reduceAdd,Nat.reduceMul,Nat.reduceLeDiff,quietOp,blindOp,Int.reduceEq,Int.reduceLT,Int.reduceLE,Nat.reduceLT,tiA,tiXA, true_and]
  have o1 := (Ow.refl hs).push ⟨69, true, ints (List.replicate 14 0)⟩
  revert o1
  generalize e1 : H.push ⟨69, true, ints (List.replicate 14 0)⟩ = H1
  intro o1
  refine (freeS_c n (by omega) H1).to ?_
  have hfl := freeL_length (n : Int)
  have o2 := (o1.push ⟨69, true, ints (List.replicate 14 0)⟩).putRow 1 rfl (cs' := ints (freeL n))
  try simp (disch := first | omega | (simp only [L3] <;> omega)) only [Sall,evalOp,init,binA_s,binE,binI,unE,convE,okNil,builtE,gv,TD.isAgg,resV,↓reduceIte,Nat.reduceEqDiff,reduceCtorEq,Nat.reduceAdd,Nat.reduceMul,Nat.reduceLeDiff,quietOp,blindOp,Int.reduceEq,Int.reduceLT,Int.reduceLE,Nat.reduceLT,tiA,tiXA, hfl]
  refine awp_loop (fun z t H' => ∃ (j : Nat) (rd : List Int), z = ll.length - j ∧ j ≤ ll.length ∧ t 6 = .int .i64 j ∧ t 1 = v ∧ t 5 = .pointer (some ⟨H1.next, 0, none⟩) ∧ t 4 = .pointer (some ⟨H.next, 0, none⟩) ∧ rd.length = 14 ∧ VL n rd ∧
    Ow H H' [.row H.next ⟨69, true, ints (List.replicate 14 0)⟩, .row H1.next ⟨69, true, ints rd⟩]) ll.length ?_ ?_
  · refine ⟨0, freeL n, by omega, by omega, ?_⟩
    try simp (disch := first | omega | (simp only [L3] <;> omega)) only [Sall,evalOp,init,binA_s,binE,binI,unE,convE,okNil,builtE,gv,TD.isAgg,resV,↓reduceIte,Nat.reduceEqDiff,reduceCtorEq,Nat.reduceAdd,Nat.reduceMul,Nat.reduceLeDiff,quietOp,blindOp,Int.reduceEq,Int.reduceLT,Int.reduceLE,Nat.reduceLT,tiA,tiXA, Int.natCast_zero]
    exact ⟨hfl, freeVL hn.1, o2⟩
  · rintro z t H' ⟨j, rd, hz, hj, h6, h1, h5, h4, hrl, hR, o3⟩
    have g0 := (o3.rowAt 0 rfl).1
    have g1 := (o3.rowAt 1 rfl).1
    try simp (disch := first | omega | (simp only [L3] <;> omega)) only [Sall,evalOp,init,binA_s,binE,binI,unE,convE,okNil,builtE,gv,TD.isAgg,resV,↓reduceIte,Nat.reduceEqDiff,reduceCtorEq,Nat.reduceAdd,Nat.reduceMul,Nat.reduceLeDiff,quietOp,blindOp,Int.reduceEq,Int.reduceLT,Int.reduceLE,Nat.reduceLT,tiA,tiXA, h6, h1, hlen, builtE]
    refine condC_dec (fun hh => ?_) (fun hh => ?_)
    · obtain ⟨ai, ao, au, ac, ar, ax, am, rfl, a1, a2, a3, a4⟩ := hv.get (j := j) (by omega)
      have a5 := a3.lenK1
      obtain ⟨l2, l3⟩ := hl j (by omega)
      rw [← a5] at l2
      subst l2
      obtain ⟨bi, bo, bu, bc, br, rfl, b1, b2, b3, b4⟩ := a3.get (by omega)
      have k0 : br.cells[bo + Int.toNat 0]? = _ := b3 0 (by omega)
      have k1 : br.cells[bo + Int.toNat 1]? = _ := b3 1 (by omega)
      have c0 := l3.getD (j := 0) (by omega)
      have c1 := l3.getD (j := 1) (by omega)
      revert k0 k1 c0 c1
      generalize (ll.getD j []).getD 0 0 = x0
      generalize (ll.getD j []).getD 1 0 = x1
      intro k0 k1 c0 c1
      have a1' := o3.old hs _ _ a1
      have b1' := o3.old hs _ _ b1
      try simp (disch := first | omega | (simp only [L3] <;> omega)) only [Sall,evalOp,init,binA_s,binE,binI,unE,convE,okNil,builtE,gv,TD.isAgg,resV,↓reduceIte,Nat.reduceEqDiff,reduceCtorEq,Nat.reduceAdd,Nat.reduceMul,Nat.reduceLeDiff,quietOp,blindOp,Int.reduceEq,Int.reduceLT,Int.reduceLE,Nat.reduceLT,tiA,tiXA, h6, h1, h5]
      refine draw_id (by kernel_rfl) (by kernel_rfl) ?_
      try simp (disch := first | omega | (simp only [L3] <;> omega)) only [Sall,evalOp,init,binA_s,binE,binI,unE,convE,okNil,builtE,gv,TD.isAgg,resV,↓reduceIte,Nat.reduceEqDiff,reduceCtorEq,Nat.reduceAdd,Nat.reduceMul,Nat.reduceLeDiff,quietOp,blindOp,Int.reduceEq,Int.reduceLT,Int.reduceLE,Nat.reduceLT,tiA,tiXA, h6, h1, h5, g1, a1', a2, a4, b1', k0, k1, hrl, ints_set]
      (repeat refine And.intro (by omega) ?_)
      try simp (disch := first | omega | (simp only [L3] <;> omega)) only [Sall,evalOp,init,binA_s,binE,binI,unE,convE,okNil,builtE,gv,TD.isAgg,resV,↓reduceIte,Nat.reduceEqDiff,reduceCtorEq,Nat.reduceAdd,Nat.reduceMul,Nat.reduceLeDiff,quietOp,blindOp,Int.reduceEq,Int.reduceLT,Int.reduceLE,Nat.reduceLT,tiA,tiXA, h6, h1, h5, g1, a1', a2, a4, b1', k0, k1, hrl, ints_set]
      have o4 := o3.putRow 1 rfl (cs' := ints (rd.set x0.toNat x1))
      have g1' := (o4.rowAt 1 rfl).1
      refine ⟨.inr (.inl (by kernel_rfl)), ?_⟩
      generalize H'.setCells H1.next (ints (rd.set x0.toNat x1)) = H2 at o4 g1' ⊢
      have a1' := o4.old hs _ _ a1
      have b1' := o4.old hs _ _ b1
      have hrl2 : (rd.set x0.toNat x1).length = 14 := by rw [List.length_set]; exact hrl
      refine draw_id (by kernel_rfl) (by kernel_rfl) ?_
      try simp (disch := first | omega | (simp only [L3] <;> omega)) only [Sall,evalOp,init,binA_s,binE,binI,unE,convE,okNil,builtE,gv,TD.isAgg,resV,↓reduceIte,Nat.reduceEqDiff,reduceCtorEq,Nat.reduceAdd,Nat.reduceMul,Nat.reduceLeDiff,quietOp,blindOp,Int.reduceEq,Int.reduceLT,Int.reduceLE,Nat.reduceLT,tiA,tiXA, h6, h1, h5, g1', a1', a2, a4, b1', k0, k1, hrl2, ints_set]
      (repeat refine And.intro (by omega) ?_)
      try simp (disch := first | omega | (simp only [L3] <;> omega)) only [Sall,evalOp,init,binA_s,binE,binI,unE,convE,okNil,builtE,gv,TD.isAgg,resV,↓reduceIte,Nat.reduceEqDiff,reduceCtorEq,Nat.reduceAdd,Nat.reduceMul,Nat.reduceLeDiff,quietOp,blindOp,Int.reduceEq,Int.reduceLT,Int.reduceLE,Nat.reduceLT,tiA,tiXA, h6, h1, h5, h4, g1', a1', a2, a4, b1', k0, k1, hrl2, ints_set, w64]
      exact ⟨.inr (.inl (by kernel_rfl)), ll.length - (j + 1), by omega, j + 1, (rd.set x0.toNat x1).set x1.toNat x0, rfl, by omega, by omega, by rw [List.length_set]; exact hrl2, (hR.set c1 _).set c0 _, o4.putRow 1 rfl⟩
    · have hje : j = ll.length := by omega
      subst hje
      try simp (disch := first | omega | (simp only [L3] <;> omega)) only [Sall,evalOp,init,binA_s,binE,binI,unE,convE,okNil,builtE,gv,TD.isAgg,resV,↓reduceIte,Nat.reduceEqDiff,reduceCtorEq,Nat.reduceAdd,Nat.reduceMul,Nat.reduceLeDiff,quietOp,blindOp,Int.reduceEq,Int.reduceLT,Int.reduceLE,Nat.reduceLT,tiA,tiXA, h4, h5, g0, g1, hrl]
      exact ⟨rd, rfl, hrl, hR, Ow.left (L := []) (o3.putRow 0 rfl)⟩
theorem l01DrawRound_c (cv : Value) (nb si n : Nat) (H : AH) (hn : 0 < n ∧ n ≤ 14) (hnb : nb ≤ 4611686018427387904) (hs : Src cv nb si H) (hc : CodeX cv nb si H) :
    ACalls Tryz.prog 221 [.pointer (some ⟨si, 0, none⟩), .int .i64 n] H (fun r H' => ∃ rd, r = .agg (ints rd).toArray ∧ rd.length = 14 ∧ VL n rd ∧ Dq cv nb si H H' []) := by
  refine ACalls.wf (by kernel_rfl) fun hsc => acalls_of_awp [.cell 4 69] Tryz.func221 (by kernel_rfl) rfl rfl (Nat.le_of_ble_eq_true rfl) (by kernel_rfl) ?_
  obtain ⟨_, _, hrow, _⟩ := id hs
  have hsi := hsc _ _ hrow
  clear hrow
  have d0 := (Dq.start hs hsc).push ⟨69, true, ints (List.replicate 14 0)⟩
  try simp (disch := first | omega | (simp only [L3] <;> omega)) only [Sall,evalOp,init,binA_s,binE,binI,unE,convE,okNil,builtE,gv,TD.isAgg,resV,↓reduceIte,Nat.reduceEqDiff,reduceCtorEq,Nat.reduceAdd,Nat.reduceMul,Nat.reduceLeDiff,quietOp,blindOp,Int.reduceEq,Int.reduceLT,Int.reduceLE,Nat.reduceLT,tiA,tiXA, true_and]
  generalize H.push ⟨69, true, ints (List.replicate 14 0)⟩ = H1 at d0 ⊢
  refine (l01DrawOrder_c cv nb si n H1 (by omega) hnb (d0.src hsi) (d0.code hc hsc)).mono ?_
  rintro u H2 ⟨l, B2, k2, o2, hp⟩
  rw [Int.toNat_natCast] at o2 hp
  have d1 := d0.call hsi k2 o2
  obtain ⟨ui, _, _, rfl, _⟩ := o2.get 0 rfl hn.1
  refine Holds.mp ?_
  try simp (disch := first | omega | (simp only [L3] <;> omega)) only [Sall,evalOp,init,binA_s,binE,binI,unE,convE,okNil,builtE,gv,TD.isAgg,resV,↓reduceIte,Nat.reduceEqDiff,reduceCtorEq,Nat.reduceAdd,Nat.reduceMul,Nat.reduceLeDiff,quietOp,blindOp,Int.reduceEq,Int.reduceLT,Int.reduceLE,Nat.reduceLT,tiA,tiXA, zeros_zero]
  have d2 := d1.map fun B o => o.pushSl2 (Value.int .i64) 33 2
  generalize H2.push ⟨33, true, []⟩ = H3 at d2 ⊢
  refine (l01Next_c cv nb si 3 H3 (by omega) hnb (d2.src hsi) (d2.code hc hsc)).ex ?_
  rintro x H4 ⟨hx, hS⟩
  have d3 := d2.next hsi hS
  refine Holds.mp ?_
  try simp (disch := first | omega | (simp only [L3] <;> omega)) only [Sall,evalOp,init,binA_s,binE,binI,unE,convE,okNil,builtE,gv,TD.isAgg,resV,↓reduceIte,Nat.reduceEqDiff,reduceCtorEq,Nat.reduceAdd,Nat.reduceMul,Nat.reduceLeDiff,quietOp,blindOp,Int.reduceEq,Int.reduceLT,Int.reduceLE,Nat.reduceLT,tiA,tiXA, true_and]
  obtain ⟨w0, ew0⟩ : ∃ w0, w0 = Value.slice (some ⟨H2.next, 0, some 1⟩) 0 0 := ⟨_, rfl⟩
  rw [← ew0] at d3 ⊢
  generalize ((x : Int) == 0) = few
  refine awp_loop (fun z t H' => ∃ (i : Nat) (w : Value) (ll : List (List Int)), z = n - i ∧ t 8 = .int .i64 i ∧ t 7 = .bool few ∧ t 6 = w ∧ t 5 = .slice (some ⟨ui, 0, some 1⟩) n n ∧ t 4 = .pointer (some ⟨H.next, 0, none⟩) ∧ t 1 = .int .i64 n ∧ t 0 = .pointer (some ⟨si, 0, none⟩) ∧ i ≤ n + 1 ∧ ll.length ≤ i ∧ (∀ j, j < ll.length → (ll.getD j []).length = 2 ∧ VL n (ll.getD j [])) ∧
    Dq cv nb si H H' [.row H.next ⟨69, true, ints (List.replicate 14 0)⟩, .sl 1 2 (.slice (some ⟨ui, 0, some 1⟩) n n) n (ints l), .sl2 (Value.int .i64) 33 2 w ll]) n ?_ ?_
  · refine ⟨0, w0, [], by omega, ?_⟩
    try simp (disch := first | omega | (simp only [L3] <;> omega)) only [Sall,evalOp,init,binA_s,binE,binI,unE,convE,okNil,builtE,gv,TD.isAgg,resV,↓reduceIte,Nat.reduceEqDiff,reduceCtorEq,Nat.reduceAdd,Nat.reduceMul,Nat.reduceLeDiff,quietOp,blindOp,Int.reduceEq,Int.reduceLT,Int.reduceLE,Nat.reduceLT,tiA,tiXA, Int.natCast_zero]
    first | exact d3 | exact ⟨by omega, d3⟩ | exact ⟨fun j hj => by simp at hj, d3⟩ | exact ⟨by omega, fun j hj => by simp at hj, d3⟩
  · rintro z t H' ⟨i, w, ll, hz, h8, h7, h6, h5, h4, h1, h0, hi, hll, hl2, d4⟩
    have hw1 := (d4.rd2 2 rfl).one
    try simp (disch := first | omega | (simp only [L3] <;> omega)) only [Sall,evalOp,init,binA_s,binE,binI,unE,convE,okNil,builtE,gv,TD.isAgg,resV,↓reduceIte,Nat.reduceEqDiff,reduceCtorEq,Nat.reduceAdd,Nat.reduceMul,Nat.reduceLeDiff,quietOp,blindOp,Int.reduceEq,Int.reduceLT,Int.reduceLE,Nat.reduceLT,tiA,tiXA, h8, h1, w64]
    refine condC_dec (fun hh => ?_) (fun hh => ?_)
    · cases few with
      | false =>
        try simp (disch := first | omega | (simp only [L3] <;> omega)) only [Sall,evalOp,init,binA_s,binE,binI,unE,convE,okNil,builtE,gv,TD.isAgg,resV,↓reduceIte,Nat.reduceEqDiff,reduceCtorEq,Nat.reduceAdd,Nat.reduceMul,Nat.reduceLeDiff,quietOp,blindOp,Int.reduceEq,Int.reduceLT,Int.reduceLE,Nat.reduceLT,tiA,tiXA, h7]
        obtain ⟨Ba, hBa, oa⟩ := id d4.ex
        have ra := (oa.getV 1 rfl).2.2
        have hpl := hp.len
        have k0 := ints_get? l i (by omega)
        have k1 := ints_get? l (i + 1) (by omega)
        have c0 := VL.getD hp.rng (j := i) (by omega)
        have c1 := VL.getD hp.rng (j := i + 1) (by omega)
        have e1 : ((i : Int) + 1).toNat = i + 1 := by omega
        have zz2 : zeros 2 [.int .i64 0] = [.int .i64 0, .int .i64 0] := rfl
        have zs1 : zeros 1 [.slice none 0 0] = [.slice none 0 0] := rfl
        revert k0 k1 c0 c1
        generalize l.getD i 0 = x0
        generalize l.getD (i + 1) 0 = x1
        intro k0 k1 c0 c1
        try simp (disch := first | omega | (simp only [L3] <;> omega)) only [Sall,evalOp,init,binA_s,binE,binI,unE,convE,okNil,builtE,gv,TD.isAgg,resV,↓reduceIte,Nat.reduceEqDiff,reduceCtorEq,Nat.reduceAdd,Nat.reduceMul,Nat.reduceLeDiff,quietOp,blindOp,Int.reduceEq,Int.reduceLT,Int.reduceLE,Nat.reduceLT,tiA,tiXA, h8, h6, h5]
        refine draw_id (by kernel_rfl) (by kernel_rfl) ?_
        try simp (disch := first | omega | (simp only [L3] <;> omega)) only [Sall,evalOp,init,binA_s,binE,binI,unE,convE,okNil,builtE,gv,TD.isAgg,resV,↓reduceIte,Nat.reduceEqDiff,reduceCtorEq,Nat.reduceAdd,Nat.reduceMul,Nat.reduceLeDiff,quietOp,blindOp,Int.reduceEq,Int.reduceLT,Int.reduceLE,Nat.reduceLT,tiA,tiXA, h8, h6, h5, ra, k0, k1, e1, hpl, w64, zz2, zs1, slCells]
        (repeat refine And.intro (by omega) ?_)
        refine ⟨.inr (.inr (oa.sc.le _)), ?_⟩
        have ob := oa.pushSl (k := 1) (n := 2) (ty := 2) (vs := ints [x0, x1]) rfl
        try simp (disch := first | omega | (simp only [L3] <;> omega)) only [Sall,evalOp,init,binA_s,binE,binI,unE,convE,okNil,builtE,gv,TD.isAgg,resV,↓reduceIte,Nat.reduceEqDiff,reduceCtorEq,Nat.reduceAdd,Nat.reduceMul,Nat.reduceLeDiff,quietOp,blindOp,Int.reduceEq,Int.reduceLT,Int.reduceLE,Nat.reduceLT,tiA,tiXA, h8, h6, h5, ra, k0, k1, e1, hpl, w64, zz2, zs1, slCells]
        (repeat refine And.intro (by omega) ?_)
        refine ⟨.inr (.inr (ob.sc.le _)), ?_⟩
        refine (ob.tmp ⟨33, true, [.slice (some ⟨H'.next, 0, some 1⟩) 2 2]⟩).app2 (l := [x0, x1]) 2 3 rfl rfl (by omega) rfl (by decide) (by omega) ?_
        intro v' Hb nb2 oc
        have oc2 : Ow Ba Hb ([.row H.next ⟨69, true, ints (List.replicate 14 0)⟩, .sl 1 2 (.slice (some ⟨ui, 0, some 1⟩) n n) n (ints l), .sl2 (Value.int .i64) 33 2 v' (ll ++ [[x0, x1]])] ++ [.no]) := oc
        refine ⟨.inr (.inl (by kernel_rfl)), ?_⟩
        try simp (disch := first | omega | (simp only [L3] <;> omega)) only [Sall,evalOp,init,binA_s,binE,binI,unE,convE,okNil,builtE,gv,TD.isAgg,resV,↓reduceIte,Nat.reduceEqDiff,reduceCtorEq,Nat.reduceAdd,Nat.reduceMul,Nat.reduceLeDiff,quietOp,blindOp,Int.reduceEq,Int.reduceLT,Int.reduceLE,Nat.reduceLT,tiA,tiXA, h8, h7, h6, h5, h4, h1, h0, w64]
        exact ⟨n - (i + 2), by omega, i + 2, v', ll ++ [[x0, x1]], rfl, rfl, rfl, by omega, by simp; omega, fun j hj => by
          by_cases hj2 : j < ll.length
          · rw [List.getD_eq_getElem?_getD, List.getElem?_append_left hj2, ← List.getD_eq_getElem?_getD]; exact hl2 j hj2
          · obtain rfl : j = ll.length := by simp at hj; omega
            have e : (ll ++ [[x0, x1]]).getD ll.length [] = [x0, x1] := by simp [List.getD_eq_getElem?_getD]
            rw [e]
            exact ⟨rfl, fun y hy => by
              simp only [List.mem_cons, List.not_mem_nil, or_false] at hy
              rcases hy with rfl | rfl <;> omega⟩, ⟨⟨Ba, hBa, oc2.left⟩⟩⟩
      | true =>
        try simp (disch := first | omega | (simp only [L3] <;> omega)) only [Sall,evalOp,init,binA_s,binE,binI,unE,convE,okNil,builtE,gv,TD.isAgg,resV,↓reduceIte,Nat.reduceEqDiff,reduceCtorEq,Nat.reduceAdd,Nat.reduceMul,Nat.reduceLeDiff,quietOp,blindOp,Int.reduceEq,Int.reduceLT,Int.reduceLE,Nat.reduceLT,tiA,tiXA, h7, h0]
        refine (l01Next_c cv nb si 2 H' (by omega) hnb (d4.src hsi) (d4.code hc hsc)).ex ?_
        rintro y H5 ⟨hy, hS5⟩
        have d5 := d4.next hsi hS5
        refine Holds.mp ?_
        obtain ⟨bb, ebb⟩ : ∃ bb, ((y : Int) == 0) = bb := ⟨_, rfl⟩
        cases bb with
        | true =>
          try simp (disch := first | omega | (simp only [L3] <;> omega)) only [Sall,evalOp,init,binA_s,binE,binI,unE,convE,okNil,builtE,gv,TD.isAgg,resV,↓reduceIte,Nat.reduceEqDiff,reduceCtorEq,Nat.reduceAdd,Nat.reduceMul,Nat.reduceLeDiff,quietOp,blindOp,Int.reduceEq,Int.reduceLT,Int.reduceLE,Nat.reduceLT,tiA,tiXA, h7, h0, ebb]
          obtain ⟨Ba, hBa, oa⟩ := id d5.ex
          have ra := (oa.getV 1 rfl).2.2
          have hpl := hp.len
          have k0 := ints_get? l i (by omega)
          have k1 := ints_get? l (i + 1) (by omega)
          have c0 := VL.getD hp.rng (j := i) (by omega)
          have c1 := VL.getD hp.rng (j := i + 1) (by omega)
          have e1 : ((i : Int) + 1).toNat = i + 1 := by omega
          have zz2 : zeros 2 [.int .i64 0] = [.int .i64 0, .int .i64 0] := rfl
          have zs1 : zeros 1 [.slice none 0 0] = [.slice none 0 0] := rfl
          revert k0 k1 c0 c1
          generalize l.getD i 0 = x0
          generalize l.getD (i + 1) 0 = x1
          intro k0 k1 c0 c1
          try simp (disch := first | omega | (simp only [L3] <;> omega)) only [Sall,evalOp,init,binA_s,binE,binI,unE,convE,okNil,builtE,gv,TD.isAgg,resV,↓reduceIte,Nat.reduceEqDiff,reduceCtorEq,Nat.reduceAdd,Nat.reduceMul,Nat.reduceLeDiff,quietOp,blindOp,Int.reduceEq,Int.reduceLT,Int.reduceLE,Nat.reduceLT,tiA,tiXA, h8, h6, h5]
          refine draw_id (by kernel_rfl) (by kernel_rfl) ?_
          try simp (disch := first | omega | (simp only [L3] <;> omega)) only [Sall,evalOp,init,binA_s,binE,binI,unE,convE,okNil,builtE,gv,TD.isAgg,resV,↓reduceIte,Nat.reduceEqDiff,reduceCtorEq,Nat.reduceAdd,Nat.reduceMul,Nat.reduceLeDiff,quietOp,blindOp,Int.reduceEq,Int.reduceLT,Int.reduceLE,Nat.reduceLT,tiA,tiXA, h8, h6, h5, ra, k0, k1, e1, hpl, w64, zz2, zs1, slCells]
          (repeat refine And.intro (by omega) ?_)
          refine ⟨.inr (.inr (oa.sc.le _)), ?_⟩
          have ob := oa.pushSl (k := 1) (n := 2) (ty := 2) (vs := ints [x0, x1]) rfl
          try simp (disch := first | omega | (simp only [L3] <;> omega)) only [Sall,evalOp,init,binA_s,binE,binI,unE,convE,okNil,builtE,gv,TD.isAgg,resV,↓reduceIte,Nat.reduceEqDiff,reduceCtorEq,Nat.reduceAdd,Nat.reduceMul,Nat.reduceLeDiff,quietOp,blindOp,Int.reduceEq,Int.reduceLT,Int.reduceLE,Nat.reduceLT,tiA,tiXA, h8, h6, h5, ra, k0, k1, e1, hpl, w64, zz2, zs1, slCells]
          (repeat refine And.intro (by omega) ?_)
          refine ⟨.inr (.inr (ob.sc.le _)), ?_⟩
          refine (ob.tmp ⟨33, true, [.slice (some ⟨H5.next, 0, some 1⟩) 2 2]⟩).app2 (l := [x0, x1]) 2 3 rfl rfl (by omega) rfl (by decide) (by omega) ?_
          intro v' Hb nb2 oc
          have oc2 : Ow Ba Hb ([.row H.next ⟨69, true, ints (List.replicate 14 0)⟩, .sl 1 2 (.slice (some ⟨ui, 0, some 1⟩) n n) n (ints l), .sl2 (Value.int .i64) 33 2 v' (ll ++ [[x0, x1]])] ++ [.no]) := oc
          refine ⟨.inr (.inl (by kernel_rfl)), ?_⟩
          try simp (disch := first | omega | (simp only [L3] <;> omega)) only [Sall,evalOp,init,binA_s,binE,binI,unE,convE,okNil,builtE,gv,TD.isAgg,resV,↓reduceIte,Nat.reduceEqDiff,reduceCtorEq,Nat.reduceAdd,Nat.reduceMul,Nat.reduceLeDiff,quietOp,blindOp,Int.reduceEq,Int.reduceLT,Int.reduceLE,Nat.reduceLT,tiA,tiXA, h8, h7, h6, h5, h4, h1, h0, w64]
          exact ⟨n - (i + 2), by omega, i + 2, v', ll ++ [[x0, x1]], rfl, rfl, rfl, by omega, by simp; omega, fun j hj => by
            by_cases hj2 : j < ll.length
            · rw [List.getD_eq_getElem?_getD, List.getElem?_append_left hj2, ← List.getD_eq_getElem?_getD]; exact hl2 j hj2
            · obtain rfl : j = ll.length := by simp at hj; omega
              have e : (ll ++ [[x0, x1]]).getD ll.length [] = [x0, x1] := by simp [List.getD_eq_getElem?_getD]
              rw [e]
              exact ⟨rfl, fun y hy => by
                simp only [List.mem_cons, List.not_mem_nil, or_false] at hy
                rcases hy with rfl | rfl <;> omega⟩, ⟨⟨Ba, hBa, oc2.left⟩⟩⟩
        | false =>
          try simp (disch := first | omega | (simp only [L3] <;> omega)) only [Sall,evalOp,init,binA_s,binE,binI,unE,convE,okNil,builtE,gv,TD.isAgg,resV,↓reduceIte,Nat.reduceEqDiff,reduceCtorEq,Nat.reduceAdd,Nat.reduceMul,Nat.reduceLeDiff,quietOp,blindOp,Int.reduceEq,Int.reduceLT,Int.reduceLE,Nat.reduceLT,tiA,tiXA, ebb, h8, h7, h6, h5, h4, h1, h0, w64]
          exact ⟨n - (i + 2), by omega, i + 2, w, ll, rfl, rfl, rfl, by omega, by omega, hl2, d5⟩
    · try simp (disch := first | omega | (simp only [L3] <;> omega)) only [Sall,evalOp,init,binA_s,binE,binI,unE,convE,okNil,builtE,gv,TD.isAgg,resV,↓reduceIte,Nat.reduceEqDiff,reduceCtorEq,Nat.reduceAdd,Nat.reduceMul,Nat.reduceLeDiff,quietOp,blindOp,Int.reduceEq,Int.reduceLT,Int.reduceLE,Nat.reduceLT,tiA,tiXA, h1, h6, hw1]
      refine (l01Made_c n w ll H' hn (by omega) (d4.rd2 2 rfl) hl2).ex ?_
      rintro rd H6 ⟨hrl, hR, o6⟩
      have d6 := d4.calls o6
      have g0 := d6.rowAt 0 rfl
      refine Holds.mp ?_
      try simp (disch := first | omega | (simp only [L3] <;> omega)) only [Sall,evalOp,init,binA_s,binE,binI,unE,convE,okNil,builtE,gv,TD.isAgg,resV,↓reduceIte,Nat.reduceEqDiff,reduceCtorEq,Nat.reduceAdd,Nat.reduceMul,Nat.reduceLeDiff,quietOp,blindOp,Int.reduceEq,Int.reduceLT,Int.reduceLE,Nat.reduceLT,tiA,tiXA, h4, g0, hrl]
      exact ⟨rd, rfl, hrl, hR, Dq.left (L := []) (d6.putRow 0 rfl)⟩
end Go.Proofs.YtpienljnoaendaaGreat.A
end

section
namespace Go.Abs
open Go Go.RowKit
structure LES (S : Nat → Prop) (H H' : AH) : Prop where
  next : H.next ≤ H'.next
  row : ∀ i r, S i → H.row i = some r → H'.row i = some r
theorem LES.refl (S : Nat → Prop) (H : AH) : LES S H H := ⟨Nat.le_refl _, fun _ _ _ h => h⟩
theorem LE.les {S : Nat → Prop} {H H' : AH} (h : LE H H') : LES S H H' := ⟨h.next, fun i r _ => h.row i r⟩
def loadOk (S : Nat → Prop) (t : T) : Op → Prop
  | .load _ a => match evo t a with | some (.pointer (some ⟨i, _, _⟩)) => S i | _ => True
  | _ => True
def Safe (P : Program) (S : Nat → Prop) (t : T) (op : Op) : Prop := ∀ H H' v, LES S H H' → yl (evalOp P t H op) v → yl (evalOp P t H' op) v
theorem safe_of {P : Program} {S : Nat → Prop} {t : T} {op : Op} (hq : quietOp op = true) (h : loadOk S t op) : Safe P S t op := by
  intro H H' v hle h
  by_cases hb : blindOp op = true
  · rw [blind_setH P t H H' op hb]; exact yl_setH _ h
  · cases op with
    | load ty a =>
      rename_i hS
      simp only [evalOp] at h ⊢
      cases hI : ti P ty with
      | none => simp only [hI] at h; exact h.elim
      | some I =>
        simp only [hI, bindO_some] at h ⊢
        cases hv : evo t a with
        | none => simp only [hv] at h; exact h.elim
        | some u =>
          simp only [hv, bindO_some] at h ⊢
          unfold asP at h ⊢
          split at h
          · rename_i i o
            unfold loadOk at hS
            simp only [hv] at hS
            cases hr : H.row i with
            | none => simp only [hr] at h; exact h.elim
            | some r =>
              have hr2 := hle.row i r hS hr
              simp only [hr, hr2, bindO_some] at h ⊢
              split at h
              · rename_i hd; rw [if_pos hd]; exact h
              · rename_i hd
                rw [if_neg hd]
                cases hx : r.cells[o]? with
                | none => simp only [hx] at h; exact h.elim
                | some x => simp only [hx, bindO_some] at h ⊢; exact h
          · exact h.elim
    | _ => simp_all [quietOp, blindOp]
theorem Safe.upd {P : Program} {S : Nat → Prop} {ops : Array Oper} {o : Oper} {t : T} {u : Value} {d : Option Nat} (h : ∀ i, d = some i → i ∉ o.looksAt ops) (k : Safe P S t o.op) : Safe P S (updO t d u) o.op := by
  intro H H' v hle
  rw [evalOp_updO o h, evalOp_updO o h]
  exact k H H' v hle
theorem aYield.safe {P : Program} {S : Nat → Prop} {ops : Array Oper} {o : Oper} {t : T} {H H' : AH} {v : Value} (hs : Safe P S t o.op) (hle : LES S H H') (h : aYield P ops o t H v) : aYield P ops o t H' v := by
  unfold aYield at *
  split at h
  · rename_i hg; exact hs _ _ _ hle h
  · rename_i g hg; exact condW_mono h (hs _ _ _ hle) id
def AAnyS (P : Program) (ops : Array Oper) (S : Nat → Prop) (Q : T → AH → Prop) : Nat → Array Bool → T → AH → Prop
  | 0, listed, t, H => Region.ready .any ops listed = [] ∧ Q t H
  | f + 1, listed, t, H => (Region.ready .any ops listed = [] → Q t H) ∧
    ∀ i ∈ Region.ready .any ops listed, aStep P ops.toList i t H fun t' H' => (sinkB ops i = true ∨ LES S H H') ∧ AAnyS P ops S Q f (listed.setIfInBounds i true) t' H'
theorem AAnyS_first {P : Program} {ops : Array Oper} {S : Nat → Prop} {Q : T → AH → Prop} {q : Nat} {oq : Oper} {v : Value} (hoq : ops[q]? = some oq) (hqt : quietOp oq.op = true) :
    ∀ (f : Nat) (listed : Array Bool) (t : T) (H : AH), Closed ops listed →
      (∀ j oj, ops[j]? = some oj → j ≠ q → listed.getD j true = false → (∀ e ∈ oj.after, Region.binds .any e = true → e.on ≠ q) → oq.apart ops oj = true) →
      q ∈ Region.ready .any ops listed → Safe P S t oq.op → aYield P ops oq t H v → AAnyS P ops S Q f (listed.setIfInBounds q true) (updO t oq.dst v) H → AAnyS P ops S Q (f + 1) listed t H := by
  intro f
  induction f with
  | zero =>
    intro listed t H hc _ hr hsf hy hA
    refine ⟨fun h => (by rw [h] at hr; cases hr), fun j hj => ?_⟩
    by_cases hjq : j = q
    · subst hjq; exact hy.step hoq hqt ⟨.inr (LES.refl _ _), hA⟩
    · have := ready_mono hj hjq
      rw [hA.1] at this
      cases this
  | succ f ih =>
    intro listed t H hc hfree hr hsf hy hA
    refine ⟨fun h => (by rw [h] at hr; cases hr), fun j hj => ?_⟩
    by_cases hjq : j = q
    · subst hjq; exact hy.step hoq hqt ⟨.inr (LES.refl _ _), hA⟩
    · have h1 := hA.2 j (ready_mono hj hjq)
      obtain ⟨hjun, oj, hoj, hall⟩ := ready_iff.1 hj
      obtain ⟨hqun, oq', hoq', hallq⟩ := ready_iff.1 hr
      have : oq' = oq := Option.some.inj (hoq'.symm.trans hoq)
      subst this
      have hqf : listed.getD q false = false := getD_unlisted hqun
      have hjf : listed.getD j false = false := getD_unlisted hjun
      have hnot : ∀ e ∈ oj.after, Region.binds .any e = true → e.on ≠ q := fun e he hb heq => by
        have h1 := hall e he hb
        rw [heq, hqf] at h1; cases h1
      have hap := hfree j oj hoj hjq hjun hnot
      obtain ⟨_, _, h3⟩ := Oper.apart_spec hap
      have h2 := aStep_put hoj hap h1
      refine aStep_mono h2 fun t' H' hk => ?_
      obtain ⟨⟨u, rfl⟩, hs, hk⟩ := hk
      refine ⟨hs, ih (listed.setIfInBounds j true) _ H' (hc.set hj) ?_ (ready_mono hr (Ne.symm hjq)) (hsf.upd h3) ?_ ?_⟩
      · intro k ok hk2 hkq hun hno
        refine hfree k ok hk2 hkq ?_ hno
        by_cases hjk : j = k
        · subst hjk; exact hjun
        · rw [getD_set_ne true hjk] at hun; exact hun
      · by_cases hb : blindOp oq'.op = true
        · exact (hy.later (H' := H') hqt (.inl hb)).upd h3
        · refine (hy.safe (H' := H') hsf ?_).upd h3
          rcases hs with hs | hs
          · rcases sinkB_spec hs hoq (Ne.symm hjq) hqt (by simpa using hb) with hbf | hbf
            · have := hc.bef ops.size j oj hoj hall hbf
              rw [hqf] at this; cases this
            · have := hc.bef ops.size q oq' hoq hallq hbf
              rw [hjf] at this; cases this
          · exact hs
      · rw [Array.setIfInBounds_comm _ _ hjq]
        exact hk
def awpOrdS (P : Program) (ops : Array Oper) (S : Nat → Prop) (Q : T → AH → Prop) : List Nat → T → AH → Prop
  | [], t, H => Q t H
  | i :: is, t, H =>
    match ops.toList[i]? with
    | none => False
    | some o =>
      if quietOp o.op = true then Safe P S t o.op ∧ aStep P ops.toList i t H (awpOrdS P ops S Q is)
      else aStep P ops.toList i t H fun t' H' => (sinkB ops i = true ∨ LES S H H') ∧ awpOrdS P ops S Q is t' H'
theorem AAnyS_ord {P : Program} {ops : Array Oper} {S : Nat → Prop} {Q : T → AH → Prop} : ∀ (is : List Nat) (listed : Array Bool) (t : T) (H : AH) (f : Nat), is.length ≤ f → Closed ops listed → okOrd ops is listed = true → awpOrdS P ops S Q is t H → AAnyS P ops S Q f listed t H
  | [], listed, t, H, f, _, _, hok, h => by
    have hr : Region.ready .any ops listed = [] := by simpa [okOrd] using hok
    cases f with
    | zero => exact ⟨hr, h⟩
    | succ f => exact ⟨fun _ => h, by rw [hr]; simp⟩
  | i :: is, listed, t, H, 0, hl, _, _, _ => by simp at hl
  | i :: is, listed, t, H, f + 1, hl, hc, hok, h => by
    simp only [okOrd, Bool.and_eq_true] at hok
    obtain ⟨h1, h2⟩ := hok
    unfold awpOrdS at h
    cases ho : ops[i]? with
    | none => simp [ho] at h1
    | some o =>
      have e : ops.toList[i]? = some o := by simpa using ho
      simp only [ho] at h1
      rw [e] at h
      simp only at h
      split at h1
      · rename_i hq
        rw [if_pos hq] at h
        simp only [Bool.and_eq_true] at h1
        obtain ⟨hr, hfr⟩ := h1
        have hr' : i ∈ Region.ready .any ops listed := by simpa using hr
        obtain ⟨v, hy, hk⟩ := aStep_quiet ho hq h.2
        exact AAnyS_first ho hq f listed t H hc (Region.free_spec ho hfr) hr' h.1 hy (AAnyS_ord is _ _ H f (by simp at hl; omega) (hc.set hr') h2 hk)
      · rename_i hq
        rw [if_neg hq] at h
        have hr : Region.ready .any ops listed = [i] := by simpa using h1
        refine ⟨fun h0 => (by rw [hr] at h0; cases h0), fun j hj => ?_⟩
        have hji : j = i := by rw [hr] at hj; simpa using hj
        subst hji
        exact aStep_mono h fun t' H' hk => ⟨hk.1, AAnyS_ord is _ t' H' f (by simp at hl; omega) (hc.set hj) h2 hk.2⟩
theorem AAnyS_ok {P : Program} {ops : Array Oper} {S : Nat → Prop} {Q : T → AH → Prop} {QC : Exit → Act → World → Prop} {base : Nat} :
    ∀ (f : Nat) (listed : Array Bool) (t : T) (H : AH) (ρ : Nat → Nat) (w : World) (tmps : Array Value), AAnyS P ops S Q f listed t H → St base ρ t H tmps w → (∀ o ∈ ops.toList, ∀ i, o.dst = some i → i < tmps.size) →
      (∀ t' H' ρ' w' tmps', Q t' H' → St base ρ' t' H' tmps' w' → Ext base ρ H.next w ρ' H'.next w' → tmps'.size = tmps.size → QC .normal ⟨tmps', []⟩ w') →
      wpAny P .any ops QC f listed ⟨tmps, []⟩ w
  | 0, listed, t, H, ρ, w, tmps, h, hS, _, hQ => ⟨h.1, hQ t H ρ w tmps h.2 hS (Ext.refl _ _ _ _) rfl⟩
  | f + 1, listed, t, H, ρ, w, tmps, h, hS, hd, hQ => by
    refine ⟨fun h0 => hQ t H ρ w tmps (h.1 h0) hS (Ext.refl _ _ _ _) rfl, fun i hi => ?_⟩
    have hstep := h.2 i hi
    obtain ⟨_, o, ho, _⟩ := ready_iff.1 hi
    have e : ops.toList[i]? = some o := by simpa using ho
    have hom : o ∈ ops.toList := List.mem_of_getElem? e
    unfold aStep at hstep
    rw [e] at hstep
    simp only at hstep
    have hgo : ∀ v v' H' ρ' w', AAnyS P ops S Q f (listed.setIfInBounds i true) (updO t o.dst v) H' → Rel base ρ' H' w' → Ext base ρ H.next w ρ' H'.next w' → VR ρ' H'.next w' v v' →
        wpAny P .any ops QC f (listed.setIfInBounds i true) (Act.put ⟨tmps, []⟩ o.dst v') w' := by
      intro v v' H' ρ' w' hK R' E hV
      rw [put_eta]
      refine AAnyS_ok f _ _ H' ρ' w' _ hK ⟨R', (hS.2.ext E).put hV o.dst (hd o hom)⟩ (fun o' ho' k hk => by rw [put_size]; exact hd o' ho' k hk) ?_
      intro t' H'' ρ'' w'' tmps' hq hs he hz
      exact hQ t' H'' ρ'' w'' tmps' hq hs (E.trans he) (by rw [hz, put_size])
    have hall := wp_one (P := P) (QC := QC) ops i o ho hS (hnext := fun a w' => wpAny P .any ops QC f (listed.setIfInBounds i true) a w') hgo
      (K := fun v H' => AAnyS P ops S Q f (listed.setIfInBounds i true) (updO t o.dst v) H')
    refine hall ?_
    cases hg : o.guard with
    | none =>
      simp only [hg] at hstep ⊢
      exact runOut_mono (fun v H' hk => hk.2) _ hstep
    | some g =>
      simp only [hg] at hstep ⊢
      exact condW_mono hstep (runOut_mono (fun v H' hk => hk.2) _) (fun hk => hk.2)
theorem draw_okS {P : Program} {id : Nat} {ops : Array Oper} {Q : Exit → T → AH → Prop} {t : T} {H : AH} (S : Nat → Prop) (is : List Nat) (hm : P.follows .mixedOrders = true) (hok : okOrd ops is (Array.replicate ops.size false) = true) (hl : is.length = ops.size)
    (h : awpOrdS P ops S (Q .normal) is t H) : awp P (.region id ops true) Q t H := by
  intro base ρ w tmps QC hS hd hQ
  have hA := AAnyS_ord is _ t H ops.size (by omega) ⟨by simp, fun j oj hj hl => by rw [getD_replicate_false'] at hl; cases hl⟩ hok h
  refine wp_region_any hm (AAnyS_ok ops.size _ t H ρ w.drew tmps hA ⟨hS.1.drew, hS.2.ext (ext_drew (base := base) (H := H) w)⟩ ?_ fun t' H' ρ' w' tmps' hq hs he hz => ?_)
  · intro o ho i hi
    have := List.all_eq_true.1 hd o ho
    simp only [hi, decide_eq_true_eq] at this
    exact this
  · exact hQ .normal t' H' ρ' w' tmps' hq hs ((ext_drew (base := base) (H := H) (ρ := ρ) w).trans he) hz
def stepIS (P : Program) (ops : Array Oper) (S : Nat → Prop) (K : T → AH → Prop) (i : Nat) : Option Oper → T → AH → (fun _ => Prop) (ops, K, i)
  | none, _, _ => False
  | some o, t, H =>
    match o.guard with
    | none => loadOk S t o.op ∧ runOut P H (evalOp P t H o.op) fun v H' => (quietOp o.op = true ∨ sinkB ops i = true ∨ LES S H H') ∧ K (updO t o.dst v) H'
    | some g => loadOk S t o.op ∧ condW (gv ops.toList t g.1) g.2 (runOut P H (evalOp P t H o.op) fun v H' => (quietOp o.op = true ∨ sinkB ops i = true ∨ LES S H H') ∧ K (updO t o.dst v) H') (K (updO t o.dst undef) H)
def awpIS (P : Program) (ops : Array Oper) (S : Nat → Prop) (Q : T → AH → Prop) : (is : List Nat) → T → AH → (fun _ => Prop) (ops, Q, is)
  | [], t, H => Q t H
  | i :: is, t, H => stepIS P ops S (awpIS P ops S Q is) i (ops.toList[i]?) t H
theorem awpIS_ord {P : Program} {ops : Array Oper} {S : Nat → Prop} {Q : T → AH → Prop} : ∀ (is : List Nat) (t : T) (H : AH), awpIS P ops S Q is t H → awpOrdS P ops S Q is t H
  | [], t, H, h => h
  | i :: is, t, H, h => by
    have ih := fun t H => awpIS_ord (P := P) (ops := ops) (S := S) (Q := Q) is t H
    unfold awpIS at h
    unfold awpOrdS
    cases e : ops.toList[i]? with
    | none => rw [e] at h; exact h.elim
    | some o =>
    rw [e] at h
    unfold stepIS at h
    have hs : ∀ K K' : T → AH → Prop, (∀ v H', K (updO t o.dst v) H' → K' (updO t o.dst v) H') → (∀ H', K (updO t o.dst undef) H' → K' (updO t o.dst undef) H') → aStep P ops.toList i t H K → aStep P ops.toList i t H K' := by
      intro K K' k1 k2 hh
      unfold aStep at hh ⊢
      rw [e] at hh ⊢
      simp only at hh ⊢
      cases hg : o.guard with
      | none => simp only [hg] at hh ⊢; exact runOut_mono (fun v H' => k1 v H') _ hh
      | some g => simp only [hg] at hh ⊢; exact condW_mono hh (runOut_mono (fun v H' => k1 v H') _) (k2 H)
    have hload : loadOk S t o.op := by
      cases hg : o.guard <;> simp only [hg] at h <;> exact h.1
    have base : aStep P ops.toList i t H fun t' H' => (quietOp o.op = true ∨ sinkB ops i = true ∨ LES S H H') ∧ awpOrdS P ops S Q is t' H' := by
      unfold aStep
      rw [e]
      simp only
      cases hg : o.guard with
      | none => simp only [hg] at h ⊢; exact runOut_mono (fun v H' k => ⟨k.1, ih _ _ k.2⟩) _ h.2
      | some g => simp only [hg] at h ⊢; exact condW_mono h.2 (runOut_mono (fun v H' k => ⟨k.1, ih _ _ k.2⟩) _) (fun k => ⟨.inr (.inr (LES.refl S H)), ih _ _ k⟩)
    simp only
    split
    · rename_i hqq
      exact ⟨safe_of hqq hload, hs _ _ (fun v H' k => k.2) (fun H' k => k.2) base⟩
    · rename_i hq
      refine hs _ _ ?_ ?_ base
      · rintro v H' ⟨k | k, k2⟩
        · exact absurd k hq
        · exact ⟨k, k2⟩
      · rintro H' ⟨k | k, k2⟩
        · exact absurd k hq
        · exact ⟨k, k2⟩
theorem draw_inS {P : Program} {id : Nat} {ops : Array Oper} {Q : Exit → T → AH → Prop} {t : T} {H : AH} (S : Nat → Prop) (is : List Nat) (hm : P.follows .mixedOrders = true) (hok : okOrd ops is (Array.replicate ops.size false) = true) (hl : is.length = ops.size)
    (h : awpIS P ops S (Q .normal) is t H) : awp P (.region id ops true) Q t H := draw_okS S is hm hok hl (awpIS_ord is _ _ h)
theorem awpIS_nil (P : Program) (ops : Array Oper) (S : Nat → Prop) (Q : T → AH → Prop) (t : T) (H : AH) : awpIS P ops S Q [] t H = Q t H := (rfl)
theorem awpIS_cons (P : Program) (ops : Array Oper) (S : Nat → Prop) (Q : T → AH → Prop) (i : Nat) (is : List Nat) (t : T) (H : AH) : awpIS P ops S Q (i :: is) t H = stepIS P ops S (awpIS P ops S Q is) i (ops.toList[i]?) t H := (rfl)
theorem stepIS_op (P : Program) (ops : Array Oper) (S : Nat → Prop) (K : T → AH → Prop) (i : Nat) (d : Option Tmp) (op : Op) (ty : TypeId) (pos : String) (af : Array Edge) (t : T) (H : AH) :
    stepIS P ops S K i (some ⟨d, op, ty, pos, af, none⟩) t H = (loadOk S t op ∧ runOut P H (evalOp P t H op) fun v H' => (quietOp op = true ∨ sinkB ops i = true ∨ LES S H H') ∧ K (updO t d v) H') := (rfl)
@[congr] theorem stepIS_congr {P : Program} {ops : Array Oper} {S : Nat → Prop} {K : T → AH → Prop} {i : Nat} {o o' : Option Oper} {t t' : T} {H H' : AH} (ho : o = o') (h : t = t') (k : H = H') : stepIS P ops S K i o t H = stepIS P ops S K i o' t' H' := by rw [ho, h, k]
@[congr] theorem awpIS_congr {P : Program} {ops : Array Oper} {S : Nat → Prop} {is : List Nat} {Q : T → AH → Prop} {t t' : T} {H H' : AH} (h : t = t') (k : H = H') : awpIS P ops S Q is t H = awpIS P ops S Q is t' H' := by rw [h, k]
end Go.Abs
end

section
set_option maxRecDepth 100000
set_option maxHeartbeats 2000000
namespace Go.Proofs.YtpienljnoaendaaGreat.A
open Go Go.Abs Go.RowKit
theorem pickD {cv : Value} {nb si k m : Nat} {H Hp : AH} {L : List Th} {ty : TypeId} {lv : Value} {ls : List Int} (d : Dq cv nb si H Hp L) (hsi : si < H.next) (hc : CodeX cv nb si H) (hsc : Sc H) (hnb : nb ≤ 4611686018427387904) (hk : L[k]? = some (.sl 1 ty lv m (ints ls))) (hm : 0 < m ∧ m ≤ 100) :
    ACalls Tryz.prog 98 [.pointer (some ⟨si, 0, none⟩), lv] Hp (fun v H' => ∃ x : Int, v = .int .i64 x ∧ x ∈ ls ∧ SrcB cv nb si Hp H') :=
  l01Pick_c cv nb si lv m ls Hp hm.1 (by omega) hnb (d.src hsi) (d.code hc hsc) fun H' hS => (d.next hsi hS).rd k hk
theorem nextD {cv : Value} {nb si : Nat} {H Hp : AH} {L : List Th} (n : Int) (d : Dq cv nb si H Hp L) (hsi : si < H.next) (hc : CodeX cv nb si H) (hsc : Sc H) (hnb : nb ≤ 4611686018427387904) (hn : n ≤ 9223372036854775807) :
    ACalls Tryz.prog 99 [.pointer (some ⟨si, 0, none⟩), .int .i64 n] Hp (fun v H' => ∃ x : Nat, v = .int .i64 x ∧ ((n < 1 ∧ x = 0) ∨ (x : Int) < n) ∧ Dq cv nb si H H' L) := by
  refine (l01Next_c cv nb si n Hp hn hnb (d.src hsi) (d.code hc hsc)).mono ?_
  rintro v H' ⟨x, hv, hx, hS⟩
  exact ⟨x, hv, hx, d.next hsi hS⟩
theorem ACalls.ex2 {P : Program} {f : FuncId} {args : List Value} {H : AH} {α β : Type} {g : α → β → Value} {X : α → β → AH → Prop} {R : Value → AH → Prop} (h : ACalls P f args H (fun v H' => ∃ u w, v = g u w ∧ X u w H')) (k : ∀ u w H', X u w H' → R (g u w) H') : ACalls P f args H R :=
  h.mono fun v H' hh => by obtain ⟨u, w, rfl, hx⟩ := hh; exact k _ _ _ hx
theorem ACalls.ex4 {P : Program} {f : FuncId} {args : List Value} {H : AH} {α β γ δ : Type} {g : α → β → γ → δ → Value} {X : α → β → γ → δ → AH → Prop} {R : Value → AH → Prop} (h : ACalls P f args H (fun v H' => ∃ a b c d, v = g a b c d ∧ X a b c d H')) (k : ∀ a b c d H', X a b c d H' → R (g a b c d) H') : ACalls P f args H R :=
  h.mono fun v H' hh => by obtain ⟨a, b, c, d, rfl, hx⟩ := hh; exact k _ _ _ _ _ hx
theorem Dq.les {cv : Value} {nb si : Nat} {H H' : AH} {L : List Th} (h : Dq cv nb si H H' L) (sc : Sc H) : LES (fun j => j ≠ si) H H' := ⟨h.le, fun i r hi hr => h.old sc i r hi hr⟩
theorem les_of {cv : Value} {nb si : Nat} {H B H' : AH} {M : List Th} (k : SrcB cv nb si H B) (o : Ow B H' M) (sc : Sc H) : LES (fun j => j ≠ si) H H' := Dq.les (⟨⟨B, k, o⟩⟩ : Dq cv nb si H H' M) sc
theorem ACalls.scz {P : Program} {f : FuncId} {args : List Value} {H : AH} {α : Type} {g : α → Value} {X : α → AH → Prop} (h : ACalls P f args H (fun v H' => ∃ u, v = g u ∧ X u H')) : ACalls P f args H (fun v H' => ∃ u, v = g u ∧ X u H' ∧ Sc H') :=
  h.sc.mono fun _ _ ⟨⟨u, h1, h2⟩, h3⟩ => ⟨u, h1, h2, h3⟩
theorem Ow.swap1 {B H : AH} {a b c d e : Th} (o : Ow B H [a, b, c, d, e]) : Ow B H [a, e, c] := by
  refine o.sub (fun j => if j = 1 then 4 else j) (fun j hj => ?_) fun x y hx hy h => ?_
  · have hj : j < 3 := hj
    rcases j with _ | _ | _ | j
    · rfl
    · rfl
    · rfl
    · omega
  · have hx : x < 3 := hx
    have hy : y < 3 := hy
    have h : (if x = 1 then 4 else x) = if y = 1 then 4 else y := h
    split at h <;> split at h <;> omega
theorem circleVL_all : ∀ n : Nat, n < 15 → 2 ≤ n → ((circleL n (oddUp n)).all fun x => decide (0 ≤ x ∧ x < (n : Int))) = true := by decide +kernel
theorem circleVL {n : Nat} (h : 2 ≤ n ∧ n ≤ 14) : VL n (circleL n (oddUp n)) := fun x hx => by
  have := List.all_eq_true.1 (circleVL_all n (by omega) h.1) x hx
  simpa using this
theorem rndVL {n i : Nat} {l : List Int} (h : VL n l) : VL n (rnd l i) := fun x hx => h x (List.mem_of_mem_drop (List.mem_of_mem_take hx))
theorem reoVL {n : Nat} {l y : List Int} (h : VL n l) : VL n (reoL l y) := fun x hx => by
  unfold reoL at hx
  rw [List.mem_flatMap] at hx
  obtain ⟨a, _, hx⟩ := hx
  exact rndVL h x hx
theorem pickL {cv : Value} {nb si : Nat} {H Hp : AH} {L : List Th} (ls : List Int) (m : Nat) (hm : ls.length = m) (hm0 : 0 < m) (hm1 : m ≤ 100) (d : Dq cv nb si H Hp L) (hsi : si < H.next) (hc : CodeX cv nb si H) (hsc : Sc H) (hnb : nb ≤ 4611686018427387904) :
    ACalls Tryz.prog 98 [.pointer (some ⟨si, 0, none⟩), .slice (some ⟨Hp.next, 0, some 1⟩) m m] (Hp.push ⟨2, true, ints ls⟩) (fun v H' => ∃ x : Int, v = .int .i64 x ∧ x ∈ ls ∧ Dq cv nb si H H' L) := by
  have d6 : Dq cv nb si H (Hp.push ⟨2, true, ints ls⟩) L := d.tmp _
  have d7 : Dq cv nb si H (Hp.push ⟨2, true, ints ls⟩) (L ++ [.sl 1 2 (.slice (some ⟨Hp.next, 0, some 1⟩) m m) m (ints ls)]) := d.map fun B o => o.pushSl (by rw [ints_length, hm, Nat.mul_one])
  refine (pickD (k := L.length) (ty := 2) (ls := ls) d7 hsi hc hsc hnb (by simp) ⟨hm0, hm1⟩).mono ?_
  rintro v H' ⟨x, h1, h2, h3⟩
  exact ⟨x, h1, h2, d6.next hsi h3⟩
def DrawnS (cv : Value) (nb si : Nat) (H : AH) (v : Value) (H' : AH) : Prop :=
  ∃ (n k : Nat) (u : Value) (l : List Int), v = .agg #[.int .i64 n, u] ∧ 2 ≤ n ∧ n ≤ 14 ∧ 1 ≤ k ∧ k ≤ 13 ∧ VL n l ∧ Dq cv nb si H H' [.sl 14 69 u k (ints l)]
theorem l01DrawRobin_c (cv : Value) (nb si : Nat) (H : AH) (hnb : nb ≤ 4611686018427387904) (hs : Src cv nb si H) (hc : CodeX cv nb si H) :
    ACalls Tryz.prog 231 [.pointer (some ⟨si, 0, none⟩)] H (DrawnS cv nb si H) := by
  refine ACalls.wf (by kernel_rfl) fun hsc => acalls_of_awp [.cell 2 26] Tryz.func231 (by kernel_rfl) rfl rfl (Nat.le_of_ble_eq_true rfl) (by kernel_rfl) ?_
  obtain ⟨_, _, hrow, _⟩ := id hs
  have hsi := hsc _ _ hrow
  clear hrow
  have d0 := (Dq.start hs hsc).push ⟨26, true, [.int .i64 0, .slice none 0 0]⟩
  have hb : ∀ (t : T) (H : AH), evalOp Tryz.prog t H (.buildSlice 33 14 #[(0, .const (.int .i64 2)), (1, .const (.int .i64 3)), (2, .const (.int .i64 4)), (3, .const (.int .i64 4)), (4, .const (.int .i64 5)), (5, .const (.int .i64 6)), (6, .const (.int .i64 6)), (7, .const (.int .i64 7)), (8, .const (.int .i64 8)), (9, .const (.int .i64 8)), (10, .const (.int .i64 9)), (11, .const (.int .i64 10)), (12, .const (.int .i64 12)), (13, .const (.int .i64 14))]) = .need (14 ≤ 16777216 ∧ 14 * 1 ≤ 16777216) (.val (.slice (some ⟨H.next, 0, some 1⟩) 14 14) (H.push ⟨2, true, ints [2, 3, 4, 4, 5, 6, 6, 7, 8, 8, 9, 10, 12, 14]⟩)) := fun t H => by kernel_rfl
  generalize (Op.buildSlice 33 14 #[(0, .const (.int .i64 2)), (1, .const (.int .i64 3)), (2, .const (.int .i64 4)), (3, .const (.int .i64 4)), (4, .const (.int .i64 5)), (5, .const (.int .i64 6)), (6, .const (.int .i64 6)), (7, .const (.int .i64 7)), (8, .const (.int .i64 8)), (9, .const (.int .i64 8)), (10, .const (.int .i64 9)), (11, .const (.int .i64 10)), (12, .const (.int .i64 12)), (13, .const (.int .i64 14))]) = bop at hb ⊢
  simp (config := {maxSteps := 3000000}) (disch := first | omega | (simp only [L3] <;> omega)) only [Sall,evalOp,init,binA_s,binE,binI,unE,convE,okNil,builtE,gv,TD.isAgg,resV,↓reduceIte,Nat.reduceEqDiff,reduceCtorEq,Nat.reduceAdd,Nat.reduceMul,Nat.reduceLeDiff,quietOp,blindOp,Int.reduceEq,Int.reduceLT,Int.reduceLE,Nat.reduceLT,tiA,tiXA, ↓hb]
  refine (pickL [2, 3, 4, 4, 5, 6, 6, 7, 8, 8, 9, 10, 12, 14] 14 rfl (by omega) (by omega) d0 hsi hc hsc hnb).ex ?_
  rintro x H2 ⟨hx, d1⟩
  have hx2 : 2 ≤ x ∧ x ≤ 14 := by
    simp only [List.mem_cons, List.not_mem_nil, or_false] at hx
    omega
  obtain ⟨n, rfl⟩ : ∃ n : Nat, x = n := ⟨x.toNat, by omega⟩
  have hn : 2 ≤ n ∧ n ≤ 14 := by omega
  refine Holds.mp ?_
  try simp (disch := first | omega | (simp only [L3] <;> omega)) only [Sall,evalOp,init,binA_s,binE,binI,unE,convE,okNil,builtE,gv,TD.isAgg,resV,↓reduceIte,Nat.reduceEqDiff,reduceCtorEq,Nat.reduceAdd,Nat.reduceMul,Nat.reduceLeDiff,quietOp,blindOp,Int.reduceEq,Int.reduceLT,Int.reduceLE,Nat.reduceLT,tiA,tiXA, true_and]
  refine (ACalls.scz (circleS_c n hn H2)).ex ?_
  rintro u H3 ⟨⟨up3, fr3⟩, sc3⟩
  have o3 := Ow.of_fr up3 sc3 fr3
  have hu := o3.one 0 rfl
  have d2 : Dq cv nb si H H3 [.row H.next ⟨26, true, [.int .i64 0, .slice none 0 0]⟩, .sl 14 69 u (oddUp n) (ints (circleL n (oddUp n)))] := d1.calls o3
  have d3 := (d2.push ⟨26, true, [.int .i64 0, .slice none 0 0]⟩).putRow 2 rfl (cs' := [.int .i64 n, u])
  have hV := circleVL hn
  have hk : 1 ≤ oddUp n ∧ oddUp n ≤ 13 := by unfold oddUp; omega
  revert d3 hV hk
  generalize circleL n (oddUp n) = l
  generalize oddUp n = k
  intro d3 hV hk
  refine Holds.mp ?_
  try simp (disch := first | omega | (simp only [L3] <;> omega)) only [Sall,evalOp,init,binA_s,binE,binI,unE,convE,okNil,builtE,gv,TD.isAgg,resV,↓reduceIte,Nat.reduceEqDiff,reduceCtorEq,Nat.reduceAdd,Nat.reduceMul,Nat.reduceLeDiff,quietOp,blindOp,Int.reduceEq,Int.reduceLT,Int.reduceLE,Nat.reduceLT,tiA,tiXA, hu]
  obtain ⟨ri, eri⟩ : ∃ ri, ri = H3.next := ⟨_, rfl⟩
  have nri : ¬ ri = si := by have := d2.le; omega
  rw [← eri] at d3 ⊢
  generalize (H3.push ⟨26, true, [.int .i64 0, .slice none 0 0]⟩).setCells ri [.int .i64 n, u] = H4 at d3 ⊢
  refine (nextD 3 d3 hsi hc hsc hnb (by omega)).ex ?_
  rintro y H5 ⟨hy, d4⟩
  refine Holds.mp ?_
  try simp (disch := first | omega | (simp only [L3] <;> omega)) only [Sall,evalOp,init,binA_s,binE,binI,unE,convE,okNil,builtE,gv,TD.isAgg,resV,↓reduceIte,Nat.reduceEqDiff,reduceCtorEq,Nat.reduceAdd,Nat.reduceMul,Nat.reduceLeDiff,quietOp,blindOp,Int.reduceEq,Int.reduceLT,Int.reduceLE,Nat.reduceLT,tiA,tiXA, true_and]
  refine condC_cut (fun t H' => ∃ (u : Value) (l : List Int), t 0 = .pointer (some ⟨si, 0, none⟩) ∧ t 2 = .pointer (some ⟨H.next, 0, none⟩) ∧ t 3 = .pointer (some ⟨ri, 0, none⟩) ∧ VL n l ∧ Dq cv nb si H H' [.row H.next ⟨26, true, [.int .i64 0, .slice none 0 0]⟩, .sl 14 69 u k (ints l), .row ri ⟨26, true, [.int .i64 n, u]⟩]) (fun _ => ?_) (fun _ => ?_) ?_
  · refine ⟨u, l, ?_⟩
    try simp (disch := first | omega | (simp only [L3] <;> omega)) only [Sall,evalOp,init,binA_s,binE,binI,unE,convE,okNil,builtE,gv,TD.isAgg,resV,↓reduceIte,Nat.reduceEqDiff,reduceCtorEq,Nat.reduceAdd,Nat.reduceMul,Nat.reduceLeDiff,quietOp,blindOp,Int.reduceEq,Int.reduceLT,Int.reduceLE,Nat.reduceLT,tiA,tiXA, true_and]
    exact ⟨hV, d4⟩
  · have g2 := d4.rowAt 2 rfl
    have hu5 := d4.one 1 rfl
    refine draw_inS (fun j => j ≠ si) [0, 1, 2, 3, 4, 5, 6] (by kernel_rfl) (by kernel_rfl) (by kernel_rfl) ?_
    try simp (disch := first | omega | (simp only [L3] <;> omega)) only [Sall,evalOp,init,binA_s,binE,binI,unE,convE,okNil,builtE,gv,TD.isAgg,resV,↓reduceIte,Nat.reduceEqDiff,reduceCtorEq,Nat.reduceAdd,Nat.reduceMul,Nat.reduceLeDiff,quietOp,blindOp,Int.reduceEq,Int.reduceLT,Int.reduceLE,Nat.reduceLT,tiA,tiXA, awpIS_nil, awpIS_cons, stepIS_op, loadOk, g2, hu5, nri]
    refine (l01DrawOrder_c cv nb si n H5 (by omega) hnb (d4.src hsi) (d4.code hc hsc)).mono ?_
    rintro w H6 ⟨y, B6, k6, o6, hp⟩
    rw [Int.toNat_natCast] at o6 hp
    have d5 := d4.call hsi k6 o6
    refine ⟨.inr (.inr (les_of k6 o6 d4.sc)), ?_⟩
    have hw := o6.one 0 rfl
    try simp (disch := first | omega | (simp only [L3] <;> omega)) only [Sall,evalOp,init,binA_s,binE,binI,unE,convE,okNil,builtE,gv,TD.isAgg,resV,↓reduceIte,Nat.reduceEqDiff,reduceCtorEq,Nat.reduceAdd,Nat.reduceMul,Nat.reduceLeDiff,quietOp,blindOp,Int.reduceEq,Int.reduceLT,Int.reduceLE,Nat.reduceLT,tiA,tiXA, awpIS_nil, awpIS_cons, stepIS_op, loadOk, hw, hu5, nri]
    refine ACalls.ex2 (l01Renamed_c n k u w l y H6 ⟨by omega, by omega⟩ (by omega) (d5.rd 1 rfl) hV (d5.rd 3 rfl) hp.rng) ?_
    rintro u' l' H7 ⟨o7, hV'⟩
    have d6 := d5.calls o7
    refine ⟨.inr (.inr (LE.les (o7.up.le d5.sc))), ?_⟩
    have g2' := d6.rowAt 2 rfl
    have hu7 := o7.one 0 rfl
    have d7 := d6.putRow 2 rfl (cs' := [.int .i64 n, u'])
    try simp (disch := first | omega | (simp only [L3] <;> omega)) only [Sall,evalOp,init,binA_s,binE,binI,unE,convE,okNil,builtE,gv,TD.isAgg,resV,↓reduceIte,Nat.reduceEqDiff,reduceCtorEq,Nat.reduceAdd,Nat.reduceMul,Nat.reduceLeDiff,quietOp,blindOp,Int.reduceEq,Int.reduceLT,Int.reduceLE,Nat.reduceLT,tiA,tiXA, awpIS_nil, awpIS_cons, stepIS_op, loadOk, g2', hu7, nri]
    exact ⟨.inr (.inl (by kernel_rfl)), u', l', hV', d7.map fun B o => Ow.swap1 o⟩
  · rintro t H6 ⟨u, l, h0, h2, h3, hV, d5⟩
    try simp (disch := first | omega | (simp only [L3] <;> omega)) only [Sall,evalOp,init,binA_s,binE,binI,unE,convE,okNil,builtE,gv,TD.isAgg,resV,↓reduceIte,Nat.reduceEqDiff,reduceCtorEq,Nat.reduceAdd,Nat.reduceMul,Nat.reduceLeDiff,quietOp,blindOp,Int.reduceEq,Int.reduceLT,Int.reduceLE,Nat.reduceLT,tiA,tiXA, h0]
    refine (nextD 3 d5 hsi hc hsc hnb (by omega)).ex ?_
    rintro z H7 ⟨hz, d6⟩
    refine Holds.mp ?_
    try simp (disch := first | omega | (simp only [L3] <;> omega)) only [Sall,evalOp,init,binA_s,binE,binI,unE,convE,okNil,builtE,gv,TD.isAgg,resV,↓reduceIte,Nat.reduceEqDiff,reduceCtorEq,Nat.reduceAdd,Nat.reduceMul,Nat.reduceLeDiff,quietOp,blindOp,Int.reduceEq,Int.reduceLT,Int.reduceLE,Nat.reduceLT,tiA,tiXA, h0]
    refine condC_cut (fun t H' => ∃ (u : Value) (l : List Int), t 2 = .pointer (some ⟨H.next, 0, none⟩) ∧ t 3 = .pointer (some ⟨ri, 0, none⟩) ∧ VL n l ∧ Dq cv nb si H H' [.row H.next ⟨26, true, [.int .i64 0, .slice none 0 0]⟩, .sl 14 69 u k (ints l), .row ri ⟨26, true, [.int .i64 n, u]⟩]) (fun _ => ?_) (fun _ => ?_) ?_
    · refine ⟨u, l, ?_⟩
      try simp (disch := first | omega | (simp only [L3] <;> omega)) only [Sall,evalOp,init,binA_s,binE,binI,unE,convE,okNil,builtE,gv,TD.isAgg,resV,↓reduceIte,Nat.reduceEqDiff,reduceCtorEq,Nat.reduceAdd,Nat.reduceMul,Nat.reduceLeDiff,quietOp,blindOp,Int.reduceEq,Int.reduceLT,Int.reduceLE,Nat.reduceLT,tiA,tiXA, h2, h3]
      exact ⟨hV, d6⟩
    · have g2 := d6.rowAt 2 rfl
      have hu5 := d6.one 1 rfl
      have hlu := (d6.rd 1 rfl).len
      refine draw_inS (fun j => j ≠ si) [0, 1, 2, 3, 4, 5, 6, 7] (by kernel_rfl) (by kernel_rfl) (by kernel_rfl) ?_
      try simp (disch := first | omega | (simp only [L3] <;> omega)) only [Sall,evalOp,init,binA_s,binE,binI,unE,convE,okNil,builtE,gv,TD.isAgg,resV,↓reduceIte,Nat.reduceEqDiff,reduceCtorEq,Nat.reduceAdd,Nat.reduceMul,Nat.reduceLeDiff,quietOp,blindOp,Int.reduceEq,Int.reduceLT,Int.reduceLE,Nat.reduceLT,tiA,tiXA, awpIS_nil, awpIS_cons, stepIS_op, loadOk, h0, h2, h3, g2, hu5, nri, builtE, hlu]
      refine (l01DrawOrder_c cv nb si k H7 (by omega) hnb (d6.src hsi) (d6.code hc hsc)).mono ?_
      rintro w H8 ⟨y, B8, k8, o8, hp⟩
      rw [Int.toNat_natCast] at o8 hp
      have d7 := d6.call hsi k8 o8
      refine ⟨.inr (.inr (les_of k8 o8 d6.sc)), ?_⟩
      have hw := o8.one 0 rfl
      try simp (disch := first | omega | (simp only [L3] <;> omega)) only [Sall,evalOp,init,binA_s,binE,binI,unE,convE,okNil,builtE,gv,TD.isAgg,resV,↓reduceIte,Nat.reduceEqDiff,reduceCtorEq,Nat.reduceAdd,Nat.reduceMul,Nat.reduceLeDiff,quietOp,blindOp,Int.reduceEq,Int.reduceLT,Int.reduceLE,Nat.reduceLT,tiA,tiXA, awpIS_nil, awpIS_cons, stepIS_op, loadOk, h2, h3, hw, hu5, nri]
      have hyl := hp.len
      refine (ACalls.scz (l01Reordered_c n u k l w y H8 (d7.rd 1 rfl) (by rw [hyl]; exact d7.rd 3 rfl) hp.rng (by omega) (by omega))).ex ?_
      rintro u' H9 ⟨⟨up9, fr9⟩, sc9⟩
      rw [hyl] at fr9
      have o9 := Ow.of_fr up9 sc9 fr9
      have d8 := d7.calls o9
      refine ⟨.inr (.inr (LE.les (o9.up.le d7.sc))), ?_⟩
      have g2' := d8.rowAt 2 rfl
      have hu7 := o9.one 0 rfl
      have d9 := d8.putRow 2 rfl (cs' := [.int .i64 n, u'])
      try simp (disch := first | omega | (simp only [L3] <;> omega)) only [Sall,evalOp,init,binA_s,binE,binI,unE,convE,okNil,builtE,gv,TD.isAgg,resV,↓reduceIte,Nat.reduceEqDiff,reduceCtorEq,Nat.reduceAdd,Nat.reduceMul,Nat.reduceLeDiff,quietOp,blindOp,Int.reduceEq,Int.reduceLT,Int.reduceLE,Nat.reduceLT,tiA,tiXA, awpIS_nil, awpIS_cons, stepIS_op, loadOk, h2, h3, g2', hu7, nri]
      exact ⟨.inr (.inl (by kernel_rfl)), u', reoL l y, reoVL hV, d9.map fun B o => Ow.swap1 o⟩
    · rintro t H8 ⟨u, l, h2, h3, hV, d7⟩
      have g2 := d7.rowAt 2 rfl
      have g0 := d7.rowAt 0 rfl
      have hu := d7.one 1 rfl
      try simp (disch := first | omega | (simp only [L3] <;> omega)) only [Sall,evalOp,init,binA_s,binE,binI,unE,convE,okNil,builtE,gv,TD.isAgg,resV,↓reduceIte,Nat.reduceEqDiff,reduceCtorEq,Nat.reduceAdd,Nat.reduceMul,Nat.reduceLeDiff,quietOp,blindOp,Int.reduceEq,Int.reduceLT,Int.reduceLE,Nat.reduceLT,tiA,tiXA, h2, h3, g2, g0, hu]
      exact ⟨n, k, u, l, rfl, hn.1, hn.2, hk.1, hk.2, hV, (d7.putRow 0 rfl).map fun B o => o.sub (fun _ => 1) (fun j hj => by
          obtain rfl : j = 0 := by simp at hj; omega
          rfl) (fun x y hx hy _ => by simp at hx hy; omega)⟩
end Go.Proofs.YtpienljnoaendaaGreat.A
end

section
namespace Go.Abs
open Go Go.RowKit
def awpTS (P : Program) (ops : Array Oper) (S : Nat → Prop) (Q : T → AH → Prop) : (ot : OT) → T → AH → (fun _ => Prop) (ops, Q, ot)
  | .nil, t, H => Q t H
  | .one i r, t, H => stepIS P ops S (awpTS P ops S Q r) i (ops.toList[i]?) t H
  | .two i j a b, t, H => stepIS P ops S (awpTS P ops S Q a) i (ops.toList[i]?) t H ∧ stepIS P ops S (awpTS P ops S Q b) j (ops.toList[j]?) t H
  | .three i j k a b c, t, H => stepIS P ops S (awpTS P ops S Q a) i (ops.toList[i]?) t H ∧ stepIS P ops S (awpTS P ops S Q b) j (ops.toList[j]?) t H ∧ stepIS P ops S (awpTS P ops S Q c) k (ops.toList[k]?) t H
theorem stepIS_a {P : Program} {ops : Array Oper} {S : Nat → Prop} {K : T → AH → Prop} {i : Nat} {t : T} {H : AH} (h : stepIS P ops S K i (ops.toList[i]?) t H) :
    (∃ o, ops.toList[i]? = some o ∧ loadOk S t o.op) ∧ aStep P ops.toList i t H fun t' H' => ((∃ o, ops.toList[i]? = some o ∧ quietOp o.op = true) ∨ sinkB ops i = true ∨ LES S H H') ∧ K t' H' := by
  unfold aStep
  cases e : ops.toList[i]? with
  | none => rw [e] at h; exact h.elim
  | some o =>
    rw [e] at h
    unfold stepIS at h
    simp only
    cases hg : o.guard with
    | none => simp only [hg] at h ⊢; exact ⟨⟨o, rfl, h.1⟩, runOut_mono (fun v H' k => ⟨k.1.imp (fun q => ⟨o, rfl, q⟩) id, k.2⟩) _ h.2⟩
    | some g => simp only [hg] at h ⊢; exact ⟨⟨o, rfl, h.1⟩, condW_mono h.2 (runOut_mono (fun v H' k => ⟨k.1.imp (fun q => ⟨o, rfl, q⟩) id, k.2⟩) _) (fun k => ⟨.inr (.inr (LES.refl S H)), k⟩)⟩
theorem stepIS_s {P : Program} {ops : Array Oper} {S : Nat → Prop} {K : T → AH → Prop} {i : Nat} {t : T} {H : AH} (h : stepIS P ops S K i (ops.toList[i]?) t H) :
    aStep P ops.toList i t H fun t' H' => (sinkB ops i = true ∨ LES S H H') ∧ K t' H' := by
  cases e : ops.toList[i]? with
  | none => rw [e] at h; exact h.elim
  | some o =>
    by_cases hq : quietOp o.op = true
    · have ho : ops[i]? = some o := by simpa using e
      obtain ⟨v, hy, hk⟩ := aStep_quiet ho hq (stepIS_a h).2
      exact hy.step ho hq ⟨.inr (LES.refl _ _), hk.2⟩
    · refine aStep_mono (stepIS_a h).2 fun t' H' hk => ⟨?_, hk.2⟩
      rcases hk.1 with ⟨o', e', q'⟩ | k
      · rw [e] at e'; cases e'; exact absurd q' hq
      · exact k
theorem AAnyS_tree {P : Program} {ops : Array Oper} {S : Nat → Prop} {Q : T → AH → Prop} : ∀ (ot : OT) (listed : Array Bool) (t : T) (H : AH) (f : Nat), ot.depth ≤ f → Closed ops listed → okOT ops ot listed = true → awpTS P ops S Q ot t H → AAnyS P ops S Q f listed t H
  | .nil, listed, t, H, f, _, _, hok, h => by
    have hr : Region.ready .any ops listed = [] := by simpa [okOT] using hok
    cases f with
    | zero => exact ⟨hr, h⟩
    | succ f => exact ⟨fun _ => h, by rw [hr]; simp⟩
  | .one i r, listed, t, H, 0, hl, _, _, _ => by simp [OT.depth] at hl
  | .two i j a b, listed, t, H, 0, hl, _, _, _ => by simp [OT.depth] at hl
  | .three i j k a b c, listed, t, H, 0, hl, _, _, _ => by simp [OT.depth] at hl
  | .one i r, listed, t, H, f + 1, hl, hc, hok, h => by
    simp only [okOT, Bool.and_eq_true] at hok
    simp only [OT.depth] at hl
    obtain ⟨h1, h2⟩ := hok
    unfold awpTS at h
    cases ho : ops[i]? with
    | none => simp [ho] at h1
    | some o =>
      simp only [ho] at h1
      split at h1
      · rename_i hq
        simp only [Bool.and_eq_true] at h1
        obtain ⟨hr, hfr⟩ := h1
        have hr' : i ∈ Region.ready .any ops listed := by simpa using hr
        obtain ⟨v, hy, hk⟩ := aStep_quiet ho hq (stepIS_s h)
        obtain ⟨⟨o', e', hl'⟩, _⟩ := stepIS_a h
        have eo : o' = o := by
          have e2 : ops.toList[i]? = some o := by simpa using ho
          exact Option.some.inj (e'.symm.trans e2)
        subst eo
        exact AAnyS_first ho hq f listed t H hc (Region.free_spec ho hfr) hr' (safe_of hq hl') hy (AAnyS_tree r _ _ H f (by omega) (hc.set hr') h2 hk.2)
      · have hr : Region.ready .any ops listed = [i] := by simpa using h1
        refine ⟨fun h0 => (by rw [hr] at h0; cases h0), fun j hj => ?_⟩
        have hji : j = i := by rw [hr] at hj; simpa using hj
        subst hji
        exact aStep_mono (stepIS_s h) fun t' H' hk => ⟨hk.1, AAnyS_tree r _ t' H' f (by omega) (hc.set hj) h2 hk.2⟩
  | .two i j a b, listed, t, H, f + 1, hl, hc, hok, h => by
    simp only [okOT, Bool.and_eq_true] at hok
    simp only [OT.depth] at hl
    obtain ⟨⟨h1, h2⟩, h3⟩ := hok
    unfold awpTS at h
    have hr : Region.ready .any ops listed = [i, j] := by simpa using h1
    refine ⟨fun h0 => (by rw [hr] at h0; cases h0), fun x hx => ?_⟩
    have hx2 : x = i ∨ x = j := by rw [hr] at hx; simpa using hx
    rcases hx2 with rfl | rfl
    · exact aStep_mono (stepIS_s h.1) fun t' H' hk => ⟨hk.1, AAnyS_tree a _ t' H' f (by omega) (hc.set hx) h2 hk.2⟩
    · exact aStep_mono (stepIS_s h.2) fun t' H' hk => ⟨hk.1, AAnyS_tree b _ t' H' f (by omega) (hc.set hx) h3 hk.2⟩
  | .three i j k a b c, listed, t, H, f + 1, hl, hc, hok, h => by
    simp only [okOT, Bool.and_eq_true] at hok
    simp only [OT.depth] at hl
    obtain ⟨⟨⟨h1, h2⟩, h3⟩, h4⟩ := hok
    unfold awpTS at h
    have hr : Region.ready .any ops listed = [i, j, k] := by simpa using h1
    refine ⟨fun h0 => (by rw [hr] at h0; cases h0), fun x hx => ?_⟩
    have hx2 : x = i ∨ x = j ∨ x = k := by rw [hr] at hx; simpa using hx
    rcases hx2 with rfl | rfl | rfl
    · exact aStep_mono (stepIS_s h.1) fun t' H' hk => ⟨hk.1, AAnyS_tree a _ t' H' f (by omega) (hc.set hx) h2 hk.2⟩
    · exact aStep_mono (stepIS_s h.2.1) fun t' H' hk => ⟨hk.1, AAnyS_tree b _ t' H' f (by omega) (hc.set hx) h3 hk.2⟩
    · exact aStep_mono (stepIS_s h.2.2) fun t' H' hk => ⟨hk.1, AAnyS_tree c _ t' H' f (by omega) (hc.set hx) h4 hk.2⟩
theorem draw_treeS {P : Program} {id : Nat} {ops : Array Oper} {Q : Exit → T → AH → Prop} {t : T} {H : AH} (S : Nat → Prop) (ot : OT) (hm : P.follows .mixedOrders = true) (hok : okOT ops ot (Array.replicate ops.size false) = true) (hl : ot.depth ≤ ops.size)
    (h : awpTS P ops S (Q .normal) ot t H) : awp P (.region id ops true) Q t H := by
  intro base ρ w tmps QC hS hd hQ
  have hA := AAnyS_tree ot _ t H ops.size hl ⟨by simp, fun j oj hj hl => by rw [getD_replicate_false'] at hl; cases hl⟩ hok h
  refine wp_region_any hm (AAnyS_ok ops.size _ t H ρ w.drew tmps hA ⟨hS.1.drew, hS.2.ext (ext_drew (base := base) (H := H) w)⟩ ?_ fun t' H' ρ' w' tmps' hq hs he hz => ?_)
  · intro o ho i hi
    have := List.all_eq_true.1 hd o ho
    simp only [hi, decide_eq_true_eq] at this
    exact this
  · exact hQ .normal t' H' ρ' w' tmps' hq hs ((ext_drew (base := base) (H := H) (ρ := ρ) w).trans he) hz
theorem awpTS_nil (P : Program) (ops : Array Oper) (S : Nat → Prop) (Q : T → AH → Prop) (t : T) (H : AH) : awpTS P ops S Q .nil t H = Q t H := (rfl)
theorem awpTS_one (P : Program) (ops : Array Oper) (S : Nat → Prop) (Q : T → AH → Prop) (i : Nat) (r : OT) (t : T) (H : AH) : awpTS P ops S Q (.one i r) t H = stepIS P ops S (awpTS P ops S Q r) i (ops.toList[i]?) t H := (rfl)
theorem awpTS_two {P : Program} {ops : Array Oper} {S : Nat → Prop} {Q : T → AH → Prop} {i j : Nat} {a b : OT} {t : T} {H : AH} (h : stepIS P ops S (awpTS P ops S Q a) i (ops.toList[i]?) t H) (k : stepIS P ops S (awpTS P ops S Q b) j (ops.toList[j]?) t H) : awpTS P ops S Q (.two i j a b) t H := ⟨h, k⟩
theorem awpTS_run_nil (P : Program) (ops : Array Oper) (S : Nat → Prop) (Q : T → AH → Prop) (r : OT) (t : T) (H : AH) : awpTS P ops S Q (OT.run [] r) t H = awpTS P ops S Q r t H := (rfl)
theorem awpTS_run_cons (P : Program) (ops : Array Oper) (S : Nat → Prop) (Q : T → AH → Prop) (i : Nat) (is : List Nat) (r : OT) (t : T) (H : AH) : awpTS P ops S Q (OT.run (i :: is) r) t H = stepIS P ops S (awpTS P ops S Q (OT.run is r)) i (ops.toList[i]?) t H := (rfl)
@[congr] theorem awpTS_congr {P : Program} {ops : Array Oper} {S : Nat → Prop} {ot : OT} {Q : T → AH → Prop} {t t' : T} {H H' : AH} (h : t = t') (k : H = H') : awpTS P ops S Q ot t H = awpTS P ops S Q ot t' H' := by rw [h, k]
end Go.Abs
end

section
set_option maxRecDepth 100000
set_option maxHeartbeats 2000000
namespace Go.Proofs.YtpienljnoaendaaGreat.A
open Go Go.Abs Go.RowKit
def DrawnC (cv : Value) (nb si : Nat) (H : AH) (v : Value) (H' : AH) : Prop :=
  ∃ (n k : Nat) (u : Value) (l : List Int), v = .agg #[.int .i64 n, u] ∧ (2 ≤ n ∧ n ≤ 14) ∧ k ≤ 40 ∧ VL n l ∧ Dq cv nb si H H' [.cap 14 69 u k (ints l)]
theorem Dq.sub1 {cv : Value} {nb si : Nat} {H H' : AH} {L : List Th} {p : Th} (h : Dq cv nb si H H' L) (k : Nat) (hk : L[k]? = some p) : Dq cv nb si H H' [p] := h.map fun B o => o.sub (fun _ => k) (fun j hj => by
    obtain rfl : j = 0 := by simp at hj; omega
    exact hk) (fun x y hx hy _ => by simp at hx hy; omega)
theorem Dq.toCap {cv : Value} {nb si : Nat} {H H' : AH} {L : List Th} (h : Dq cv nb si H H' L) (k : Nat) {z n : Nat} {ty : TypeId} {v : Value} {vs : List Value} (hk : L[k]? = some (.sl z ty v n vs)) : Dq cv nb si H H' (L.set k (.cap z ty v n vs)) := h.map fun B o => o.toCap k hk
theorem Dq.cut {cv : Value} {nb si : Nat} {H H' : AH} {L : List Th} (h : Dq cv nb si H H' L) (k : Nat) {z n : Nat} {ty : TypeId} {v : Value} {l : List Int} (hk : L[k]? = some (.cap z ty v n (ints l))) {hi : Option Int} {b : Nat} (hb : hi.getD (n : Int) = (b : Int)) (hbn : b ≤ n) :
    ∃ w, (∀ (P : Program) (E : TI) (K : Value → AH → Prop) (H2 : AH), E.size = z → K w H2 → runOut P H2 (sliceE E v none hi none H2) K) ∧ Dq cv nb si H H' (L.set k (.cap z ty w b (ints (l.take (b * z))))) := by
  obtain ⟨B, b1, o⟩ := h.ex
  obtain ⟨w, h1, h2⟩ := o.cut k hk hb hbn
  exact ⟨w, h1, ⟨⟨B, b1, h2⟩⟩⟩
theorem Dq.appC {cv : Value} {nb si : Nat} {H0 : AH} {P : Program} {E : TI} {z n c : Nat} {ty : TypeId} {H : AH} {L : List Th} {v : Value} {vs ms : List Value} {K : Value → AH → Prop} (h : Dq cv nb si H0 H L) (k : Nat) (hk : L[k]? = some (.cap z ty v n vs)) (hz : E.size = z) (hz0 : 0 < z) (hm : ms.length = c * z) (hc : 0 < c) (hb : E.bytes ≤ 32768) (hn : n + c ≤ 4294967296)
    (hK : ∀ v' H', Dq cv nb si H0 H' (L.set k (.cap z ty v' (n + c) (vs ++ ms))) → K v' H') : runOut P H (appE E ty v ms c H) K := by
  obtain ⟨B, b, o⟩ := h.ex
  exact o.appC k hk hz hz0 hm hc hb hn fun v' H' _ o' => hK v' H' ⟨⟨B, b, o'⟩⟩
theorem SrcB.les {cv : Value} {nb si : Nat} {H H' : AH} (k : SrcB cv nb si H H') : LES (fun j => j ≠ si) H H' := ⟨Nat.le_of_eq k.next.symm, fun i r hi hr => by rw [k.row i hi]; exact hr⟩
theorem nextE {cv : Value} {nb si : Nat} {H Hp : AH} {L : List Th} (n : Int) (d : Dq cv nb si H Hp L) (hsi : si < H.next) (hc : CodeX cv nb si H) (hsc : Sc H) (hnb : nb ≤ 4611686018427387904) (hn : n ≤ 9223372036854775807) :
    ACalls Tryz.prog 99 [.pointer (some ⟨si, 0, none⟩), .int .i64 n] Hp (fun v H' => ∃ x : Nat, v = .int .i64 x ∧ ((n < 1 ∧ x = 0) ∨ (x : Int) < n) ∧ LES (fun j => j ≠ si) Hp H' ∧ Dq cv nb si H H' L) := by
  refine (l01Next_c cv nb si n Hp hn hnb (d.src hsi) (d.code hc hsc)).mono ?_
  rintro v H' ⟨x, hv, hx, hS⟩
  exact ⟨x, hv, hx, hS.les, d.next hsi hS⟩
theorem Ow.six1 {B H : AH} {a b c d e f : Th} (o : Ow B H [a, b, c, d, e, f]) : Ow B H [a, b, c, e, f] :=
  o.sub (fun j => ([0, 1, 2, 4, 5] : List Nat).getD j 9) (fun j hj => by
    have hj : j < 5 := hj
    rcases j with _ | _ | _ | _ | _ | j <;> first | rfl | omega) (fun x y hx hy h => by
    have hh : ∀ x, x < 5 → ∀ y, y < 5 → ([0, 1, 2, 4, 5] : List Nat).getD x 9 = ([0, 1, 2, 4, 5] : List Nat).getD y 9 → x = y := by decide
    exact hh x hx y hy h)
theorem Ow.six2 {B H : AH} {a b c d e f : Th} (o : Ow B H [a, b, c, d, e, f]) : Ow B H [a, b, c, f, e] :=
  o.sub (fun j => ([0, 1, 2, 5, 4] : List Nat).getD j 9) (fun j hj => by
    have hj : j < 5 := hj
    rcases j with _ | _ | _ | _ | _ | j <;> first | rfl | omega) (fun x y hx hy h => by
    have hh : ∀ x, x < 5 → ∀ y, y < 5 → ([0, 1, 2, 5, 4] : List Nat).getD x 9 = ([0, 1, 2, 5, 4] : List Nat).getD y 9 → x = y := by decide
    exact hh x hx y hy h)
theorem Ow.six3 {B H : AH} {a b c d e f : Th} (o : Ow B H [a, b, c, d, e, f]) : Ow B H [a, b, c, f, d] :=
  o.sub (fun j => ([0, 1, 2, 5, 3] : List Nat).getD j 9) (fun j hj => by
    have hj : j < 5 := hj
    rcases j with _ | _ | _ | _ | _ | j <;> first | rfl | omega) (fun x y hx hy h => by
    have hh : ∀ x, x < 5 → ∀ y, y < 5 → ([0, 1, 2, 5, 3] : List Nat).getD x 9 = ([0, 1, 2, 5, 3] : List Nat).getD y 9 → x = y := by decide
    exact hh x hx y hy h)
theorem VL.take {n : Nat} {l : List Int} (h : VL n l) (k : Nat) : VL n (l.take k) := fun x hx => h x (List.mem_of_mem_take hx)
theorem l01Draw_c (cv : Value) (nb si : Nat) (H : AH) (hnb : nb ≤ 4611686018427387904) (hs : Src cv nb si H) (hc : CodeX cv nb si H) :
    ACalls Tryz.prog 100 [.pointer (some ⟨si, 0, none⟩)] H (DrawnC cv nb si H) := by
  refine ACalls.wf (by kernel_rfl) fun hsc => acalls_of_awp [.cell 2 26] Tryz.func100 (by kernel_rfl) rfl rfl (Nat.le_of_ble_eq_true rfl) (by kernel_rfl) ?_
  obtain ⟨_, _, hrow, _⟩ := id hs
  have hsi := hsc _ _ hrow
  clear hrow
  have d0 := (Dq.start hs hsc).push ⟨26, true, [.int .i64 0, .slice none 0 0]⟩
  try simp (disch := first | omega | (simp only [L3] <;> omega)) only [Sall,evalOp,init,binA_s,binE,binI,unE,convE,okNil,builtE,gv,TD.isAgg,resV,↓reduceIte,Nat.reduceEqDiff,reduceCtorEq,Nat.reduceAdd,Nat.reduceMul,Nat.reduceLeDiff,quietOp,blindOp,Int.reduceEq,Int.reduceLT,Int.reduceLE,Nat.reduceLT,tiA,tiXA, true_and]
  generalize H.push ⟨26, true, [.int .i64 0, .slice none 0 0]⟩ = H1 at d0 ⊢
  refine ACalls.ex4 (g := fun n _ u _ => .agg #[.int .i64 (n : Nat), u]) (l01DrawRobin_c cv nb si H1 hnb (d0.src hsi) (d0.code hc hsc)) ?_
  rintro n k u l H2 ⟨hn1, hn2, hk1, hk2, hV, e1⟩
  have d1 := d0.bind hsi e1
  have hu := d1.one 1 rfl
  have d2 := ((d1.push ⟨26, true, [.int .i64 0, .slice none 0 0]⟩).putRow 2 rfl (cs' := [.int .i64 n, u])).toCap 1 rfl
  refine Holds.mp ?_
  try simp (disch := first | omega | (simp only [L3] <;> omega)) only [Sall,evalOp,init,binA_s,binE,binI,unE,convE,okNil,builtE,gv,TD.isAgg,resV,↓reduceIte,Nat.reduceEqDiff,reduceCtorEq,Nat.reduceAdd,Nat.reduceMul,Nat.reduceLeDiff,quietOp,blindOp,Int.reduceEq,Int.reduceLT,Int.reduceLE,Nat.reduceLT,tiA,tiXA, hu]
  obtain ⟨ri, eri⟩ : ∃ ri, ri = H2.next := ⟨_, rfl⟩
  have nri : ¬ ri = si := by have := d1.le; omega
  rw [← eri] at d2 ⊢
  generalize (H2.push ⟨26, true, [.int .i64 0, .slice none 0 0]⟩).setCells ri [.int .i64 n, u] = H3 at d2 ⊢
  refine (nextD 4 d2 hsi hc hsc hnb (by omega)).ex ?_
  rintro x H4 ⟨hx, d3⟩
  have d3 : Dq cv nb si H H4 [.row H.next ⟨26, true, [.int .i64 0, .slice none 0 0]⟩, .cap 14 69 u k (ints l), .row ri ⟨26, true, [.int .i64 n, u]⟩] := d3
  have g0 := d3.rowAt 0 rfl
  have g2 := d3.rowAt 2 rfl
  have hu3 := d3.capOne 1 rfl
  have hlu := (d3.capRs 1 rfl).rd.len
  refine Holds.mp ?_
  by_cases c0 : (x : Int) = 0
  · have f0 : ((x : Int) == 0) = true := beq_iff_eq.2 c0
    try simp (disch := first | omega | (simp only [L3] <;> omega)) only [Sall,evalOp,init,binA_s,binE,binI,unE,convE,okNil,builtE,gv,TD.isAgg,resV,↓reduceIte,Nat.reduceEqDiff,reduceCtorEq,Nat.reduceAdd,Nat.reduceMul,Nat.reduceLeDiff,quietOp,blindOp,Int.reduceEq,Int.reduceLT,Int.reduceLE,Nat.reduceLT,tiA,tiXA, f0, g0, g2, hu3]
    exact ⟨n, k, u, l, rfl, ⟨hn1, hn2⟩, by omega, hV, (d3.putRow 0 rfl).sub1 1 rfl⟩
  have f0 : ((x : Int) == 0) = false := beq_eq_false_iff_ne.2 c0
  by_cases c1 : (x : Int) = 1
  · have f1 : ((x : Int) == 1) = true := beq_iff_eq.2 c1
    try simp (disch := first | omega | (simp only [L3] <;> omega)) only [Sall,evalOp,init,binA_s,binE,binI,unE,convE,okNil,builtE,gv,TD.isAgg,resV,↓reduceIte,Nat.reduceEqDiff,reduceCtorEq,Nat.reduceAdd,Nat.reduceMul,Nat.reduceLeDiff,quietOp,blindOp,Int.reduceEq,Int.reduceLT,Int.reduceLE,Nat.reduceLT,tiA,tiXA, f0, f1]
    refine draw_inS (fun j => j ≠ si) [0, 1, 2, 3, 4, 5, 6, 7, 8, 9, 10] (by kernel_rfl) (by kernel_rfl) (by kernel_rfl) ?_
    try simp (disch := first | omega | (simp only [L3] <;> omega)) only [Sall,evalOp,init,binA_s,binE,binI,unE,convE,okNil,builtE,gv,TD.isAgg,resV,↓reduceIte,Nat.reduceEqDiff,reduceCtorEq,Nat.reduceAdd,Nat.reduceMul,Nat.reduceLeDiff,quietOp,blindOp,Int.reduceEq,Int.reduceLT,Int.reduceLE,Nat.reduceLT,tiA,tiXA, awpIS_nil, awpIS_cons, stepIS_op, loadOk, g2, hu3, nri, builtE, hlu, w64]
    refine (nextE ((k : Int) + 1) d3 hsi hc hsc hnb (by omega)).ex ?_
    rintro y H5 ⟨hy, les5, d4⟩
    have hyk : y ≤ k := by omega
    obtain ⟨w, hw, d5⟩ := d4.cut 1 rfl (hi := some (y : Int)) (b := y) rfl hyk
    have g2' := d5.rowAt 2 rfl
    have hw1 := d5.capOne 1 rfl
    refine ⟨.inr (.inr les5), ?_⟩
    try simp (disch := first | omega | (simp only [L3] <;> omega)) only [Sall,evalOp,init,binA_s,binE,binI,unE,convE,okNil,builtE,gv,TD.isAgg,resV,↓reduceIte,Nat.reduceEqDiff,reduceCtorEq,Nat.reduceAdd,Nat.reduceMul,Nat.reduceLeDiff,quietOp,blindOp,Int.reduceEq,Int.reduceLT,Int.reduceLE,Nat.reduceLT,tiA,tiXA, awpIS_nil, awpIS_cons, stepIS_op, loadOk, nri]
    refine hw _ _ _ _ rfl ?_
    try simp (disch := first | omega | (simp only [L3] <;> omega)) only [Sall,evalOp,init,binA_s,binE,binI,unE,convE,okNil,builtE,gv,TD.isAgg,resV,↓reduceIte,Nat.reduceEqDiff,reduceCtorEq,Nat.reduceAdd,Nat.reduceMul,Nat.reduceLeDiff,quietOp,blindOp,Int.reduceEq,Int.reduceLT,Int.reduceLE,Nat.reduceLT,tiA,tiXA, awpIS_nil, awpIS_cons, stepIS_op, loadOk, g2', hw1, nri]
    have d6 := d5.putRow 2 rfl (cs' := [.int .i64 n, w])
    have hVy := hV.take (y * 14)
    have hy13 : y ≤ 13 := by omega
    refine ⟨.inr (.inl (by kernel_rfl)), ?_⟩
    generalize H5.setCells ri [.int .i64 n, w] = H6 at d6 ⊢
    generalize l.take (y * 14) = l2 at d6 hVy ⊢
    refine (nextD 3 d6 hsi hc hsc hnb (by omega)).ex ?_
    rintro cc H7 ⟨hcc, d7⟩
    refine Holds.mp ?_
    try simp (disch := first | omega | (simp only [L3] <;> omega)) only [Sall,evalOp,init,binA_s,binE,binI,unE,convE,okNil,builtE,gv,TD.isAgg,resV,↓reduceIte,Nat.reduceEqDiff,reduceCtorEq,Nat.reduceAdd,Nat.reduceMul,Nat.reduceLeDiff,quietOp,blindOp,Int.reduceEq,Int.reduceLT,Int.reduceLE,Nat.reduceLT,tiA,tiXA, true_and]
    refine awp_loop (fun z t H' => ∃ (c k' : Nat) (u' : Value) (l' : List Int), z = c ∧ k' + c ≤ 15 ∧ t 4 = .int .i64 c ∧ t 0 = .pointer (some ⟨si, 0, none⟩) ∧ t 2 = .pointer (some ⟨H.next, 0, none⟩) ∧ t 3 = .pointer (some ⟨ri, 0, none⟩) ∧ VL n l' ∧ Dq cv nb si H H' [.row H.next ⟨26, true, [.int .i64 0, .slice none 0 0]⟩, .cap 14 69 u' k' (ints l'), .row ri ⟨26, true, [.int .i64 n, u']⟩]) cc ?_ ?_
    · refine ⟨cc, y, w, l2, rfl, by omega, ?_⟩
      try simp (disch := first | omega | (simp only [L3] <;> omega)) only [Sall,evalOp,init,binA_s,binE,binI,unE,convE,okNil,builtE,gv,TD.isAgg,resV,↓reduceIte,Nat.reduceEqDiff,reduceCtorEq,Nat.reduceAdd,Nat.reduceMul,Nat.reduceLeDiff,quietOp,blindOp,Int.reduceEq,Int.reduceLT,Int.reduceLE,Nat.reduceLT,tiA,tiXA, true_and]
      exact ⟨hVy, d7⟩
    · rintro z t H' ⟨c, k', u', l', hz, hkc, h4, h0, h2, h3, hV', d8⟩
      have q0 := d8.rowAt 0 rfl
      have q2 := d8.rowAt 2 rfl
      have hu8 := d8.capOne 1 rfl
      try simp (disch := first | omega | (simp only [L3] <;> omega)) only [Sall,evalOp,init,binA_s,binE,binI,unE,convE,okNil,builtE,gv,TD.isAgg,resV,↓reduceIte,Nat.reduceEqDiff,reduceCtorEq,Nat.reduceAdd,Nat.reduceMul,Nat.reduceLeDiff,quietOp,blindOp,Int.reduceEq,Int.reduceLT,Int.reduceLE,Nat.reduceLT,tiA,tiXA, h4]
      refine condC_dec (fun hh => ?_) (fun hh => ?_)
      · try simp (disch := first | omega | (simp only [L3] <;> omega)) only [Sall,evalOp,init,binA_s,binE,binI,unE,convE,okNil,builtE,gv,TD.isAgg,resV,↓reduceIte,Nat.reduceEqDiff,reduceCtorEq,Nat.reduceAdd,Nat.reduceMul,Nat.reduceLeDiff,quietOp,blindOp,Int.reduceEq,Int.reduceLT,Int.reduceLE,Nat.reduceLT,tiA,tiXA, true_and]
        refine draw_inS (fun j => j ≠ si) [0, 1, 2, 3, 4, 5, 6, 7, 8, 9] (by kernel_rfl) (by kernel_rfl) (by kernel_rfl) ?_
        try simp (disch := first | omega | (simp only [L3] <;> omega)) only [Sall,evalOp,init,binA_s,binE,binI,unE,convE,okNil,builtE,gv,TD.isAgg,resV,↓reduceIte,Nat.reduceEqDiff,reduceCtorEq,Nat.reduceAdd,Nat.reduceMul,Nat.reduceLeDiff,quietOp,blindOp,Int.reduceEq,Int.reduceLT,Int.reduceLE,Nat.reduceLT,tiA,tiXA, awpIS_nil, awpIS_cons, stepIS_op, loadOk, h0, h2, h3, q2, hu8, nri]
        refine (l01DrawRound_c cv nb si n H' ⟨by omega, hn2⟩ hnb (d8.src hsi) (d8.code hc hsc)).ex ?_
        rintro rd H9 ⟨hrl, hR, e9⟩
        have d9 := d8.bind hsi e9
        refine ⟨.inr (.inr (e9.les d8.sc)), ?_⟩
        try simp (disch := first | omega | (simp only [L3] <;> omega)) only [Sall,evalOp,init,binA_s,binE,binI,unE,convE,okNil,builtE,gv,TD.isAgg,resV,↓reduceIte,Nat.reduceEqDiff,reduceCtorEq,Nat.reduceAdd,Nat.reduceMul,Nat.reduceLeDiff,quietOp,blindOp,Int.reduceEq,Int.reduceLT,Int.reduceLE,Nat.reduceLT,tiA,tiXA, awpIS_nil, awpIS_cons, stepIS_op, loadOk, nri, hrl, slCells, zeros_one]
        (repeat refine And.intro (by omega) ?_)
        refine ⟨.inr (.inr (LE.les (d9.sc.le _))), ?_⟩
        refine (d9.tmp ⟨69, true, ints rd⟩).appC 1 (c := 1) (ms := ints rd) rfl rfl (by omega) (by rw [ints_length, hrl]) (by omega) (by decide) (by omega) ?_
        intro v' H10 d10
        rw [ints_append] at d10
        have q2' := d10.rowAt 2 rfl
        have hv' := d10.capOne 1 rfl
        refine ⟨.inr (.inl (by kernel_rfl)), ?_⟩
        try simp (disch := first | omega | (simp only [L3] <;> omega)) only [Sall,evalOp,init,binA_s,binE,binI,unE,convE,okNil,builtE,gv,TD.isAgg,resV,↓reduceIte,Nat.reduceEqDiff,reduceCtorEq,Nat.reduceAdd,Nat.reduceMul,Nat.reduceLeDiff,quietOp,blindOp,Int.reduceEq,Int.reduceLT,Int.reduceLE,Nat.reduceLT,tiA,tiXA, awpIS_nil, awpIS_cons, stepIS_op, loadOk, h3, q2', hv', nri]
        have d11 := d10.putRow 2 rfl (cs' := [.int .i64 n, v'])
        refine ⟨.inr (.inl (by kernel_rfl)), ?_⟩
        try simp (disch := first | omega | (simp only [L3] <;> omega)) only [Sall,evalOp,init,binA_s,binE,binI,unE,convE,okNil,builtE,gv,TD.isAgg,resV,↓reduceIte,Nat.reduceEqDiff,reduceCtorEq,Nat.reduceAdd,Nat.reduceMul,Nat.reduceLeDiff,quietOp,blindOp,Int.reduceEq,Int.reduceLT,Int.reduceLE,Nat.reduceLT,tiA,tiXA, h4, h0, h2, h3, w64]
        exact ⟨c - 1, by omega, c - 1, k' + 1, v', _, rfl, by omega, by omega, hV'.app hR, d11⟩
      · try simp (disch := first | omega | (simp only [L3] <;> omega)) only [Sall,evalOp,init,binA_s,binE,binI,unE,convE,okNil,builtE,gv,TD.isAgg,resV,↓reduceIte,Nat.reduceEqDiff,reduceCtorEq,Nat.reduceAdd,Nat.reduceMul,Nat.reduceLeDiff,quietOp,blindOp,Int.reduceEq,Int.reduceLT,Int.reduceLE,Nat.reduceLT,tiA,tiXA, h2, h3, q0, q2, hu8]
        exact ⟨n, k', u', l', rfl, ⟨hn1, hn2⟩, by omega, hV', (d8.putRow 0 rfl).sub1 1 rfl⟩
  have f1 : ((x : Int) == 1) = false := beq_eq_false_iff_ne.2 c1
  by_cases c2 : (x : Int) = 2
  · have f2 : ((x : Int) == 2) = true := beq_iff_eq.2 c2
    have f3 : decide ((2 : Int) * (k : Int) ≤ 40) = true := decide_eq_true (by omega)
    try simp (disch := first | omega | (simp only [L3] <;> omega)) only [Sall,evalOp,init,binA_s,binE,binI,unE,convE,okNil,builtE,gv,TD.isAgg,resV,↓reduceIte,Nat.reduceEqDiff,reduceCtorEq,Nat.reduceAdd,Nat.reduceMul,Nat.reduceLeDiff,quietOp,blindOp,Int.reduceEq,Int.reduceLT,Int.reduceLE,Nat.reduceLT,tiA,tiXA, f0, f1, f2, g2, hu3, builtE, hlu, w64, f3]
    refine (nextD 2 d3 hsi hc hsc hnb (by omega)).ex ?_
    rintro y H5 ⟨hy, d4⟩
    have q2 := d4.rowAt 2 rfl
    have hu4 := d4.capOne 1 rfl
    refine Holds.mp ?_
    try simp (disch := first | omega | (simp only [L3] <;> omega)) only [Sall,evalOp,init,binA_s,binE,binI,unE,convE,okNil,builtE,gv,TD.isAgg,resV,↓reduceIte,Nat.reduceEqDiff,reduceCtorEq,Nat.reduceAdd,Nat.reduceMul,Nat.reduceLeDiff,quietOp,blindOp,Int.reduceEq,Int.reduceLT,Int.reduceLE,Nat.reduceLT,tiA,tiXA, true_and]
    refine condC_cut (fun t H' => ∃ (k' : Nat) (u' : Value) (l' : List Int), t 2 = .pointer (some ⟨H.next, 0, none⟩) ∧ t 3 = .pointer (some ⟨ri, 0, none⟩) ∧ k' ≤ 40 ∧ VL n l' ∧ Dq cv nb si H H' [.row H.next ⟨26, true, [.int .i64 0, .slice none 0 0]⟩, .cap 14 69 u' k' (ints l'), .row ri ⟨26, true, [.int .i64 n, u']⟩]) (fun _ => ?_) (fun _ => ?_) ?_
    · refine ⟨k, u, l, ?_⟩
      try simp (disch := first | omega | (simp only [L3] <;> omega)) only [Sall,evalOp,init,binA_s,binE,binI,unE,convE,okNil,builtE,gv,TD.isAgg,resV,↓reduceIte,Nat.reduceEqDiff,reduceCtorEq,Nat.reduceAdd,Nat.reduceMul,Nat.reduceLeDiff,quietOp,blindOp,Int.reduceEq,Int.reduceLT,Int.reduceLE,Nat.reduceLT,tiA,tiXA, true_and]
      exact ⟨by omega, hV, d4⟩
    · try simp (disch := first | omega | (simp only [L3] <;> omega)) only [Sall,evalOp,init,binA_s,binE,binI,unE,convE,okNil,builtE,gv,TD.isAgg,resV,↓reduceIte,Nat.reduceEqDiff,reduceCtorEq,Nat.reduceAdd,Nat.reduceMul,Nat.reduceLeDiff,quietOp,blindOp,Int.reduceEq,Int.reduceLT,Int.reduceLE,Nat.reduceLT,tiA,tiXA, true_and]
      refine awp_cutQ (fun t H' => ∃ (rk : Nat) (u2 : Value) (l2 : List Int), t 2 = .pointer (some ⟨H.next, 0, none⟩) ∧ t 3 = .pointer (some ⟨ri, 0, none⟩) ∧ t 5 = .pointer (some ⟨rk, 0, none⟩) ∧ VL n l2 ∧ Dq cv nb si H H' [.row H.next ⟨26, true, [.int .i64 0, .slice none 0 0]⟩, .cap 14 69 u k (ints l), .row ri ⟨26, true, [.int .i64 n, u]⟩, .sl 14 69 u2 k (ints l2), .row rk ⟨26, true, [.int .i64 n, u2]⟩]) ?_ ?_
      · refine draw_treeS (fun j => j ≠ si) (OT.run [0, 1, 2, 3] (.two 4 6 (OT.run [] (.two 5 6 (OT.run [6, 7] .nil) (OT.run [5, 7] .nil))) (OT.run [4, 5, 7] .nil))) (by kernel_rfl) (by kernel_rfl) (Nat.le_of_ble_eq_true rfl) ?_
        try simp (disch := first | omega | (simp only [L3] <;> omega)) only [Sall,evalOp,init,binA_s,binE,binI,unE,convE,okNil,builtE,gv,TD.isAgg,resV,↓reduceIte,Nat.reduceEqDiff,reduceCtorEq,Nat.reduceAdd,Nat.reduceMul,Nat.reduceLeDiff,quietOp,blindOp,Int.reduceEq,Int.reduceLT,Int.reduceLE,Nat.reduceLT,tiA,tiXA, awpTS_run_nil, awpTS_run_cons, awpTS_nil, awpTS_one, stepIS_op, loadOk, q2, hu4, nri]
        refine awpTS_two ?_ ?_
        · try simp (disch := first | omega | (simp only [L3] <;> omega)) only [Sall,evalOp,init,binA_s,binE,binI,unE,convE,okNil,builtE,gv,TD.isAgg,resV,↓reduceIte,Nat.reduceEqDiff,reduceCtorEq,Nat.reduceAdd,Nat.reduceMul,Nat.reduceLeDiff,quietOp,blindOp,Int.reduceEq,Int.reduceLT,Int.reduceLE,Nat.reduceLT,tiA,tiXA, awpTS_run_nil, awpTS_run_cons, awpTS_nil, awpTS_one, stepIS_op, loadOk, hu4, nri]
          refine (l01DrawOrder_c cv nb si n H5 (by omega) hnb (d4.src hsi) (d4.code hc hsc)).mono ?_
          rintro w H6 ⟨y, B6, k6, o6, hp⟩
          rw [Int.toNat_natCast] at o6 hp
          have d5 := d4.call hsi k6 o6
          have hw := o6.one 0 rfl
          refine ⟨.inr (.inr (les_of k6 o6 d4.sc)), ?_⟩
          try simp (disch := first | omega | (simp only [L3] <;> omega)) only [Sall,evalOp,init,binA_s,binE,binI,unE,convE,okNil,builtE,gv,TD.isAgg,resV,↓reduceIte,Nat.reduceEqDiff,reduceCtorEq,Nat.reduceAdd,Nat.reduceMul,Nat.reduceLeDiff,quietOp,blindOp,Int.reduceEq,Int.reduceLT,Int.reduceLE,Nat.reduceLT,tiA,tiXA, awpTS_run_nil, awpTS_run_cons, awpTS_nil, awpTS_one, stepIS_op, loadOk, hu4, nri, hw]
          refine awpTS_two ?_ ?_
          · try simp (disch := first | omega | (simp only [L3] <;> omega)) only [Sall,evalOp,init,binA_s,binE,binI,unE,convE,okNil,builtE,gv,TD.isAgg,resV,↓reduceIte,Nat.reduceEqDiff,reduceCtorEq,Nat.reduceAdd,Nat.reduceMul,Nat.reduceLeDiff,quietOp,blindOp,Int.reduceEq,Int.reduceLT,Int.reduceLE,Nat.reduceLT,tiA,tiXA, awpTS_run_nil, awpTS_run_cons, awpTS_nil, awpTS_one, stepIS_op, loadOk, hu4, nri]
            refine ACalls.ex2 (l01Renamed_c n k u w l y H6 ⟨by omega, by omega⟩ (by omega) (d5.capRs 1 rfl).rd hV (d5.rd 3 rfl) hp.rng) ?_
            rintro u' l' H7 ⟨o7, hV'⟩
            have d6 := d5.calls o7
            have hu7 := o7.one 0 rfl
            refine ⟨.inr (.inr (LE.les (o7.up.le d5.sc))), ?_⟩
            try simp (disch := first | omega | (simp only [L3] <;> omega)) only [Sall,evalOp,init,binA_s,binE,binI,unE,convE,okNil,builtE,gv,TD.isAgg,resV,↓reduceIte,Nat.reduceEqDiff,reduceCtorEq,Nat.reduceAdd,Nat.reduceMul,Nat.reduceLeDiff,quietOp,blindOp,Int.reduceEq,Int.reduceLT,Int.reduceLE,Nat.reduceLT,tiA,tiXA, awpTS_run_nil, awpTS_run_cons, awpTS_nil, awpTS_one, stepIS_op, loadOk, hu4, nri, hu7]
            have d7 := (d6.push ⟨26, true, [.int .i64 0, .slice none 0 0]⟩).putRow 5 rfl (cs' := [.int .i64 n, u'])
            exact ⟨.inr (.inr (LE.les (d6.sc.le _))), .inr (.inl (by kernel_rfl)), _, u', l', rfl, hV', d7.map fun B o => Ow.six1 o⟩
          · try simp (disch := first | omega | (simp only [L3] <;> omega)) only [Sall,evalOp,init,binA_s,binE,binI,unE,convE,okNil,builtE,gv,TD.isAgg,resV,↓reduceIte,Nat.reduceEqDiff,reduceCtorEq,Nat.reduceAdd,Nat.reduceMul,Nat.reduceLeDiff,quietOp,blindOp,Int.reduceEq,Int.reduceLT,Int.reduceLE,Nat.reduceLT,tiA,tiXA, awpTS_run_nil, awpTS_run_cons, awpTS_nil, awpTS_one, stepIS_op, loadOk, hu4, nri]
            have d6 := d5.push ⟨26, true, [.int .i64 0, .slice none 0 0]⟩
            refine ⟨.inr (.inr (LE.les (d5.sc.le _))), ?_⟩
            obtain ⟨rk, erk⟩ : ∃ rk, rk = H6.next := ⟨_, rfl⟩
            rw [← erk] at d6 ⊢
            generalize H6.push ⟨26, true, [.int .i64 0, .slice none 0 0]⟩ = H7 at d6 ⊢
            try simp (disch := first | omega | (simp only [L3] <;> omega)) only [Sall,evalOp,init,binA_s,binE,binI,unE,convE,okNil,builtE,gv,TD.isAgg,resV,↓reduceIte,Nat.reduceEqDiff,reduceCtorEq,Nat.reduceAdd,Nat.reduceMul,Nat.reduceLeDiff,quietOp,blindOp,Int.reduceEq,Int.reduceLT,Int.reduceLE,Nat.reduceLT,tiA,tiXA, awpTS_run_nil, awpTS_run_cons, awpTS_nil, awpTS_one, stepIS_op, loadOk, hu4, nri, hw]
            refine ACalls.ex2 (l01Renamed_c n k u w l y H7 ⟨by omega, by omega⟩ (by omega) (d6.capRs 1 rfl).rd hV (d6.rd 3 rfl) hp.rng) ?_
            rintro u' l' H8 ⟨o7, hV'⟩
            have d7 := d6.calls o7
            have hu7 := o7.one 0 rfl
            refine ⟨.inr (.inr (LE.les (o7.up.le d6.sc))), ?_⟩
            have g7 := d7.rowAt 4 rfl
            try simp (disch := first | omega | (simp only [L3] <;> omega)) only [Sall,evalOp,init,binA_s,binE,binI,unE,convE,okNil,builtE,gv,TD.isAgg,resV,↓reduceIte,Nat.reduceEqDiff,reduceCtorEq,Nat.reduceAdd,Nat.reduceMul,Nat.reduceLeDiff,quietOp,blindOp,Int.reduceEq,Int.reduceLT,Int.reduceLE,Nat.reduceLT,tiA,tiXA, awpTS_run_nil, awpTS_run_cons, awpTS_nil, awpTS_one, stepIS_op, loadOk, hu4, nri, hu7, g7]
            exact ⟨.inr (.inl (by kernel_rfl)), _, u', l', rfl, hV', (d7.putRow 4 rfl).map fun B o => Ow.six2 o⟩
        · try simp (disch := first | omega | (simp only [L3] <;> omega)) only [Sall,evalOp,init,binA_s,binE,binI,unE,convE,okNil,builtE,gv,TD.isAgg,resV,↓reduceIte,Nat.reduceEqDiff,reduceCtorEq,Nat.reduceAdd,Nat.reduceMul,Nat.reduceLeDiff,quietOp,blindOp,Int.reduceEq,Int.reduceLT,Int.reduceLE,Nat.reduceLT,tiA,tiXA, awpTS_run_nil, awpTS_run_cons, awpTS_nil, awpTS_one, stepIS_op, loadOk, hu4, nri]
          have d5 := d4.push ⟨26, true, [.int .i64 0, .slice none 0 0]⟩
          refine ⟨.inr (.inr (LE.les (d4.sc.le _))), ?_⟩
          obtain ⟨rk, erk⟩ : ∃ rk, rk = H5.next := ⟨_, rfl⟩
          rw [← erk] at d5 ⊢
          generalize H5.push ⟨26, true, [.int .i64 0, .slice none 0 0]⟩ = H6 at d5 ⊢
          try simp (disch := first | omega | (simp only [L3] <;> omega)) only [Sall,evalOp,init,binA_s,binE,binI,unE,convE,okNil,builtE,gv,TD.isAgg,resV,↓reduceIte,Nat.reduceEqDiff,reduceCtorEq,Nat.reduceAdd,Nat.reduceMul,Nat.reduceLeDiff,quietOp,blindOp,Int.reduceEq,Int.reduceLT,Int.reduceLE,Nat.reduceLT,tiA,tiXA, awpTS_run_nil, awpTS_run_cons, awpTS_nil, awpTS_one, stepIS_op, loadOk, hu4, nri]
          refine (l01DrawOrder_c cv nb si n H6 (by omega) hnb (d5.src hsi) (d5.code hc hsc)).mono ?_
          rintro w H7 ⟨y, B6, k6, o6, hp⟩
          rw [Int.toNat_natCast] at o6 hp
          have d6 := d5.call hsi k6 o6
          have hw := o6.one 0 rfl
          refine ⟨.inr (.inr (les_of k6 o6 d5.sc)), ?_⟩
          try simp (disch := first | omega | (simp only [L3] <;> omega)) only [Sall,evalOp,init,binA_s,binE,binI,unE,convE,okNil,builtE,gv,TD.isAgg,resV,↓reduceIte,Nat.reduceEqDiff,reduceCtorEq,Nat.reduceAdd,Nat.reduceMul,Nat.reduceLeDiff,quietOp,blindOp,Int.reduceEq,Int.reduceLT,Int.reduceLE,Nat.reduceLT,tiA,tiXA, awpTS_run_nil, awpTS_run_cons, awpTS_nil, awpTS_one, stepIS_op, loadOk, hu4, nri, hw]
          refine ACalls.ex2 (l01Renamed_c n k u w l y H7 ⟨by omega, by omega⟩ (by omega) (d6.capRs 1 rfl).rd hV (d6.rd 4 rfl) hp.rng) ?_
          rintro u' l' H8 ⟨o7, hV'⟩
          have d7 := d6.calls o7
          have hu7 := o7.one 0 rfl
          refine ⟨.inr (.inr (LE.les (o7.up.le d6.sc))), ?_⟩
          have g7 := d7.rowAt 3 rfl
          try simp (disch := first | omega | (simp only [L3] <;> omega)) only [Sall,evalOp,init,binA_s,binE,binI,unE,convE,okNil,builtE,gv,TD.isAgg,resV,↓reduceIte,Nat.reduceEqDiff,reduceCtorEq,Nat.reduceAdd,Nat.reduceMul,Nat.reduceLeDiff,quietOp,blindOp,Int.reduceEq,Int.reduceLT,Int.reduceLE,Nat.reduceLT,tiA,tiXA, awpTS_run_nil, awpTS_run_cons, awpTS_nil, awpTS_one, stepIS_op, loadOk, hu4, nri, hu7, g7]
          exact ⟨.inr (.inl (by kernel_rfl)), _, u', l', rfl, hV', (d7.putRow 3 rfl).map fun B o => Ow.six3 o⟩
      · rintro t H6 ⟨rk, u2, l2, h2, h3, h5, hV2, d5⟩
        have p2 := d5.rowAt 2 rfl
        have p4 := d5.rowAt 4 rfl
        have hu5 := d5.capOne 1 rfl
        have hu6 := d5.one 3 rfl
        obtain ⟨Bq, bq, oq⟩ := id d5.ex
        obtain ⟨qi, _, _, rfl, hqr⟩ := oq.get 3 rfl (by omega)
        have hl2 := oq.len 3 rfl
        rw [ints_length] at hl2
        have hsg : seg (ints l2) 0 (k * 14) = ints l2 := seg_all _ _ (by rw [ints_length, hl2])
        try simp (disch := first | omega | (simp only [L3] <;> omega)) only [Sall,evalOp,init,binA_s,binE,binI,unE,convE,okNil,builtE,gv,TD.isAgg,resV,↓reduceIte,Nat.reduceEqDiff,reduceCtorEq,Nat.reduceAdd,Nat.reduceMul,Nat.reduceLeDiff,quietOp,blindOp,Int.reduceEq,Int.reduceLT,Int.reduceLE,Nat.reduceLT,tiA,tiXA, h2, h3, h5, p2, p4, hu5, slCells, hqr, hsg, hl2]
        (repeat refine And.intro (by omega) ?_)
        refine d5.appC 1 (c := k) (ms := ints l2) rfl rfl (by omega) (by rw [ints_length, hl2]) (by omega) (by decide) (by omega) ?_
        intro v' H7 d6
        rw [ints_append] at d6
        have p2' := d6.rowAt 2 rfl
        have hv' := d6.capOne 1 rfl
        try simp (disch := first | omega | (simp only [L3] <;> omega)) only [Sall,evalOp,init,binA_s,binE,binI,unE,convE,okNil,builtE,gv,TD.isAgg,resV,↓reduceIte,Nat.reduceEqDiff,reduceCtorEq,Nat.reduceAdd,Nat.reduceMul,Nat.reduceLeDiff,quietOp,blindOp,Int.reduceEq,Int.reduceLT,Int.reduceLE,Nat.reduceLT,tiA,tiXA, h2, h3, p2', hv']
        exact ⟨k + k, v', l ++ l2, by omega, hV.app hV2, Dq.left (L := [_, _, _]) (d6.putRow 2 rfl)⟩
    · rintro t H6 ⟨k', u', l', h2, h3, hk', hV', d5⟩
      have p0 := d5.rowAt 0 rfl
      have p2 := d5.rowAt 2 rfl
      have hu5 := d5.capOne 1 rfl
      try simp (disch := first | omega | (simp only [L3] <;> omega)) only [Sall,evalOp,init,binA_s,binE,binI,unE,convE,okNil,builtE,gv,TD.isAgg,resV,↓reduceIte,Nat.reduceEqDiff,reduceCtorEq,Nat.reduceAdd,Nat.reduceMul,Nat.reduceLeDiff,quietOp,blindOp,Int.reduceEq,Int.reduceLT,Int.reduceLE,Nat.reduceLT,tiA,tiXA, h2, h3, p0, p2, hu5]
      exact ⟨n, k', u', l', rfl, ⟨hn1, hn2⟩, hk', hV', (d5.putRow 0 rfl).sub1 1 rfl⟩
  have f2 : ((x : Int) == 2) = false := beq_eq_false_iff_ne.2 c2
  try simp (disch := first | omega | (simp only [L3] <;> omega)) only [Sall,evalOp,init,binA_s,binE,binI,unE,convE,okNil,builtE,gv,TD.isAgg,resV,↓reduceIte,Nat.reduceEqDiff,reduceCtorEq,Nat.reduceAdd,Nat.reduceMul,Nat.reduceLeDiff,quietOp,blindOp,Int.reduceEq,Int.reduceLT,Int.reduceLE,Nat.reduceLT,tiA,tiXA, f0, f1, f2]
  have e3 := d3.sub1 0 rfl
  refine (nextD 13 e3 hsi hc hsc hnb (by omega)).ex ?_
  rintro y H5 ⟨hy, d4⟩
  obtain ⟨m, hm⟩ : ∃ m : Nat, m = y + 2 := ⟨_, rfl⟩
  have em : (2 : Int) + (y : Int) = (m : Int) := by omega
  refine Holds.mp ?_
  try simp (disch := first | omega | (simp only [L3] <;> omega)) only [Sall,evalOp,init,binA_s,binE,binI,unE,convE,okNil,builtE,gv,TD.isAgg,resV,↓reduceIte,Nat.reduceEqDiff,reduceCtorEq,Nat.reduceAdd,Nat.reduceMul,Nat.reduceLeDiff,quietOp,blindOp,Int.reduceEq,Int.reduceLT,Int.reduceLE,Nat.reduceLT,tiA,tiXA, w64, em, zeros_zero]
  have d5 := ((d4.map fun B o => o.pushSl (k := 14) (n := 0) (ty := 69) (vs := ints []) rfl).toCap 1 rfl).push ⟨26, true, [.int .i64 0, .slice none 0 0]⟩
  have d6 := d5.putRow 2 rfl (cs' := [.int .i64 m, .slice (some ⟨H5.next, 0, some 14⟩) 0 0])
  obtain ⟨w, hw⟩ : ∃ w, w = Value.slice (some ⟨H5.next, 0, some 14⟩) 0 0 := ⟨_, rfl⟩
  obtain ⟨rj, erj⟩ : ∃ rj, rj = (H5.push ⟨69, true, ints []⟩).next := ⟨_, rfl⟩
  have nrj : ¬ rj = si := by have h1 : (H5.push ⟨69, true, ints []⟩).next = H5.next + 1 := rfl; have := d4.le; omega
  have erj' : H5.next + 1 = rj := erj.symm
  rw [← hw, ← erj] at d6
  rw [← hw, erj']
  have d6 : Dq cv nb si H (((H5.push ⟨69, true, []⟩).push ⟨26, true, [.int .i64 0, .slice none 0 0]⟩).setCells rj [.int .i64 m, w]) [.row H.next ⟨26, true, [.int .i64 0, .slice none 0 0]⟩, .cap 14 69 w 0 (ints []), .row rj ⟨26, true, [.int .i64 m, w]⟩] := d6
  have nx : H5.next + 2 = (((H5.push ⟨69, true, []⟩).push ⟨26, true, [.int .i64 0, .slice none 0 0]⟩).setCells rj [.int .i64 m, w]).next := rfl
  generalize ((H5.push ⟨69, true, []⟩).push ⟨26, true, [.int .i64 0, .slice none 0 0]⟩).setCells rj [.int .i64 m, w] = H6 at d6 nx ⊢
  have zz3 : zeros 3 [.int .i64 0] = [.int .i64 0, .int .i64 0, .int .i64 0] := rfl
  rw [nx]
  try simp (disch := first | omega | (simp only [L3] <;> omega)) only [Sall,evalOp,init,binA_s,binE,binI,unE,convE,okNil,builtE,gv,TD.isAgg,resV,↓reduceIte,Nat.reduceEqDiff,reduceCtorEq,Nat.reduceAdd,Nat.reduceMul,Nat.reduceLeDiff,quietOp,blindOp,Int.reduceEq,Int.reduceLT,Int.reduceLE,Nat.reduceLT,tiA,tiXA, zz3]
  refine (pickL [4, 10, 41] 3 rfl (by omega) (by omega) d6 hsi hc hsc hnb).ex ?_
  rintro p H7 ⟨hp, d7⟩
  have hp2 : p ≤ 41 := by
    simp only [List.mem_cons, List.not_mem_nil, or_false] at hp
    omega
  have hp3 : 4 ≤ p := by
    simp only [List.mem_cons, List.not_mem_nil, or_false] at hp
    omega
  refine Holds.mp ?_
  try simp (disch := first | omega | (simp only [L3] <;> omega)) only [Sall,evalOp,init,binA_s,binE,binI,unE,convE,okNil,builtE,gv,TD.isAgg,resV,↓reduceIte,Nat.reduceEqDiff,reduceCtorEq,Nat.reduceAdd,Nat.reduceMul,Nat.reduceLeDiff,quietOp,blindOp,Int.reduceEq,Int.reduceLT,Int.reduceLE,Nat.reduceLT,tiA,tiXA, true_and]
  refine (nextD p d7 hsi hc hsc hnb (by omega)).ex ?_
  rintro cc H8 ⟨hcc, d8⟩
  refine Holds.mp ?_
  try simp (disch := first | omega | (simp only [L3] <;> omega)) only [Sall,evalOp,init,binA_s,binE,binI,unE,convE,okNil,builtE,gv,TD.isAgg,resV,↓reduceIte,Nat.reduceEqDiff,reduceCtorEq,Nat.reduceAdd,Nat.reduceMul,Nat.reduceLeDiff,quietOp,blindOp,Int.reduceEq,Int.reduceLT,Int.reduceLE,Nat.reduceLT,tiA,tiXA, true_and]
  refine awp_loop (fun z t H' => ∃ (c k' : Nat) (u' : Value) (l' : List Int), z = c ∧ k' + c ≤ 40 ∧ t 7 = .int .i64 c ∧ t 0 = .pointer (some ⟨si, 0, none⟩) ∧ t 2 = .pointer (some ⟨H.next, 0, none⟩) ∧ t 6 = .pointer (some ⟨rj, 0, none⟩) ∧ VL m l' ∧ Dq cv nb si H H' [.row H.next ⟨26, true, [.int .i64 0, .slice none 0 0]⟩, .cap 14 69 u' k' (ints l'), .row rj ⟨26, true, [.int .i64 m, u']⟩]) cc ?_ ?_
  · refine ⟨cc, 0, w, [], rfl, by omega, ?_⟩
    try simp (disch := first | omega | (simp only [L3] <;> omega)) only [Sall,evalOp,init,binA_s,binE,binI,unE,convE,okNil,builtE,gv,TD.isAgg,resV,↓reduceIte,Nat.reduceEqDiff,reduceCtorEq,Nat.reduceAdd,Nat.reduceMul,Nat.reduceLeDiff,quietOp,blindOp,Int.reduceEq,Int.reduceLT,Int.reduceLE,Nat.reduceLT,tiA,tiXA, true_and]
    exact ⟨VL.nil m, d8⟩
  · rintro z t H' ⟨c, k', u', l', hz, hkc, h7, h0, h2, h6, hV', d8⟩
    have q0 := d8.rowAt 0 rfl
    have q2 := d8.rowAt 2 rfl
    have hu8 := d8.capOne 1 rfl
    try simp (disch := first | omega | (simp only [L3] <;> omega)) only [Sall,evalOp,init,binA_s,binE,binI,unE,convE,okNil,builtE,gv,TD.isAgg,resV,↓reduceIte,Nat.reduceEqDiff,reduceCtorEq,Nat.reduceAdd,Nat.reduceMul,Nat.reduceLeDiff,quietOp,blindOp,Int.reduceEq,Int.reduceLT,Int.reduceLE,Nat.reduceLT,tiA,tiXA, h7]
    refine condC_dec (fun hh => ?_) (fun hh => ?_)
    · try simp (disch := first | omega | (simp only [L3] <;> omega)) only [Sall,evalOp,init,binA_s,binE,binI,unE,convE,okNil,builtE,gv,TD.isAgg,resV,↓reduceIte,Nat.reduceEqDiff,reduceCtorEq,Nat.reduceAdd,Nat.reduceMul,Nat.reduceLeDiff,quietOp,blindOp,Int.reduceEq,Int.reduceLT,Int.reduceLE,Nat.reduceLT,tiA,tiXA, true_and]
      refine draw_inS (fun j => j ≠ si) [0, 1, 2, 3, 4, 5, 6, 7, 8, 9] (by kernel_rfl) (by kernel_rfl) (by kernel_rfl) ?_
      try simp (disch := first | omega | (simp only [L3] <;> omega)) only [Sall,evalOp,init,binA_s,binE,binI,unE,convE,okNil,builtE,gv,TD.isAgg,resV,↓reduceIte,Nat.reduceEqDiff,reduceCtorEq,Nat.reduceAdd,Nat.reduceMul,Nat.reduceLeDiff,quietOp,blindOp,Int.reduceEq,Int.reduceLT,Int.reduceLE,Nat.reduceLT,tiA,tiXA, awpIS_nil, awpIS_cons, stepIS_op, loadOk, h0, h2, h6, q2, hu8, nrj]
      refine (l01DrawRound_c cv nb si m H' ⟨by omega, by omega⟩ hnb (d8.src hsi) (d8.code hc hsc)).ex ?_
      rintro rd H9 ⟨hrl, hR, e9⟩
      have d9 := d8.bind hsi e9
      refine ⟨.inr (.inr (e9.les d8.sc)), ?_⟩
      try simp (disch := first | omega | (simp only [L3] <;> omega)) only [Sall,evalOp,init,binA_s,binE,binI,unE,convE,okNil,builtE,gv,TD.isAgg,resV,↓reduceIte,Nat.reduceEqDiff,reduceCtorEq,Nat.reduceAdd,Nat.reduceMul,Nat.reduceLeDiff,quietOp,blindOp,Int.reduceEq,Int.reduceLT,Int.reduceLE,Nat.reduceLT,tiA,tiXA, awpIS_nil, awpIS_cons, stepIS_op, loadOk, nrj, hrl, slCells, zeros_one]
      (repeat refine And.intro (by omega) ?_)
      refine ⟨.inr (.inr (LE.les (d9.sc.le _))), ?_⟩
      refine (d9.tmp ⟨69, true, ints rd⟩).appC 1 (c := 1) (ms := ints rd) rfl rfl (by omega) (by rw [ints_length, hrl]) (by omega) (by decide) (by omega) ?_
      intro v' H10 d10
      rw [ints_append] at d10
      have q2' := d10.rowAt 2 rfl
      have hv' := d10.capOne 1 rfl
      refine ⟨.inr (.inl (by kernel_rfl)), ?_⟩
      try simp (disch := first | omega | (simp only [L3] <;> omega)) only [Sall,evalOp,init,binA_s,binE,binI,unE,convE,okNil,builtE,gv,TD.isAgg,resV,↓reduceIte,Nat.reduceEqDiff,reduceCtorEq,Nat.reduceAdd,Nat.reduceMul,Nat.reduceLeDiff,quietOp,blindOp,Int.reduceEq,Int.reduceLT,Int.reduceLE,Nat.reduceLT,tiA,tiXA, awpIS_nil, awpIS_cons, stepIS_op, loadOk, h6, q2', hv', nrj]
      have d11 := d10.putRow 2 rfl (cs' := [.int .i64 m, v'])
      refine ⟨.inr (.inl (by kernel_rfl)), ?_⟩
      try simp (disch := first | omega | (simp only [L3] <;> omega)) only [Sall,evalOp,init,binA_s,binE,binI,unE,convE,okNil,builtE,gv,TD.isAgg,resV,↓reduceIte,Nat.reduceEqDiff,reduceCtorEq,Nat.reduceAdd,Nat.reduceMul,Nat.reduceLeDiff,quietOp,blindOp,Int.reduceEq,Int.reduceLT,Int.reduceLE,Nat.reduceLT,tiA,tiXA, h7, h0, h2, h6, w64]
      exact ⟨c - 1, by omega, c - 1, k' + 1, v', _, rfl, by omega, by omega, hV'.app hR, d11⟩
    · try simp (disch := first | omega | (simp only [L3] <;> omega)) only [Sall,evalOp,init,binA_s,binE,binI,unE,convE,okNil,builtE,gv,TD.isAgg,resV,↓reduceIte,Nat.reduceEqDiff,reduceCtorEq,Nat.reduceAdd,Nat.reduceMul,Nat.reduceLeDiff,quietOp,blindOp,Int.reduceEq,Int.reduceLT,Int.reduceLE,Nat.reduceLT,tiA,tiXA, h2, h6, q0, q2, hu8]
      exact ⟨m, k', u', l', rfl, ⟨by omega, by omega⟩, by omega, hV', (d8.putRow 0 rfl).sub1 1 rfl⟩
end Go.Proofs.YtpienljnoaendaaGreat.A
end

section
set_option maxRecDepth 100000
set_option maxHeartbeats 2000000
namespace Go.Proofs.YtpienljnoaendaaGreat.A
open Go Go.Abs Go.RowKit
theorem l01Copy_c (q : Int) (v : Value) (k : Nat) (l : List Int) (H : AH) (hk : k ≤ 4294967290) (hv : Rd 14 H v k l) (hrow : ∀ i o u n c, v = .slice (some ⟨i, o, u⟩) n c → ∃ r, H.row i = some r ∧ o ≤ r.cells.length) :
    ACalls Tryz.prog 228 [.agg #[.int .i64 q, v]] H (fun r H' => ∃ u, r = .agg #[.int .i64 q, u] ∧ Ow H H' [.cap 14 69 u k (ints l)]) := by
  refine ACalls.wf (by kernel_rfl) fun hs => acalls_of_awp [.cell 2 26] Tryz.func228 (by kernel_rfl) rfl rfl (Nat.le_of_ble_eq_true rfl) (by kernel_rfl) ?_
  have hone := hv.one
  have hl0 := hv.1
  have o1 := (((Ow.refl hs).push ⟨26, true, [.int .i64 q, v]⟩).push ⟨26, true, [.int .i64 0, .slice none 0 0]⟩)
  have g0 := (o1.rowAt 0 rfl).1
  have g1 := (o1.rowAt 1 rfl).1
  try simp (disch := first | omega | (simp only [L3] <;> omega)) only [Sall,evalOp,init,binA_s,binE,binI,unE,convE,okNil,builtE,gv,TD.isAgg,resV,↓reduceIte,Nat.reduceEqDiff,reduceCtorEq,Nat.reduceAdd,Nat.reduceMul,Nat.reduceLeDiff,quietOp,blindOp,Int.reduceEq,Int.reduceLT,Int.reduceLE,Nat.reduceLT,tiA,tiXA, hone]
  generalize (H.push ⟨26, true, [.int .i64 q, v]⟩).push ⟨26, true, [.int .i64 0, .slice none 0 0]⟩ = H1 at o1 g0 g1 ⊢
  have b0 : H.next < H1.next := (o1.rowAt 0 rfl).2.2
  have b1 : H.next + 1 < H1.next := (o1.rowAt 1 rfl).2.2
  refine draw_inS (fun j => j < H1.next) [0, 1, 3, 4, 2, 5, 6, 7] (by kernel_rfl) (by kernel_rfl) rfl ?_
  try simp (disch := first | omega | (simp only [L3] <;> omega)) only [Sall,evalOp,init,binA_s,binE,binI,unE,convE,okNil,builtE,gv,TD.isAgg,resV,↓reduceIte,Nat.reduceEqDiff,reduceCtorEq,Nat.reduceAdd,Nat.reduceMul,Nat.reduceLeDiff,quietOp,blindOp,Int.reduceEq,Int.reduceLT,Int.reduceLE,Nat.reduceLT,tiA,tiXA, awpIS_nil, awpIS_cons, stepIS_op, loadOk, g0, g1, hone, zeros_zero, b0, b1]
  refine ⟨.inr (.inr (LE.les (o1.sc.le _))), ?_⟩
  have o2 := ((Ow.refl o1.sc).pushSl (k := 14) (n := 0) (ty := 69) (vs := ints []) rfl).toCap 0 rfl
  obtain ⟨w, hw⟩ : ∃ w, w = Value.slice (some ⟨H1.next, 0, some 14⟩) 0 0 := ⟨_, rfl⟩
  rw [← hw] at o2 ⊢
  have o2 : Ow H1 (H1.push ⟨69, true, []⟩) [.cap 14 69 w 0 (ints [])] := o2
  generalize H1.push ⟨69, true, []⟩ = H2 at o2 ⊢
  have oldH : ∀ i r, H.row i = some r → H2.row i = some r := fun i r hr => o2.old o1.sc _ _ (o1.old hs _ _ hr)
  refine o2.appR 0 (c := k) (l := l) rfl (hv.same oldH) (fun i o u n c e => ?_) rfl (by omega) (by decide) (by omega) ?_
  · obtain ⟨r, h1, h2⟩ := hrow i o u n c e
    exact ⟨r, oldH _ _ h1, h2⟩
  intro v' H3 n3 o3
  rw [ints_append] at o3
  have g1' : H3.row (H.next + 1) = _ := (o3.low _ b1).trans g1
  have hv1 := o3.capOne 0 rfl
  have hv2 := cells_of_one hv1
  have hv3 := noTuple_of_one hv1
  refine ⟨.inr (.inr ⟨by have := o2.next; omega, fun i r hi hr => by rw [o3.low i hi, ← o2.low i hi]; exact hr⟩), ?_⟩
  try simp (disch := first | omega | (simp only [L3] <;> omega)) only [Sall,evalOp,init,binA_s,binE,binI,unE,convE,okNil,builtE,gv,TD.isAgg,resV,↓reduceIte,Nat.reduceEqDiff,reduceCtorEq,Nat.reduceAdd,Nat.reduceMul,Nat.reduceLeDiff,quietOp,blindOp,Int.reduceEq,Int.reduceLT,Int.reduceLE,Nat.reduceLT,tiA,tiXA, awpIS_nil, awpIS_cons, stepIS_op, loadOk, hv1, hv2, hv3, g1']
  have o4 := (o1.call o3).putRow 1 rfl (cs' := [.int .i64 q, v'])
  refine ⟨.inr (.inl (by kernel_rfl)), v', rfl, ?_⟩
  refine o4.sub (fun _ => 2) (fun j hj => ?_) fun x y hx hy _ => by simp at hx hy; omega
  obtain rfl : j = 0 := by simp at hj; omega
  show some (Th.cap 14 69 v' (0 + k) (ints ([] ++ l))) = _
  rw [Nat.zero_add]; rfl
end Go.Proofs.YtpienljnoaendaaGreat.A
end

section
set_option maxRecDepth 100000
set_option maxHeartbeats 2000000
namespace Go.Proofs.YtpienljnoaendaaGreat.A
open Go Go.Abs Go.RowKit
def RsX (si z : Nat) (H : AH) (v : Value) (k : Nat) (l : List Int) : Prop :=
  ∀ H', (∀ i r, i ≠ si → H.row i = some r → H'.row i = some r) → Rs z H' v k l ∧ ∀ i o u n c, v = .slice (some ⟨i, o, u⟩) n c → ∃ r, H'.row i = some r ∧ o ≤ r.cells.length
def BadS (cv : Value) (nb si : Nat) (v : Value) (k0 : Nat) (l0 : List Int) (H : AH) (r : Value) (H' : AH) : Prop :=
  ∃ (q : Int) (k : Nat) (u : Value) (l : List Int), r = .agg #[.int .i64 q, u] ∧ (-1 ≤ q ∧ q ≤ 15) ∧ k ≤ 41 ∧ (∀ x, x ∈ l → -1 ≤ x ∧ x ≤ 14) ∧ ∃ L, Dq cv nb si H H' L ∧ ((u = v ∧ k = k0 ∧ l = l0) ∨ L[0]? = some (.cap 14 69 u k (ints l)))
theorem VL.bad {n : Nat} {l : List Int} (h : VL n l) (hn : n ≤ 14) : ∀ x, x ∈ l → -1 ≤ x ∧ x ≤ 14 := fun x hx => by
  have := h x hx
  omega
theorem l01Bad_c (cv : Value) (nb si n k : Nat) (v : Value) (l : List Int) (H : AH) (hn : 2 ≤ n ∧ n ≤ 14) (hk : k ≤ 40) (hV : VL n l) (hv : RsX si 14 H v k l) (hnb : nb ≤ 4611686018427387904) (hs : Src cv nb si H) (hc : CodeX cv nb si H) :
    ACalls Tryz.prog 103 [.pointer (some ⟨si, 0, none⟩), .agg #[.int .i64 n, v]] H (BadS cv nb si v k l H) := by
  refine ACalls.wf (by kernel_rfl) fun hsc => acalls_of_awp [.cell 4 26] Tryz.func103 (by kernel_rfl) rfl rfl (Nat.le_of_ble_eq_true rfl) (by kernel_rfl) ?_
  obtain ⟨_, _, hrow, _⟩ := id hs
  have hsi := hsc _ _ hrow
  clear hrow
  have hone := (hv H fun _ _ _ h => h).1.rd.one
  have d0 := ((Dq.start hs hsc).push ⟨26, true, [.int .i64 n, v]⟩).push ⟨26, true, [.int .i64 0, .slice none 0 0]⟩
  have d0 : Dq cv nb si H ((H.push ⟨26, true, [.int .i64 n, v]⟩).push ⟨26, true, [.int .i64 0, .slice none 0 0]⟩) [.row H.next ⟨26, true, [.int .i64 n, v]⟩, .row (H.next + 1) ⟨26, true, [.int .i64 0, .slice none 0 0]⟩] := d0
  try simp (disch := first | omega | (simp only [L3] <;> omega)) only [Sall,evalOp,init,binA_s,binE,binI,unE,convE,okNil,builtE,gv,TD.isAgg,resV,↓reduceIte,Nat.reduceEqDiff,reduceCtorEq,Nat.reduceAdd,Nat.reduceMul,Nat.reduceLeDiff,quietOp,blindOp,Int.reduceEq,Int.reduceLT,Int.reduceLE,Nat.reduceLT,tiA,tiXA, hone]
  generalize (H.push ⟨26, true, [.int .i64 n, v]⟩).push ⟨26, true, [.int .i64 0, .slice none 0 0]⟩ = H1 at d0 ⊢
  obtain ⟨hv1, hv2⟩ := hv H1 (d0.old hsc)
  refine ACalls.ex (g := fun u => .agg #[.int .i64 (n : Int), u]) (l01Copy_c n v k l H1 (by omega) hv1.rd hv2) ?_
  rintro w H2 o2
  have d1 := (d0.calls o2).push ⟨26, true, [.int .i64 0, .slice none 0 0]⟩
  have hw := o2.capOne 0 rfl
  have d2 := d1.putRow 3 rfl (cs' := [.int .i64 n, w])
  refine Holds.mp ?_
  try simp (disch := first | omega | (simp only [L3] <;> omega)) only [Sall,evalOp,init,binA_s,binE,binI,unE,convE,okNil,builtE,gv,TD.isAgg,resV,↓reduceIte,Nat.reduceEqDiff,reduceCtorEq,Nat.reduceAdd,Nat.reduceMul,Nat.reduceLeDiff,quietOp,blindOp,Int.reduceEq,Int.reduceLT,Int.reduceLE,Nat.reduceLT,tiA,tiXA, hw]
  obtain ⟨rt, ert⟩ : ∃ rt, rt = H2.next := ⟨_, rfl⟩
  rw [← ert] at d2 ⊢
  have d2 : Dq cv nb si H ((H2.push ⟨26, true, [.int .i64 0, .slice none 0 0]⟩).setCells rt [.int .i64 n, w]) [.row H.next ⟨26, true, [.int .i64 n, v]⟩, .row (H.next + 1) ⟨26, true, [.int .i64 0, .slice none 0 0]⟩, .cap 14 69 w k (ints l), .row rt ⟨26, true, [.int .i64 n, w]⟩] := d2
  generalize (H2.push ⟨26, true, [.int .i64 0, .slice none 0 0]⟩).setCells rt [.int .i64 n, w] = H3 at d2 ⊢
  refine (nextD 50 d2 hsi hc hsc hnb (by omega)).ex ?_
  rintro x H4 ⟨hx, d3⟩
  have g0 := d3.rowAt 0 rfl
  have g1 := d3.rowAt 1 rfl
  have g3 := d3.rowAt 3 rfl
  have hw3 := d3.capOne 2 rfl
  have hlw := (d3.capRs 2 rfl).rd.len
  refine Holds.mp ?_
  -- what is given is handed back
  have back : ∀ H', Dq cv nb si H H' [.row H.next ⟨26, true, [.int .i64 n, v]⟩, .row (H.next + 1) ⟨26, true, [.int .i64 0, .slice none 0 0]⟩] → BadS cv nb si v k l H (.agg #[.int .i64 n, v]) (H'.setCells (H.next + 1) [.int .i64 n, v]) := fun H' d => by
    have d' := d.putRow 1 rfl (cs' := [.int .i64 n, v])
    exact ⟨n, k, v, l, rfl, ⟨by omega, by omega⟩, by omega, hV.bad hn.2, [], Dq.left (L := []) d', .inl ⟨rfl, rfl, rfl⟩⟩
  by_cases c0 : (x : Int) = 0
  · have f0 : ((x : Int) == 0) = true := beq_iff_eq.2 c0
    have zz5 : zeros 5 [.int .i64 0] = [.int .i64 0, .int .i64 0, .int .i64 0, .int .i64 0, .int .i64 0] := rfl
    simp (config := {maxSteps := 3000000}) (disch := first | omega | (simp only [L3] <;> omega)) only [Sall,evalOp,init,binA_s,binE,binI,unE,convE,okNil,builtE,gv,TD.isAgg,resV,↓reduceIte,Nat.reduceEqDiff,reduceCtorEq,Nat.reduceAdd,Nat.reduceMul,Nat.reduceLeDiff,quietOp,blindOp,Int.reduceEq,Int.reduceLT,Int.reduceLE,Nat.reduceLT,tiA,tiXA, f0, g0, g1, g3, hone, w64, zz5]
    refine (pickL [1, 15, 0, -1, (n : Int) + 1] 5 rfl (by omega) (by omega) d3 hsi hc hsc hnb).ex ?_
    rintro p H5 ⟨hp, d4⟩
    have hp2 : -1 ≤ p ∧ p ≤ 15 := by
      simp only [List.mem_cons, List.not_mem_nil, or_false] at hp
      omega
    have g1' := d4.rowAt 1 rfl
    have g3' := d4.rowAt 3 rfl
    have hw4 := d4.capOne 2 rfl
    have ne1 : ¬ H.next + 1 = rt := by
      obtain ⟨B, b, o⟩ := d4.ex
      exact o.ne (j := 1) (k := 3) rfl rfl (by omega) (fun S h => h.1) (fun S h => h.1)
    have ne2 : ¬ rt = H.next + 1 := fun e => ne1 e.symm
    have d5 := (d4.putRow 3 rfl (cs' := [.int .i64 p, w])).putRow 1 rfl (cs' := [.int .i64 p, w])
    refine Holds.mp ?_
    try simp (disch := first | omega | (simp only [L3] <;> omega)) only [Sall,evalOp,init,binA_s,binE,binI,unE,convE,okNil,builtE,gv,TD.isAgg,resV,↓reduceIte,Nat.reduceEqDiff,reduceCtorEq,Nat.reduceAdd,Nat.reduceMul,Nat.reduceLeDiff,quietOp,blindOp,Int.reduceEq,Int.reduceLT,Int.reduceLE,Nat.reduceLT,tiA,tiXA, g1', g3', hw4, ne1, ne2]
    exact ⟨p, k, w, l, rfl, hp2, by omega, hV.bad hn.2, [_], d5.sub1 2 rfl, .inr rfl⟩
  have f0 : ((x : Int) == 0) = false := beq_eq_false_iff_ne.2 c0
  by_cases c1 : (x : Int) = 1
  · have f1 : ((x : Int) == 1) = true := beq_iff_eq.2 c1
    by_cases hk0 : 0 < k
    · have f2 : decide ((0 : Int) < (k : Int)) = true := decide_eq_true (by omega)
      obtain ⟨B3, b3, o3⟩ := id d3.ex
      obtain ⟨wi, rest, _, _, rfl, hwr⟩ := o3.capGet 2 rfl hk0
      have hll := o3.capLen 2 rfl
      rw [ints_length] at hll
      have hl14 : (l.take 14).length = 14 := by rw [List.length_take]; omega
      have sg : seg (ints l ++ rest) 0 14 = ints (l.take 14) := by
        simp only [seg, List.drop_zero]
        rw [List.take_append_of_le_length (by rw [ints_length]; omega)]
        simp [ints, List.map_take]
      have lg : 14 ≤ (ints l ++ rest).length := by rw [List.length_append, ints_length]; omega
      try simp (disch := first | omega | (simp only [L3] <;> omega)) only [Sall,evalOp,init,binA_s,binE,binI,unE,convE,okNil,builtE,gv,TD.isAgg,resV,↓reduceIte,Nat.reduceEqDiff,reduceCtorEq,Nat.reduceAdd,Nat.reduceMul,Nat.reduceLeDiff,quietOp,blindOp,Int.reduceEq,Int.reduceLT,Int.reduceLE,Nat.reduceLT,tiA,tiXA, f0, f1, g3, hw3, builtE, hlw, f2, Int.toNat_zero, hwr, sg, lg, hl14]
      have d4 := (d3.push ⟨69, true, ints (List.replicate 14 0)⟩).putRow 4 rfl (cs' := ints (l.take 14))
      obtain ⟨rk, erk⟩ : ∃ rk, rk = H4.next := ⟨_, rfl⟩
      rw [← erk] at d4 ⊢
      have nwk : ¬ wi = rk := by omega
      have hwr4 : ((H4.push ⟨69, true, ints (List.replicate 14 0)⟩).setCells rk (ints (l.take 14))).row wi = some ⟨69, true, ints l ++ rest⟩ := by
        rw [AH.setCells_row, if_neg nwk, AH.push_row, if_neg (by omega)]; exact hwr
      have d4 : Dq cv nb si H ((H4.push ⟨69, true, ints (List.replicate 14 0)⟩).setCells rk (ints (l.take 14))) [.row H.next ⟨26, true, [.int .i64 n, v]⟩, .row (H.next + 1) ⟨26, true, [.int .i64 0, .slice none 0 0]⟩, .cap 14 69 (.slice (some ⟨wi, 0, some 14⟩) k k) k (ints l), .row rt ⟨26, true, [.int .i64 n, .slice (some ⟨wi, 0, some 14⟩) k k]⟩, .row rk ⟨69, true, ints (l.take 14)⟩] := d4
      generalize (H4.push ⟨69, true, ints (List.replicate 14 0)⟩).setCells rk (ints (l.take 14)) = H5 at d4 hwr4 ⊢
      refine ⟨by omega, ?_⟩
      refine (nextD 14 d4 hsi hc hsc hnb (by omega)).ex ?_
      rintro y H6 ⟨hy, d5⟩
      have zz4 : zeros 4 [.int .i64 0] = [.int .i64 0, .int .i64 0, .int .i64 0, .int .i64 0] := rfl
      refine Holds.mp ?_
      try simp (disch := first | omega | (simp only [L3] <;> omega)) only [Sall,evalOp,init,binA_s,binE,binI,unE,convE,okNil,builtE,gv,TD.isAgg,resV,↓reduceIte,Nat.reduceEqDiff,reduceCtorEq,Nat.reduceAdd,Nat.reduceMul,Nat.reduceLeDiff,quietOp,blindOp,Int.reduceEq,Int.reduceLT,Int.reduceLE,Nat.reduceLT,tiA,tiXA, zz4]
      refine (pickL [1, 0, -1, 14] 4 rfl (by omega) (by omega) d5 hsi hc hsc hnb).ex ?_
      rintro p H7 ⟨hp, d6⟩
      have hp2 : -1 ≤ p ∧ p ≤ 14 := by
        simp only [List.mem_cons, List.not_mem_nil, or_false] at hp
        omega
      obtain ⟨B7, b7, o7⟩ := id d6.ex
      obtain ⟨wi', rest', _, _, ew, hwr7⟩ := o7.capGet 2 rfl hk0
      cases ew
      have g1' := d6.rowAt 1 rfl
      have g3' := d6.rowAt 3 rfl
      have g4 := d6.rowAt 4 rfl
      have cm : ∀ S, (Th.cap 14 69 (.slice (some ⟨wi, 0, some 14⟩) k k) k (ints l)).p H7 S → S wi := fun S h => by
        rcases h.2 with ⟨_, h1⟩ | ⟨i', _, h1, h2, _⟩
        · cases h1
        · cases h2; exact h1
      have n1 : ¬ rt = rk := o7.ne (j := 3) (k := 4) rfl rfl (by omega) (fun S h => h.1) (fun S h => h.1)
      have n2 : ¬ wi = rk := o7.ne (j := 2) (k := 4) rfl rfl (by omega) cm (fun S h => h.1)
      have n3 : ¬ rt = wi := o7.ne (j := 3) (k := 2) rfl rfl (by omega) (fun S h => h.1) cm
      have n4 : ¬ H.next + 1 = wi := o7.ne (j := 1) (k := 2) rfl rfl (by omega) (fun S h => h.1) cm
      have n5 : ¬ H.next + 1 = rk := o7.ne (j := 1) (k := 4) rfl rfl (by omega) (fun S h => h.1) (fun S h => h.1)
      have n6 : ¬ rk = wi := fun e => n2 e.symm
      have d7 := d6.putRow 4 rfl (cs' := ints ((l.take 14).set y p))
      have hwr8 : (H7.setCells rk (ints ((l.take 14).set y p))).row wi = some ⟨69, true, ints l ++ rest'⟩ := by rw [AH.setCells_row, if_neg n2]; exact hwr7
      have yn : ((y : Nat) : Int).toNat = y := rfl
      obtain ⟨r2, er⟩ : ∃ r2, r2 = (l.take 14).set y p := ⟨_, rfl⟩
      rw [← er] at d7 hwr8
      have hr14 : r2.length = 14 := by rw [er, List.length_set]; exact hl14
      have hr2 : ∀ x, x ∈ r2 ++ l.drop 14 → -1 ≤ x ∧ x ≤ 14 := by
        intro x hx
        rcases List.mem_append.1 hx with h | h
        · rw [er] at h
          rcases List.mem_or_eq_of_mem_set h with h | h
          · exact hV.bad hn.2 x (List.mem_of_mem_take h)
          · rw [h]; exact hp2
        · exact hV.bad hn.2 x (List.mem_of_mem_drop h)
      have lg' : 14 ≤ (ints l ++ rest').length := by rw [List.length_append, ints_length]; omega
      have hsp : splice (ints l ++ rest') 0 (ints r2) = ints (r2 ++ l.drop 14) ++ rest' := by
        unfold splice
        rw [List.take_zero, List.nil_append, ints_length, hr14, Nat.zero_add, List.drop_append_of_le_length (by rw [ints_length]; omega), ← ints_append, List.append_assoc]
        simp [ints, List.map_drop]
      have hl' : (r2 ++ l.drop 14).length = l.length := by rw [List.length_append, List.length_drop, hr14]; omega
      obtain ⟨B8, b8, o8⟩ := id d7.ex
      have d8 : Dq cv nb si H ((H7.setCells rk (ints r2)).setCells wi (ints (r2 ++ l.drop 14) ++ rest')) [.row H.next ⟨26, true, [.int .i64 n, v]⟩, .row (H.next + 1) ⟨26, true, [.int .i64 0, .slice none 0 0]⟩, .cap 14 69 (.slice (some ⟨wi, 0, some 14⟩) k k) k (ints (r2 ++ l.drop 14)), .row rt ⟨26, true, [.int .i64 n, .slice (some ⟨wi, 0, some 14⟩) k k]⟩, .row rk ⟨69, true, ints r2⟩] :=
        ⟨⟨B8, b8, o8.capPut 2 rfl hwr8 (by rw [ints_length, ints_length, hl'])⟩⟩
      have d9 := d8.putRow 1 rfl (cs' := [.int .i64 n, .slice (some ⟨wi, 0, some 14⟩) k k])
      have hset : (ints (l.take 14)).set y (.int .i64 p) = ints r2 := by rw [er, ints_set]
      refine Holds.mp ?_
      try simp (disch := first | omega | (simp only [L3] <;> omega)) only [Sall,evalOp,init,binA_s,binE,binI,unE,convE,okNil,builtE,gv,TD.isAgg,resV,↓reduceIte,Nat.reduceEqDiff,reduceCtorEq,Nat.reduceAdd,Nat.reduceMul,Nat.reduceLeDiff,quietOp,blindOp,Int.reduceEq,Int.reduceLT,Int.reduceLE,Nat.reduceLT,tiA,tiXA, g4, hl14, hset, hr14, g3', g1', hwr7, n1, n2, n3, n4, n5, n6, Int.toNat_zero, lg', hsp]
      (repeat refine And.intro (by omega) ?_)
      exact ⟨n, k, _, _, rfl, ⟨by omega, by omega⟩, by omega, hr2, [_], d9.sub1 2 rfl, .inr rfl⟩
    · have f2 : decide ((0 : Int) < (k : Int)) = false := decide_eq_false (by omega)
      try simp (disch := first | omega | (simp only [L3] <;> omega)) only [Sall,evalOp,init,binA_s,binE,binI,unE,convE,okNil,builtE,gv,TD.isAgg,resV,↓reduceIte,Nat.reduceEqDiff,reduceCtorEq,Nat.reduceAdd,Nat.reduceMul,Nat.reduceLeDiff,quietOp,blindOp,Int.reduceEq,Int.reduceLT,Int.reduceLE,Nat.reduceLT,tiA,tiXA, f0, f1, g0, g1, g3, hw3, builtE, hlw, f2, hone]
      exact back _ (Dq.left (L := [_, _]) d3)
  have f1 : ((x : Int) == 1) = false := beq_eq_false_iff_ne.2 c1
  by_cases c2 : (x : Int) = 2
  · have f2 : ((x : Int) == 2) = true := beq_iff_eq.2 c2
    try simp (disch := first | omega | (simp only [L3] <;> omega)) only [Sall,evalOp,init,binA_s,binE,binI,unE,convE,okNil,builtE,gv,TD.isAgg,resV,↓reduceIte,Nat.reduceEqDiff,reduceCtorEq,Nat.reduceAdd,Nat.reduceMul,Nat.reduceLeDiff,quietOp,blindOp,Int.reduceEq,Int.reduceLT,Int.reduceLE,Nat.reduceLT,tiA,tiXA, f0, f1, f2]
    refine awp_loop (fun z t H' => ∃ (k' : Nat) (w' : Value) (l' : List Int), z = 41 - k' ∧ k' ≤ 41 ∧ t 3 = .pointer (some ⟨H.next, 0, none⟩) ∧ t 4 = .pointer (some ⟨H.next + 1, 0, none⟩) ∧ t 5 = .pointer (some ⟨rt, 0, none⟩) ∧ VL n l' ∧ Dq cv nb si H H' [.row H.next ⟨26, true, [.int .i64 n, v]⟩, .row (H.next + 1) ⟨26, true, [.int .i64 0, .slice none 0 0]⟩, .cap 14 69 w' k' (ints l'), .row rt ⟨26, true, [.int .i64 n, w']⟩]) (41 - k) ?_ ?_
    · refine ⟨k, w, l, rfl, by omega, ?_⟩
      try simp (disch := first | omega | (simp only [L3] <;> omega)) only [Sall,evalOp,init,binA_s,binE,binI,unE,convE,okNil,builtE,gv,TD.isAgg,resV,↓reduceIte,Nat.reduceEqDiff,reduceCtorEq,Nat.reduceAdd,Nat.reduceMul,Nat.reduceLeDiff,quietOp,blindOp,Int.reduceEq,Int.reduceLT,Int.reduceLE,Nat.reduceLT,tiA,tiXA, true_and]
      exact ⟨hV, d3⟩
    · rintro z t H' ⟨k', w', l', hz, hk', h3, h4, h5, hV', d4⟩
      have p0 := d4.rowAt 0 rfl
      have p1 := d4.rowAt 1 rfl
      have p3 := d4.rowAt 3 rfl
      have hw4 := d4.capOne 2 rfl
      have hlw4 := (d4.capRs 2 rfl).rd.len
      try simp (disch := first | omega | (simp only [L3] <;> omega)) only [Sall,evalOp,init,binA_s,binE,binI,unE,convE,okNil,builtE,gv,TD.isAgg,resV,↓reduceIte,Nat.reduceEqDiff,reduceCtorEq,Nat.reduceAdd,Nat.reduceMul,Nat.reduceLeDiff,quietOp,blindOp,Int.reduceEq,Int.reduceLT,Int.reduceLE,Nat.reduceLT,tiA,tiXA, h5, p3, hw4, builtE, hlw4]
      refine condC_dec (fun hh => ?_) (fun hh => ?_)
      · try simp (disch := first | omega | (simp only [L3] <;> omega)) only [Sall,evalOp,init,binA_s,binE,binI,unE,convE,okNil,builtE,gv,TD.isAgg,resV,↓reduceIte,Nat.reduceEqDiff,reduceCtorEq,Nat.reduceAdd,Nat.reduceMul,Nat.reduceLeDiff,quietOp,blindOp,Int.reduceEq,Int.reduceLT,Int.reduceLE,Nat.reduceLT,tiA,tiXA, true_and]
        refine draw_id (by kernel_rfl) (by kernel_rfl) ?_
        try simp (disch := first | omega | (simp only [L3] <;> omega)) only [Sall,evalOp,init,binA_s,binE,binI,unE,convE,okNil,builtE,gv,TD.isAgg,resV,↓reduceIte,Nat.reduceEqDiff,reduceCtorEq,Nat.reduceAdd,Nat.reduceMul,Nat.reduceLeDiff,quietOp,blindOp,Int.reduceEq,Int.reduceLT,Int.reduceLE,Nat.reduceLT,tiA,tiXA, h3, h5, p0, p3, hw4, hone]
        refine (freeS_c n (by omega) H').to ?_
        have hfl := freeL_length (n : Int)
        refine ⟨.inr (.inr (LE.refl _)), ?_⟩
        try simp (disch := first | omega | (simp only [L3] <;> omega)) only [Sall,evalOp,init,binA_s,binE,binI,unE,convE,okNil,builtE,gv,TD.isAgg,resV,↓reduceIte,Nat.reduceEqDiff,reduceCtorEq,Nat.reduceAdd,Nat.reduceMul,Nat.reduceLeDiff,quietOp,blindOp,Int.reduceEq,Int.reduceLT,Int.reduceLE,Nat.reduceLT,tiA,tiXA, h5, hfl, slCells, zeros_one]
        (repeat refine And.intro (by omega) ?_)
        refine ⟨.inr (.inr (d4.sc.le _)), ?_⟩
        refine (d4.tmp ⟨69, true, ints (freeL n)⟩).appC 2 (c := 1) (ms := ints (freeL n)) rfl rfl (by omega) (by rw [ints_length, hfl]) (by omega) (by decide) (by omega) ?_
        intro v' H10 d10
        rw [ints_append] at d10
        have q3 := d10.rowAt 3 rfl
        have hv' := d10.capOne 2 rfl
        refine ⟨.inr (.inl (by kernel_rfl)), ?_⟩
        try simp (disch := first | omega | (simp only [L3] <;> omega)) only [Sall,evalOp,init,binA_s,binE,binI,unE,convE,okNil,builtE,gv,TD.isAgg,resV,↓reduceIte,Nat.reduceEqDiff,reduceCtorEq,Nat.reduceAdd,Nat.reduceMul,Nat.reduceLeDiff,quietOp,blindOp,Int.reduceEq,Int.reduceLT,Int.reduceLE,Nat.reduceLT,tiA,tiXA, h5, q3, hv']
        have d11 := d10.putRow 3 rfl (cs' := [.int .i64 n, v'])
        refine ⟨.inr (.inl (by kernel_rfl)), ?_⟩
        try simp (disch := first | omega | (simp only [L3] <;> omega)) only [Sall,evalOp,init,binA_s,binE,binI,unE,convE,okNil,builtE,gv,TD.isAgg,resV,↓reduceIte,Nat.reduceEqDiff,reduceCtorEq,Nat.reduceAdd,Nat.reduceMul,Nat.reduceLeDiff,quietOp,blindOp,Int.reduceEq,Int.reduceLT,Int.reduceLE,Nat.reduceLT,tiA,tiXA, h3, h4, h5]
        exact ⟨41 - (k' + 1), by omega, k' + 1, v', _, rfl, by omega, hV'.app (freeVL (by omega)), d11⟩
      · have d5 := d4.putRow 1 rfl (cs' := [.int .i64 n, w'])
        try simp (disch := first | omega | (simp only [L3] <;> omega)) only [Sall,evalOp,init,binA_s,binE,binI,unE,convE,okNil,builtE,gv,TD.isAgg,resV,↓reduceIte,Nat.reduceEqDiff,reduceCtorEq,Nat.reduceAdd,Nat.reduceMul,Nat.reduceLeDiff,quietOp,blindOp,Int.reduceEq,Int.reduceLT,Int.reduceLE,Nat.reduceLT,tiA,tiXA, h4, h5, p1, p3, hw4]
        exact ⟨n, k', w', l', rfl, ⟨by omega, by omega⟩, hk', hV'.bad hn.2, [_], d5.sub1 2 rfl, .inr rfl⟩
  have f2 : ((x : Int) == 2) = false := beq_eq_false_iff_ne.2 c2
  try simp (disch := first | omega | (simp only [L3] <;> omega)) only [Sall,evalOp,init,binA_s,binE,binI,unE,convE,okNil,builtE,gv,TD.isAgg,resV,↓reduceIte,Nat.reduceEqDiff,reduceCtorEq,Nat.reduceAdd,Nat.reduceMul,Nat.reduceLeDiff,quietOp,blindOp,Int.reduceEq,Int.reduceLT,Int.reduceLE,Nat.reduceLT,tiA,tiXA, f0, f1, f2, g0, g1, hone]
  exact back _ (Dq.left (L := [_, _]) d3)
end Go.Proofs.YtpienljnoaendaaGreat.A
end

section
set_option maxRecDepth 100000
set_option maxHeartbeats 2000000
namespace Go.Proofs.YtpienljnoaendaaGreat.A
open Go Go.Abs Go.RowKit
theorem awp_cut3 {P : Program} {a b c d : Code} {Q : Exit → T → AH → Prop} {t : T} {H : AH} (M : T → AH → Prop) (h : awp P (a.seq (b.seq c)) (seqQ M Q) t H) (k : ∀ t H, M t H → awp P d Q t H) : awp P (a.seq (b.seq (c.seq d))) Q t H := by
  rw [awp_seq] at h ⊢
  refine awp_mono a _ _ t H (fun e t H h => ?_) h
  cases e with
  | normal =>
    simp only [seqQ_normal] at h ⊢
    rw [awp_seq] at h ⊢
    refine awp_mono b _ _ t H (fun e t H h => ?_) h
    cases e with
    | normal =>
      simp only [seqQ_normal] at h ⊢
      rw [awp_seq]
      refine awp_mono c _ _ t H (fun e t H h => ?_) h
      cases e with
      | normal => exact k _ _ h
      | _ => exact h
    | _ => exact h
  | _ => exact h
end Go.Proofs.YtpienljnoaendaaGreat.A
end

section
set_option maxRecDepth 100000
set_option maxHeartbeats 2000000
namespace Go.Proofs.YtpienljnoaendaaGreat.A
open Go Go.Abs Go.RowKit
def EvL (ll : List (List Int)) : Prop := ll.length ≤ 64 ∧ ∀ r ∈ ll, r.length ≤ 64
theorem EvL.nil : EvL [] := ⟨by simp, by simp⟩
theorem EvL.app {ll mm : List (List Int)} (h : EvL ll) (k : EvL mm) (hl : ll.length + mm.length ≤ 64) : EvL (ll ++ mm) := ⟨by simp; omega, fun r hr => by
  rcases List.mem_append.1 hr with h1 | h1
  · exact h.2 r h1
  · exact k.2 r h1⟩
end Go.Proofs.YtpienljnoaendaaGreat.A
end

section
set_option maxRecDepth 100000
set_option maxHeartbeats 2000000
namespace Go.Proofs.YtpienljnoaendaaGreat.A
open Go Go.Abs Go.RowKit
theorem Dq.sees {cv : Value} {nb si : Nat} {H H' : AH} {L : List Th} (h : Dq cv nb si H H' L) (k : Nat) {Q : AH → Prop} (hk : L[k]? = some (.see Q)) : Q H' := by
  obtain ⟨B, b, o⟩ := h.ex
  exact o.sees k hk
theorem EvL.made {n m : Nat} {y : List Int} (hm : m ≤ 64) (hy : y.length ≤ 64) : EvL (madeL m y m) := ⟨by rw [madeL_length]; exact hm, fun r hr => by
  unfold madeL at hr
  rw [List.mem_map] at hr
  obtain ⟨i, _, rfl⟩ := hr
  rw [mdL_length]; exact hy⟩
end Go.Proofs.YtpienljnoaendaaGreat.A
end
