/- Contracts: the fewest breaks, the reference's. And what follows. -/
import Derived.Test.YtemgclojolmhbaaGreatM4
set_option linter.unusedSimpArgs false
set_option linter.unusedVariables false
section
set_option maxRecDepth 100000
set_option maxHeartbeats 4000000
namespace Go.Proofs.YtemgclojolmhbaaGreat.A
open Go Go.Abs Go.RowKit
theorem rd2_of_row {H : AH} {i : Nat} {ty : TypeId} {x y : Value} {a b : List Int} {m1 m2 : Nat} (h : H.row i = some ⟨ty, true, [x, y]⟩) (hx : Rd 1 H x m1 a) (hy : Rd 1 H y m2 b) : Rd2 1 H (.slice (some ⟨i, 0, some 1⟩) 2 2) [a, b] := by
  refine .inr ⟨i, 0, some 1, 2, _, rfl, h, fun j hj => ?_⟩
  have hj : j < 2 := hj
  rcases Nat.lt_or_ge j 1 with h1 | h1
  · have : j = 0 := by omega
    subst this
    exact ⟨x, m1, rfl, hx⟩
  · have : j = 1 := by omega
    subst this
    exact ⟨y, m2, rfl, hy⟩
theorem specFewestBreaks_c (q : Int) (v : Value) (k : Nat) (l : List Int) (H : AH) (hv : Rd 14 H v k l) (hk : k ≤ 4294967296) :
    ACalls Tryz.prog 7 [.agg #[.int .i64 q, v]] H (is (.tuple #[.int .i64 (fewR q k l), .int .i64 (fewC q k l)]) H) := by
  refine zaY (by simp [flat, Abs.scal]) (ACalls.wf (by kernel_rfl) fun hs => za3 [.tmp 2, .tmp 3] Tryz.func7 (by kernel_rfl) rfl rfl (Nat.le_of_ble_eq_true rfl) (by kernel_rfl) ?_)
  have hone := hv.one
  have o1 := (Ow.refl hs).push ⟨26, true, [.int .i64 q, v]⟩
  try simp (disch := first | omega | (simp only [L3] <;> omega)) only [Sall,evalOp,init,binA_s,binE,binI,unE,convE,okNil,builtE,gv,TD.isAgg,resV,↓reduceIte,Nat.reduceEqDiff,reduceCtorEq,Nat.reduceAdd,Nat.reduceMul,Nat.reduceLeDiff,za0,za2,Int.reduceEq,Int.reduceLT,Int.reduceLE,Nat.reduceLT,tiA,tiXA, hone]
  obtain ⟨pi, epi⟩ : ∃ pi, pi = H.next := ⟨_, rfl⟩
  rw [← epi] at o1 ⊢
  revert o1
  generalize H.push ⟨26, true, [.int .i64 q, v]⟩ = H1
  intro o1
  have up1 : Up pi H H1 := by rw [epi]; exact o1.up
  have e1 := (o1.rowAt 0 rfl).1
  have hv1 := hv.same (o1.old hs)
  try simp (disch := first | omega | (simp only [L3] <;> omega)) only [Sall,evalOp,init,binA_s,binE,binI,unE,convE,okNil,builtE,gv,TD.isAgg,resV,↓reduceIte,Nat.reduceEqDiff,reduceCtorEq,Nat.reduceAdd,Nat.reduceMul,Nat.reduceLeDiff,za0,za2,Int.reduceEq,Int.reduceLT,Int.reduceLE,Nat.reduceLT,tiA,tiXA, e1, hone]
  refine (zhY q v k l H1 hv1 hk).to ?_
  refine Holds.mp ?_
  unfold fewR fewC
  cases hb : schedB q k l with
  | false =>
    rw [if_neg (by simp), if_neg (by simp)]
    try simp (disch := first | omega | (simp only [L3] <;> omega)) only [Sall,evalOp,init,binA_s,binE,binI,unE,convE,okNil,builtE,gv,TD.isAgg,resV,↓reduceIte,Nat.reduceEqDiff,reduceCtorEq,Nat.reduceAdd,Nat.reduceMul,Nat.reduceLeDiff,za0,za2,Int.reduceEq,Int.reduceLT,Int.reduceLE,Nat.reduceLT,tiA,tiXA, Bool.not_false]
    exact up1
  | true =>
  rw [if_pos rfl]
  obtain ⟨⟨hq2, hq14⟩, hk40, hro⟩ := zaT hb
  obtain ⟨n, rfl⟩ : ∃ n : Nat, q = n := ⟨q.toNat, by omega⟩
  rw [Int.toNat_natCast]
  have hlv := hv1.len
  have hgm : ∀ i, i ≤ k → (gmAll n l i).length ≤ 560 := fun i hi => Nat.le_trans (zfO n l i) (Nat.mul_le_mul (show i ≤ 40 by omega) (show n ≤ 14 by omega))
  have hrnd := zfJ hb
  -- the round's cells
  have hcell : ∀ i, i < k → ∃ qi qo qu qc qr, v = .slice (some ⟨qi, qo, qu⟩) k qc ∧ H1.row qi = some qr ∧ seg qr.cells (qo + i * 14) 14 = ints (rnd l i) ∧ qo + k * 14 ≤ qr.cells.length := by
    intro i hi
    obtain ⟨qi, qo, qu, qc, qr, ev, q1, q2, q3, q4⟩ := hv1.get (by omega)
    exact ⟨qi, qo, qu, qc, qr, ev, q1, q4 (i * 14) 14 (by omega), q2⟩
  try simp (disch := first | omega | (simp only [L3] <;> omega)) only [Sall,evalOp,init,binA_s,binE,binI,unE,convE,okNil,builtE,gv,TD.isAgg,resV,↓reduceIte,Nat.reduceEqDiff,reduceCtorEq,Nat.reduceAdd,Nat.reduceMul,Nat.reduceLeDiff,za0,za2,Int.reduceEq,Int.reduceLT,Int.reduceLE,Nat.reduceLT,tiA,tiXA, Bool.not_true]
  refine za5 (fun m t H' => Up H1.next H1 H' ∧ Sc H' ∧ ∃ i : Nat, m = k - i ∧ i ≤ k ∧ t 5 = .int .i64 i ∧ t 4 = .int .i64 (gmAll n l i).length ∧ t 1 = .pointer (some ⟨pi, 0, none⟩)) k ?_ ?_
  · refine ⟨Up.refl _ _, o1.sc, 0, by omega, by omega, ?_⟩
    try simp (disch := first | omega | (simp only [L3] <;> omega)) only [Sall,evalOp,init,binA_s,binE,binI,unE,convE,okNil,builtE,gv,TD.isAgg,resV,↓reduceIte,Nat.reduceEqDiff,reduceCtorEq,Nat.reduceAdd,Nat.reduceMul,Nat.reduceLeDiff,za0,za2,Int.reduceEq,Int.reduceLT,Int.reduceLE,Nat.reduceLT,tiA,tiXA, Int.natCast_zero]
    rfl
  · rintro m t H' ⟨up', sc', i, hm, hi, h5, h4, h1⟩
    have e1' : H'.row pi = some ⟨26, true, [.int .i64 n, v]⟩ := by rw [up'.row _ (o1.rowAt 0 rfl).2.2]; exact e1
    try simp (disch := first | omega | (simp only [L3] <;> omega)) only [Sall,evalOp,init,binA_s,binE,binI,unE,convE,okNil,builtE,gv,TD.isAgg,resV,↓reduceIte,Nat.reduceEqDiff,reduceCtorEq,Nat.reduceAdd,Nat.reduceMul,Nat.reduceLeDiff,za0,za2,Int.reduceEq,Int.reduceLT,Int.reduceLE,Nat.reduceLT,tiA,tiXA, h5, h1, e1', builtE, hlv]
    refine za4 (fun hh => ?_) (fun hh => ?_)
    · have hik : i < k := by omega
      obtain ⟨qi, qo, qu, qc, qr, ev, q1, q4, q2⟩ := hcell i hik
      have q1' := (up'.le o1.sc).row _ _ q1
      have hrl : (rnd l i).length = 14 := zbF l i k hv.1 hik
      have gi : (0 : Int) ≤ (i : Int) := by omega
      have gi2 : (i : Int) < (k : Int) := hh
      have gi3 : qo + i * 14 + 14 ≤ qr.cells.length := by omega
      try simp (disch := first | omega | (simp only [L3] <;> omega)) only [Sall,evalOp,init,binA_s,binE,binI,unE,convE,okNil,builtE,gv,TD.isAgg,resV,↓reduceIte,Nat.reduceEqDiff,reduceCtorEq,Nat.reduceAdd,Nat.reduceMul,Nat.reduceLeDiff,za0,za2,Int.reduceEq,Int.reduceLT,Int.reduceLE,Nat.reduceLT,tiA,tiXA, true_and]
      refine zb2 (by kernel_rfl) (by kernel_rfl) ?_
      try simp (disch := first | omega | (simp only [L3] <;> omega)) only [Sall,evalOp,init,binA_s,binE,binI,unE,convE,okNil,builtE,gv,TD.isAgg,resV,↓reduceIte,Nat.reduceEqDiff,reduceCtorEq,Nat.reduceAdd,Nat.reduceMul,Nat.reduceLeDiff,za0,za2,Int.reduceEq,Int.reduceLT,Int.reduceLE,Nat.reduceLT,tiA,tiXA, h5, h4, h1, e1', ev, q1', q4, gi, gi2, gi3]
      refine ACalls.mono (zfZ n (rnd l i) hrl (by omega) H').sc ?_
      rintro w H2 ⟨⟨up2, fr2⟩, sc2⟩
      have hw := fr2.rd.one
      have hwl := fr2.rd.len
      refine ⟨.inr (.inr (up2.le sc')), ?_⟩
      refine Holds.mp ?_
      have hg1 := hgm (i + 1) (by omega)
      rw [zcU, List.length_append, zcQ] at hg1
      have wg : IntKind.i64.wrap (((gmAll n l i).length : Int) + ((pairsL (rnd l i) n).length : Int)) = ((gmAll n l (i + 1)).length : Int) := by
        rw [zcU, List.length_append, zcQ, Int.natCast_add]
        exact w64 ⟨by omega, by omega⟩
      have wi : IntKind.i64.wrap ((i : Int) + 1) = ((i + 1 : Nat) : Int) := w64 ⟨by omega, by omega⟩
      try simp (disch := first | omega | (simp only [L3] <;> omega)) only [Sall,evalOp,init,binA_s,binE,binI,unE,convE,okNil,builtE,gv,TD.isAgg,resV,↓reduceIte,Nat.reduceEqDiff,reduceCtorEq,Nat.reduceAdd,Nat.reduceMul,Nat.reduceLeDiff,za0,za2,Int.reduceEq,Int.reduceLT,Int.reduceLE,Nat.reduceLT,tiA,tiXA, h5, h4, h1, hw, builtE, hwl, wg, wi]
      exact ⟨k - (i + 1), by omega, up'.trans up2 up'.next, sc2, i + 1, rfl, by omega, rfl, rfl⟩
    · have hie : i = k := by omega
      rw [hie] at h4
      have hg5 := hgm k (Nat.le_refl _)
      try simp (disch := first | omega | (simp only [L3] <;> omega)) only [Sall,evalOp,init,binA_s,binE,binI,unE,convE,okNil,builtE,gv,TD.isAgg,resV,↓reduceIte,Nat.reduceEqDiff,reduceCtorEq,Nat.reduceAdd,Nat.reduceMul,Nat.reduceLeDiff,za0,za2,Int.reduceEq,Int.reduceLT,Int.reduceLE,Nat.reduceLT,tiA,tiXA, h4]
      refine za4 (fun hh3 => ?_) (fun hh3 => ?_)
      · have hg : ¬ gmN n l k ≤ 15 := by unfold gmN; omega
        rw [if_neg hg, if_neg (by decide)]
        try simp (disch := first | omega | (simp only [L3] <;> omega)) only [Sall,evalOp,init,binA_s,binE,binI,unE,convE,okNil,builtE,gv,TD.isAgg,resV,↓reduceIte,Nat.reduceEqDiff,reduceCtorEq,Nat.reduceAdd,Nat.reduceMul,Nat.reduceLeDiff,za0,za2,Int.reduceEq,Int.reduceLT,Int.reduceLE,Nat.reduceLT,tiA,tiXA, true_and]
        exact up1.trans up' (by rw [epi]; exact up1.next)
      have hg : gmN n l k ≤ 15 := by unfold gmN; omega
      rw [if_pos hg, if_pos rfl]
      have o2 : Ow H1 H' [] := Ow.of_up up' sc'
      have o3 := (o2.pushSl2 (Value.int .i64) 33 2).pushSl (k := 1) (n := 0) (ty := 2) (vs := ints []) rfl
      have zz1 : zeros 0 [.slice none 0 0] = [] := rfl
      have zz2 : zeros 0 [.int .i64 0] = ints [] := rfl
      have hRp : ∀ i, 0 < (rowsL n (rnd l i)).length := fun i => zi0 n (rnd l i)
      have hRl : ∀ i, (rowsL n (rnd l i)).length ≤ 16384 := by
        intro i
        have h : (pairsL (rnd l i) n).length ≤ 14 := by
          unfold pairsL
          rw [List.length_map]
          exact Nat.le_trans (List.length_filter_le _ _) (by rw [List.length_range]; omega)
        have h2 : 2 ^ (pairsL (rnd l i) n).length ≤ 2 ^ 14 := Nat.pow_le_pow_right (by omega) h
        unfold rowsL
        rw [List.length_map, List.length_range]
        exact h2
      have hRw : ∀ i, i < k → ∀ j, j < (rowsL n (rnd l i)).length → ((rowsL n (rnd l i)).getD j []).length = n := by
        intro i hi j hj
        have := zb1 (d := ([] : List Int)) hj
        exact ((zfC (hrnd i hi)).1 this).len
      have hRwI : ∀ i, i ≤ k → ∀ j, j < (rwI (fun i => rowsL n (rnd l i)) i).length → ((rwI (fun i => rowsL n (rnd l i)) i).getD j []).length = n := by
        intro i hi j hj
        unfold rwI at hj ⊢
        split at hj
        · simp at hj
        · rename_i h0
          rw [if_neg h0]
          exact hRw _ (by omega) j hj
      have hRlI : ∀ i, (rwI (fun i => rowsL n (rnd l i)) i).length ≤ 16384 := by
        intro i
        unfold rwI
        split
        · exact Nat.zero_le _
        · exact hRl _
      obtain ⟨R, eR⟩ : ∃ R : Nat → List (List Int), R = fun i => rowsL n (rnd l i) := ⟨_, rfl⟩
      have hRe : ∀ i, R i = rowsL n (rnd l i) := fun i => by rw [eR]
      rw [← eR] at hRwI hRlI ⊢
      have np : ¬ pi = H'.next := by have := (o1.rowAt 0 rfl).2.2; have := up'.next; omega
      have np1 : ¬ pi = H'.next + 1 := by have := (o1.rowAt 0 rfl).2.2; have := up'.next; omega
      try simp (disch := first | omega | (simp only [L3] <;> omega)) only [Sall,evalOp,init,binA_s,binE,binI,unE,convE,okNil,builtE,gv,TD.isAgg,resV,↓reduceIte,Nat.reduceEqDiff,reduceCtorEq,Nat.reduceAdd,Nat.reduceMul,Nat.reduceLeDiff,za0,za2,Int.reduceEq,Int.reduceLT,Int.reduceLE,Nat.reduceLT,tiA,tiXA, zz1, zz2, h1, np, np1]
      (repeat refine And.intro (by omega) ?_)
      refine za5 (fun m t Hx => ∃ (i : Nat) (x y : Value), m = k - i ∧ i ≤ k ∧ t 8 = .int .i64 i ∧ t 6 = x ∧ t 7 = y ∧ t 1 = .pointer (some ⟨pi, 0, none⟩) ∧ Ow H1 Hx [.sl2 (Value.int .i64) 33 2 x (rwI R i), .sl 1 2 y (fwI n R i).length (ints (fwI n R i))]) k ?_ ?_
      · refine ⟨0, .slice (some ⟨H'.next, 0, some 1⟩) 0 0, .slice (some ⟨H'.next + 1, 0, some 1⟩) 0 0, by omega, by omega, ?_⟩
        try simp (disch := first | omega | (simp only [L3] <;> omega)) only [Sall,evalOp,init,binA_s,binE,binI,unE,convE,okNil,builtE,gv,TD.isAgg,resV,↓reduceIte,Nat.reduceEqDiff,reduceCtorEq,Nat.reduceAdd,Nat.reduceMul,Nat.reduceLeDiff,za0,za2,Int.reduceEq,Int.reduceLT,Int.reduceLE,Nat.reduceLT,tiA,tiXA, Int.natCast_zero, h1]
        exact o3
      · rintro m t H3 ⟨i, x, y, hm, hi, h8, h6, h7, h1, o4⟩
        have e13 : H3.row pi = some ⟨26, true, [.int .i64 n, v]⟩ := by rw [o4.up.row _ (o1.rowAt 0 rfl).2.2]; exact e1
        try simp (disch := first | omega | (simp only [L3] <;> omega)) only [Sall,evalOp,init,binA_s,binE,binI,unE,convE,okNil,builtE,gv,TD.isAgg,resV,↓reduceIte,Nat.reduceEqDiff,reduceCtorEq,Nat.reduceAdd,Nat.reduceMul,Nat.reduceLeDiff,za0,za2,Int.reduceEq,Int.reduceLT,Int.reduceLE,Nat.reduceLT,tiA,tiXA, h8, h1, e13, builtE, hlv]
        refine za4 (fun hh4 => ?_) (fun hh4 => ?_)
        · have hik : i < k := by omega
          obtain ⟨qi, qo, qu, qc, qr, ev, q1, q4, q2⟩ := hcell i hik
          have q1' := o4.old o1.sc _ _ q1
          have hrl : (rnd l i).length = 14 := zbF l i k hv.1 hik
          have gi : (0 : Int) ≤ (i : Int) := by omega
          have gi2 : (i : Int) < (k : Int) := hh4
          have gi3 : qo + i * 14 + 14 ≤ qr.cells.length := by omega
          try simp (disch := first | omega | (simp only [L3] <;> omega)) only [Sall,evalOp,init,binA_s,binE,binI,unE,convE,okNil,builtE,gv,TD.isAgg,resV,↓reduceIte,Nat.reduceEqDiff,reduceCtorEq,Nat.reduceAdd,Nat.reduceMul,Nat.reduceLeDiff,za0,za2,Int.reduceEq,Int.reduceLT,Int.reduceLE,Nat.reduceLT,tiA,tiXA, true_and]
          refine zb2 (by kernel_rfl) (by kernel_rfl) ?_
          try simp (disch := first | omega | (simp only [L3] <;> omega)) only [Sall,evalOp,init,binA_s,binE,binI,unE,convE,okNil,builtE,gv,TD.isAgg,resV,↓reduceIte,Nat.reduceEqDiff,reduceCtorEq,Nat.reduceAdd,Nat.reduceMul,Nat.reduceLeDiff,za0,za2,Int.reduceEq,Int.reduceLT,Int.reduceLE,Nat.reduceLT,tiA,tiXA, h8, h1, e13, ev, q1', q4, gi, gi2, gi3]
          refine ACalls.mono (l05Rows_c n (rnd l i) hrl (by omega) (hrnd i hik) H3) ?_
          intro w H4 ow
          refine ⟨.inr (.inr (ow.up.le o4.sc)), ?_⟩
          refine Holds.mp ?_
          have o5 := (o4.call ow).pushSl (k := 1) (n := 0) (ty := 2) (vs := ints []) rfl
          have hw := (ow.rd2 0 rfl).one
          have hwl := (ow.rd2 0 rfl).len
          rw [← hRe i] at o5 hwl
          have hlF : (dpF n R i).length = (R i).length := zgB n R i
          have np : ¬ pi = H4.next := by have := (o1.rowAt 0 rfl).2.2; have := o4.up.next; have := ow.up.next; omega
          try simp (disch := first | omega | (simp only [L3] <;> omega)) only [Sall,evalOp,init,binA_s,binE,binI,unE,convE,okNil,builtE,gv,TD.isAgg,resV,↓reduceIte,Nat.reduceEqDiff,reduceCtorEq,Nat.reduceAdd,Nat.reduceMul,Nat.reduceLeDiff,za0,za2,Int.reduceEq,Int.reduceLT,Int.reduceLE,Nat.reduceLT,tiA,tiXA, h8, h6, h7, h1, hw, zz2, np]
          (repeat refine And.intro (by omega) ?_)
          have hRli : (R i).length ≤ 16384 := by rw [hRe i]; exact hRl i
          have hRwi : ∀ j, j < (R i).length → ((R i).getD j []).length = n := by rw [hRe i]; exact hRw i hik
          have hflen : (fwI n R i).length = (rwI R i).length := zgL n R i
          have hfb := fun k h => fw_bound n R i k (by omega) (by omega) h
          have hdp := fun k h => dp_at n R i k h
          have hRwIi := hRwI i (by omega)
          have hRlIi := hRlI i
          have o5 : Ow H1 (H4.push ⟨2, true, ints []⟩) [.sl2 (Value.int .i64) 33 2 x (rwI R i), .sl 1 2 y (fwI n R i).length (ints (fwI n R i)), .sl2 (Value.int .i64) 33 2 w (R i), .sl 1 2 (.slice (some ⟨H4.next, 0, some 1⟩) 0 0) 0 (ints ((dpF n R i).take 0))] := o5
          refine za5 (fun m' t Hx => ∃ (kk : Nat) (z : Value), m' = (R i).length - kk ∧ kk ≤ (R i).length ∧ t 11 = .int .i64 kk ∧ t 10 = z ∧ t 9 = w ∧ t 8 = .int .i64 i ∧ t 7 = y ∧ t 6 = x ∧ t 1 = .pointer (some ⟨pi, 0, none⟩) ∧ Ow H1 Hx [.sl2 (Value.int .i64) 33 2 x (rwI R i), .sl 1 2 y (fwI n R i).length (ints (fwI n R i)), .sl2 (Value.int .i64) 33 2 w (R i), .sl 1 2 z kk (ints ((dpF n R i).take kk))]) (R i).length ?_ ?_
          · refine ⟨0, .slice (some ⟨H4.next, 0, some 1⟩) 0 0, by omega, by omega, ?_⟩
            try simp (disch := first | omega | (simp only [L3] <;> omega)) only [Sall,evalOp,init,binA_s,binE,binI,unE,convE,okNil,builtE,gv,TD.isAgg,resV,↓reduceIte,Nat.reduceEqDiff,reduceCtorEq,Nat.reduceAdd,Nat.reduceMul,Nat.reduceLeDiff,za0,za2,Int.reduceEq,Int.reduceLT,Int.reduceLE,Nat.reduceLT,tiA,tiXA, Int.natCast_zero, h8, h7, h6, h1]
            exact o5
          · rintro m' t H5 ⟨kk, z, hm', hkk, h11, h10, h9, h8, h7, h6, h1, o6⟩
            have hwl := (o6.rd2 2 rfl).len
            try simp (disch := first | omega | (simp only [L3] <;> omega)) only [Sall,evalOp,init,binA_s,binE,binI,unE,convE,okNil,builtE,gv,TD.isAgg,resV,↓reduceIte,Nat.reduceEqDiff,reduceCtorEq,Nat.reduceAdd,Nat.reduceMul,Nat.reduceLeDiff,za0,za2,Int.reduceEq,Int.reduceLT,Int.reduceLE,Nat.reduceLT,tiA,tiXA, h11, h9, builtE, hwl]
            refine za4 (fun hh5 => ?_) (fun hh5 => ?_)
            · have hkkl : kk < (R i).length := by omega
              obtain ⟨g, eg⟩ : ∃ g : Nat → Int, g = fun j => (fwI n R i).getD j 0 + brk n ((rwI R i).getD j []) ((R i).getD kk []) := ⟨_, rfl⟩
              have hge : ∀ j, g j = (fwI n R i).getD j 0 + brk n ((rwI R i).getD j []) ((R i).getD kk []) := fun j => by rw [eg]
              try simp (disch := first | omega | (simp only [L3] <;> omega)) only [Sall,evalOp,init,binA_s,binE,binI,unE,convE,okNil,builtE,gv,TD.isAgg,resV,↓reduceIte,Nat.reduceEqDiff,reduceCtorEq,Nat.reduceAdd,Nat.reduceMul,Nat.reduceLeDiff,za0,za2,Int.reduceEq,Int.reduceLT,Int.reduceLE,Nat.reduceLT,tiA,tiXA, h11, h10, h9, h8, h7, h6, h1]
              refine za5 (fun m2 t Hx => ∃ j : Nat, m2 = (rwI R i).length - j ∧ j ≤ (rwI R i).length ∧ t 13 = .int .i64 j ∧ t 12 = .int .i64 (mnI g j) ∧ t 11 = .int .i64 kk ∧ t 10 = z ∧ t 9 = w ∧ t 8 = .int .i64 i ∧ t 7 = y ∧ t 6 = x ∧ t 1 = .pointer (some ⟨pi, 0, none⟩) ∧ Ow H1 Hx [.sl2 (Value.int .i64) 33 2 x (rwI R i), .sl 1 2 y (fwI n R i).length (ints (fwI n R i)), .sl2 (Value.int .i64) 33 2 w (R i), .sl 1 2 z kk (ints ((dpF n R i).take kk))]) (rwI R i).length ?_ ?_
              · refine ⟨0, by omega, by omega, ?_⟩
                try simp (disch := first | omega | (simp only [L3] <;> omega)) only [Sall,evalOp,init,binA_s,binE,binI,unE,convE,okNil,builtE,gv,TD.isAgg,resV,↓reduceIte,Nat.reduceEqDiff,reduceCtorEq,Nat.reduceAdd,Nat.reduceMul,Nat.reduceLeDiff,za0,za2,Int.reduceEq,Int.reduceLT,Int.reduceLE,Nat.reduceLT,tiA,tiXA, Int.natCast_zero, h11, h10, h9, h8, h7, h6, h1]
                exact ⟨rfl, o6⟩
              · rintro m2 t H6 ⟨j, hm2, hj, h13, h12, h11, h10, h9, h8, h7, h6, h1, o7⟩
                have hxl := (o7.rd2 0 rfl).len
                try simp (disch := first | omega | (simp only [L3] <;> omega)) only [Sall,evalOp,init,binA_s,binE,binI,unE,convE,okNil,builtE,gv,TD.isAgg,resV,↓reduceIte,Nat.reduceEqDiff,reduceCtorEq,Nat.reduceAdd,Nat.reduceMul,Nat.reduceLeDiff,za0,za2,Int.reduceEq,Int.reduceLT,Int.reduceLE,Nat.reduceLT,tiA,tiXA, h13, h6, builtE, hxl]
                refine za4 (fun hh6 => ?_) (fun hh6 => ?_)
                · have hjl : j < (rwI R i).length := by omega
                  have e16 : H6.row pi = some ⟨26, true, [.int .i64 n, v]⟩ := by rw [o7.up.row _ (o1.rowAt 0 rfl).2.2]; exact e1
                  obtain ⟨yi, _, _, ey, yr⟩ := o7.get 1 rfl (by omega)
                  have y1 := ints_get? (fwI n R i) j (by omega)
                  obtain ⟨ai, ao, au, ac, ar, ax, am, ea, a1, a2, a3, a4⟩ := (o7.rd2 0 rfl).get (j := j) hjl
                  obtain ⟨bi, bo, bu, bc, br, bx, bm, eb, b1, b2, b3, b4⟩ := (o7.rd2 2 rfl).get (j := kk) hkkl
                  have ax1 := a3.one
                  have bx1 := b3.one
                  have gj : (0 : Int) ≤ (j : Int) := by omega
                  have gj2 : (j : Int) < ((rwI R i).length : Int) := by omega
                  have gj3 : (j : Int) < ((fwI n R i).length : Int) := by omega
                  have gk : (0 : Int) ≤ (kk : Int) := by omega
                  have gk2 : (kk : Int) < ((R i).length : Int) := by omega
                  have zz3 : zeros 2 [.slice none 0 0] = [.slice none 0 0, .slice none 0 0] := rfl
                  have np6 : ¬ pi = H6.next := by have := (o1.rowAt 0 rfl).2.2; have := o7.up.next; omega
                  try simp (disch := first | omega | (simp only [L3] <;> omega)) only [Sall,evalOp,init,binA_s,binE,binI,unE,convE,okNil,builtE,gv,TD.isAgg,resV,↓reduceIte,Nat.reduceEqDiff,reduceCtorEq,Nat.reduceAdd,Nat.reduceMul,Nat.reduceLeDiff,za0,za2,Int.reduceEq,Int.reduceLT,Int.reduceLE,Nat.reduceLT,tiA,tiXA, h13, h12, h11, h10, h9, h8, h7, h6, h1, ey, yr, y1, gj, gj3]
                  refine zb2 (by kernel_rfl) (by kernel_rfl) ?_
                  have aq1 := zbB ax1
                  have aq2 := zb0 ax1
                  have bq1 := zbB bx1
                  have bq2 := zb0 bx1
                  have sp1 : splice [.slice none 0 0, .slice none 0 0] 0 [ax] = [ax, .slice none 0 0] := rfl
                  have sp2 : splice [ax, .slice none 0 0] 1 [bx] = [ax, bx] := rfl
                  have sz1 : (#[ax] : Array Value).size = 1 := rfl
                  have sz2 : (#[bx] : Array Value).size = 1 := rfl
                  have tl1 : (#[ax] : Array Value).toList = [ax] := rfl
                  have tl2 : (#[bx] : Array Value).toList = [bx] := rfl
                  have le2 : (2 : Nat) ≤ ([ax, .slice none 0 0] : List Value).length := Nat.le_refl _
                  try simp (disch := first | omega | (simp only [L3] <;> omega)) only [Sall,evalOp,init,binA_s,binE,binI,unE,convE,okNil,builtE,gv,TD.isAgg,resV,↓reduceIte,Nat.reduceEqDiff,reduceCtorEq,Nat.reduceAdd,Nat.reduceMul,Nat.reduceLeDiff,za0,za2,Int.reduceEq,Int.reduceLT,Int.reduceLE,Nat.reduceLT,tiA,tiXA, h13, h11, h9, h6, h1, e16, ea, a1, a2, a4, eb, b1, b2, b4, gj, gj2, gk, gk2, ax1, bx1, zz3, np6, aq1, aq2, bq1, bq2, sp1, sp2, sz1, sz2, tl1, tl2, le2]
                  refine ⟨.inr (.inr (o7.sc.le _)), ?_⟩
                  have e8 : (H6.push ⟨33, true, [ax, bx]⟩).row H6.next = some ⟨33, true, [ax, bx]⟩ := by rw [AH.push_row, if_pos rfl]
                  have hrd := rd2_of_row e8 (a3.same (o7.sc.le _).row) (b3.same (o7.sc.le _).row)
                  have o8 := o7.tmp ⟨33, true, [ax, bx]⟩
                  have hax := hRwIi j hjl
                  have hbx := hRwi kk hkkl
                  generalize H6.push ⟨33, true, [ax, bx]⟩ = H7 at hrd o8 ⊢
                  have hgj := hge j
                  have hmj : mnI g (j + 1) = if j = 0 ∨ g j < mnI g j then g j else mnI g j := rfl
                  have hfj := hfb j hjl
                  have hbrk : brk n ((rwI R i).getD j []) ((R i).getD kk []) = sumI (brO ((rwI R i).getD j []) ((R i).getD kk [])) n := rfl
                  generalize (rwI R i).getD j [] = ja at hrd hax hgj hbrk
                  generalize (R i).getD kk [] = jb at hrd hbx hgj hbrk
                  generalize (fwI n R i).getD j 0 = jf at hfj hgj
                  refine ACalls.mono (zeZ n _ [ja, jb] H7 (by omega) hrd (by show 2 ≤ _; omega) fun i' hi' => by
                    have hi' : i' < 2 := hi'
                    rcases Nat.lt_or_ge i' 1 with h | h
                    · rw [show i' = 0 by omega]; exact hax
                    · rw [show i' = 1 by omega]; exact hbx) ?_
                  intro bv H8 ob
                  refine ⟨.inr (.inr (ob.up.le o8.sc)), ?_⟩
                  have o9 : Ow H1 H8 [.sl2 (Value.int .i64) 33 2 x (rwI R i), .sl 1 2 y (fwI n R i).length (ints (fwI n R i)), .sl2 (Value.int .i64) 33 2 w (R i), .sl 1 2 z kk (ints ((dpF n R i).take kk)), .sl 1 2 bv n (ints (bkL n [ja, jb]))] := o8.call ob
                  have hbv := o9.one 4 rfl
                  have hbl := o9.lenV 4 rfl
                  refine Holds.mp ?_
                  try simp (disch := first | omega | (simp only [L3] <;> omega)) only [Sall,evalOp,init,binA_s,binE,binI,unE,convE,okNil,builtE,gv,TD.isAgg,resV,↓reduceIte,Nat.reduceEqDiff,reduceCtorEq,Nat.reduceAdd,Nat.reduceMul,Nat.reduceLeDiff,za0,za2,Int.reduceEq,Int.reduceLT,Int.reduceLE,Nat.reduceLT,tiA,tiXA, h13, h12, h11, h10, h9, h8, h7, h6, h1, hbv]
                  refine za5 (fun m3 t Hx => Hx = H8 ∧ ∃ a : Nat, m3 = n - a ∧ a ≤ n ∧ t 16 = .int .i64 a ∧ t 14 = .int .i64 (jf + sumI (brO ja jb) a) ∧ t 15 = bv ∧ t 13 = .int .i64 j ∧ t 12 = .int .i64 (mnI g j) ∧ t 11 = .int .i64 kk ∧ t 10 = z ∧ t 9 = w ∧ t 8 = .int .i64 i ∧ t 7 = y ∧ t 6 = x ∧ t 1 = .pointer (some ⟨pi, 0, none⟩)) n ?_ ?_
                  · refine ⟨rfl, 0, by omega, by omega, ?_⟩
                    try simp (disch := first | omega | (simp only [L3] <;> omega)) only [Sall,evalOp,init,binA_s,binE,binI,unE,convE,okNil,builtE,gv,TD.isAgg,resV,↓reduceIte,Nat.reduceEqDiff,reduceCtorEq,Nat.reduceAdd,Nat.reduceMul,Nat.reduceLeDiff,za0,za2,Int.reduceEq,Int.reduceLT,Int.reduceLE,Nat.reduceLT,tiA,tiXA, Int.natCast_zero, h13, h12, h11, h10, h9, h8, h7, h6, h1]
                    rw [show sumI (brO ja jb) 0 = 0 from rfl, Int.add_zero]
                  · rintro m3 t Hx ⟨rfl, a, hm3, ha, h16, h14, h15, h13, h12, h11, h10, h9, h8, h7, h6, h1⟩
                    try simp (disch := first | omega | (simp only [L3] <;> omega)) only [Sall,evalOp,init,binA_s,binE,binI,unE,convE,okNil,builtE,gv,TD.isAgg,resV,↓reduceIte,Nat.reduceEqDiff,reduceCtorEq,Nat.reduceAdd,Nat.reduceMul,Nat.reduceLeDiff,za0,za2,Int.reduceEq,Int.reduceLT,Int.reduceLE,Nat.reduceLT,tiA,tiXA, h16, h15, builtE, hbl]
                    refine za4 (fun hh7 => ?_) (fun hh7 => ?_)
                    · have han : a < n := by omega
                      obtain ⟨ci, _, _, ec, cr⟩ := o9.get 4 rfl (by omega)
                      have hbkl : (bkL n [ja, jb]).length = n := by unfold bkL; rw [List.length_map, List.length_range]
                      have c1 := ints_get? (bkL n [ja, jb]) a (by omega)
                      rw [bk2_at n ja jb a han] at c1
                      have hbo := brO_le ja jb a
                      have hsum : 0 ≤ sumI (brO ja jb) a ∧ sumI (brO ja jb) a ≤ (a : Int) := brk_le a ja jb
                      have hss : sumI (brO ja jb) (a + 1) = sumI (brO ja jb) a + brO ja jb a := rfl
                      have wc : IntKind.i64.wrap (jf + sumI (brO ja jb) a + brO ja jb a) = jf + sumI (brO ja jb) (a + 1) := by rw [hss, ← Int.add_assoc]; exact w64 ⟨by omega, by omega⟩
                      have wa : IntKind.i64.wrap ((a : Int) + 1) = ((a + 1 : Nat) : Int) := w64 ⟨by omega, by omega⟩
                      have ga : (0 : Int) ≤ (a : Int) := by omega
                      have ga2 : (a : Int) < (n : Int) := hh7
                      try simp (disch := first | omega | (simp only [L3] <;> omega)) only [Sall,evalOp,init,binA_s,binE,binI,unE,convE,okNil,builtE,gv,TD.isAgg,resV,↓reduceIte,Nat.reduceEqDiff,reduceCtorEq,Nat.reduceAdd,Nat.reduceMul,Nat.reduceLeDiff,za0,za2,Int.reduceEq,Int.reduceLT,Int.reduceLE,Nat.reduceLT,tiA,tiXA, h16, h15, h14, h13, h12, h11, h10, h9, h8, h7, h6, h1, ec, cr, c1, ga, ga2, wc, wa]
                      exact ⟨n - (a + 1), by omega, a + 1, rfl, by omega, rfl, rfl⟩
                    · have hae : a = n := by omega
                      rw [hae, ← hbrk, ← hgj] at h14
                      have wj : IntKind.i64.wrap ((j : Int) + 1) = ((j + 1 : Nat) : Int) := w64 ⟨by omega, by omega⟩
                      have o10 := o9.left (L := [.sl2 (Value.int .i64) 33 2 x (rwI R i), .sl 1 2 y (fwI n R i).length (ints (fwI n R i)), .sl2 (Value.int .i64) 33 2 w (R i), .sl 1 2 z kk (ints ((dpF n R i).take kk))]) (M := [.sl 1 2 bv n (ints (bkL n [ja, jb]))])
                      by_cases c1 : j = 0
                      · have d1 : ((j : Int) == 0) = true := beq_iff_eq.2 (by omega)
                        rw [if_pos (.inl c1)] at hmj
                        try simp (disch := first | omega | (simp only [L3] <;> omega)) only [Sall,evalOp,init,binA_s,binE,binI,unE,convE,okNil,builtE,gv,TD.isAgg,resV,↓reduceIte,Nat.reduceEqDiff,reduceCtorEq,Nat.reduceAdd,Nat.reduceMul,Nat.reduceLeDiff,za0,za2,Int.reduceEq,Int.reduceLT,Int.reduceLE,Nat.reduceLT,tiA,tiXA, h14, h13, h12, h11, h10, h9, h8, h7, h6, h1, d1, wj]
                        exact ⟨(rwI R i).length - (j + 1), by omega, j + 1, rfl, by omega, rfl, by rw [hmj], o10⟩
                      · have d1 : ((j : Int) == 0) = false := beq_eq_false_iff_ne.2 (by omega)
                        by_cases c2 : g j < mnI g j
                        · have d2 : decide (g j < mnI g j) = true := decide_eq_true c2
                          rw [if_pos (.inr c2)] at hmj
                          try simp (disch := first | omega | (simp only [L3] <;> omega)) only [Sall,evalOp,init,binA_s,binE,binI,unE,convE,okNil,builtE,gv,TD.isAgg,resV,↓reduceIte,Nat.reduceEqDiff,reduceCtorEq,Nat.reduceAdd,Nat.reduceMul,Nat.reduceLeDiff,za0,za2,Int.reduceEq,Int.reduceLT,Int.reduceLE,Nat.reduceLT,tiA,tiXA, h14, h13, h12, h11, h10, h9, h8, h7, h6, h1, d1, d2, wj]
                          exact ⟨(rwI R i).length - (j + 1), by omega, j + 1, rfl, by omega, rfl, by rw [hmj], o10⟩
                        · have d2 : decide (g j < mnI g j) = false := decide_eq_false c2
                          rw [if_neg (by rintro (h | h) <;> contradiction)] at hmj
                          try simp (disch := first | omega | (simp only [L3] <;> omega)) only [Sall,evalOp,init,binA_s,binE,binI,unE,convE,okNil,builtE,gv,TD.isAgg,resV,↓reduceIte,Nat.reduceEqDiff,reduceCtorEq,Nat.reduceAdd,Nat.reduceMul,Nat.reduceLeDiff,za0,za2,Int.reduceEq,Int.reduceLT,Int.reduceLE,Nat.reduceLT,tiA,tiXA, h14, h13, h12, h11, h10, h9, h8, h7, h6, h1, d1, d2, wj]
                          exact ⟨(rwI R i).length - (j + 1), by omega, j + 1, rfl, by omega, rfl, by rw [hmj], o10⟩
                · have hje : j = (rwI R i).length := by omega
                  rw [hje] at h12
                  have hmn : mnI g (rwI R i).length = (dpF n R i).getD kk 0 := by rw [hdp kk hkkl, eg]
                  rw [hmn] at h12
                  have hz := o7.one 3 rfl
                  have zz4 : zeros 1 [.int .i64 0] = [.int .i64 0] := rfl
                  try simp (disch := first | omega | (simp only [L3] <;> omega)) only [Sall,evalOp,init,binA_s,binE,binI,unE,convE,okNil,builtE,gv,TD.isAgg,resV,↓reduceIte,Nat.reduceEqDiff,reduceCtorEq,Nat.reduceAdd,Nat.reduceMul,Nat.reduceLeDiff,za0,za2,Int.reduceEq,Int.reduceLT,Int.reduceLE,Nat.reduceLT,tiA,tiXA, h12, h11, h10, h9, h8, h7, h6, h1, hz, zz4, zaL]
                  (repeat refine And.intro (by omega) ?_)
                  refine (o7.tmp ⟨2, true, ints [(dpF n R i).getD kk 0]⟩).app 3 (c := 1) (ms := ints [(dpF n R i).getD kk 0]) rfl rfl (by omega) rfl (by omega) (by decide) (by omega) ?_
                  intro v' H7 n7 o8
                  have wk : IntKind.i64.wrap ((kk : Int) + 1) = ((kk + 1 : Nat) : Int) := w64 ⟨by omega, by omega⟩
                  try simp (disch := first | omega | (simp only [L3] <;> omega)) only [Sall,evalOp,init,binA_s,binE,binI,unE,convE,okNil,builtE,gv,TD.isAgg,resV,↓reduceIte,Nat.reduceEqDiff,reduceCtorEq,Nat.reduceAdd,Nat.reduceMul,Nat.reduceLeDiff,za0,za2,Int.reduceEq,Int.reduceLT,Int.reduceLE,Nat.reduceLT,tiA,tiXA, h11, h9, h8, h7, h6, h1, wk]
                  refine ⟨(R i).length - (kk + 1), by omega, kk + 1, v', rfl, by omega, rfl, rfl, ?_⟩
                  rw [take_getD _ _ (by omega), ← zaK]
                  exact o8
            · have hke : kk = (R i).length := by omega
              rw [hke] at o6
              have hz := o6.one 3 rfl
              have hw6 := (o6.rd2 2 rfl).one
              have wi : IntKind.i64.wrap ((i : Int) + 1) = ((i + 1 : Nat) : Int) := w64 ⟨by omega, by omega⟩
              try simp (disch := first | omega | (simp only [L3] <;> omega)) only [Sall,evalOp,init,binA_s,binE,binI,unE,convE,okNil,builtE,gv,TD.isAgg,resV,↓reduceIte,Nat.reduceEqDiff,reduceCtorEq,Nat.reduceAdd,Nat.reduceMul,Nat.reduceLeDiff,za0,za2,Int.reduceEq,Int.reduceLT,Int.reduceLE,Nat.reduceLT,tiA,tiXA, h10, h9, h8, h7, h6, h1, hz, hw6, wi]
              refine ⟨k - (i + 1), by omega, i + 1, w, z, rfl, by omega, rfl, rfl, rfl, ?_⟩
              have o7 := o6.pick2 2 3 rfl rfl (by decide)
              rw [← hlF, List.take_length] at o7
              exact o7
        · have hie : i = k := by omega
          rw [hie] at o4
          have hflen : (fwI n R k).length = (rwI R k).length := zgL n R k
          have hRlk := hRlI k
          obtain ⟨g, eg⟩ : ∃ g : Nat → Int, g = fun j => (fwI n R k).getD j 0 := ⟨_, rfl⟩
          have hfin : mnI g (fwI n R k).length = dpB n R k := by rw [hflen, eg, dpB_fw]
          have hyl := o4.lenV 1 rfl
          try simp (disch := first | omega | (simp only [L3] <;> omega)) only [Sall,evalOp,init,binA_s,binE,binI,unE,convE,okNil,builtE,gv,TD.isAgg,resV,↓reduceIte,Nat.reduceEqDiff,reduceCtorEq,Nat.reduceAdd,Nat.reduceMul,Nat.reduceLeDiff,za0,za2,Int.reduceEq,Int.reduceLT,Int.reduceLE,Nat.reduceLT,tiA,tiXA, h7]
          refine za5 (fun m3 t Hx => Hx = H3 ∧ ∃ a : Nat, m3 = (fwI n R k).length - a ∧ a ≤ (fwI n R k).length ∧ t 18 = .int .i64 a ∧ t 17 = .int .i64 (mnI g a) ∧ t 7 = y) (fwI n R k).length ?_ ?_
          · refine ⟨rfl, 0, by omega, by omega, ?_⟩
            try simp (disch := first | omega | (simp only [L3] <;> omega)) only [Sall,evalOp,init,binA_s,binE,binI,unE,convE,okNil,builtE,gv,TD.isAgg,resV,↓reduceIte,Nat.reduceEqDiff,reduceCtorEq,Nat.reduceAdd,Nat.reduceMul,Nat.reduceLeDiff,za0,za2,Int.reduceEq,Int.reduceLT,Int.reduceLE,Nat.reduceLT,tiA,tiXA, Int.natCast_zero, h7]
            rfl
          · rintro m3 t Hx ⟨rfl, a, hm3, ha, h18, h17, h7⟩
            try simp (disch := first | omega | (simp only [L3] <;> omega)) only [Sall,evalOp,init,binA_s,binE,binI,unE,convE,okNil,builtE,gv,TD.isAgg,resV,↓reduceIte,Nat.reduceEqDiff,reduceCtorEq,Nat.reduceAdd,Nat.reduceMul,Nat.reduceLeDiff,za0,za2,Int.reduceEq,Int.reduceLT,Int.reduceLE,Nat.reduceLT,tiA,tiXA, h18, h7, builtE, hyl]
            refine za4 (fun hh7 => ?_) (fun hh7 => ?_)
            · have hal : a < (fwI n R k).length := by omega
              obtain ⟨yi, _, _, ey, yr⟩ := o4.get 1 rfl (by omega)
              have y1 := ints_get? (fwI n R k) a hal
              have hga : g a = (fwI n R k).getD a 0 := by rw [eg]
              rw [← hga] at y1
              have hmj : mnI g (a + 1) = if a = 0 ∨ g a < mnI g a then g a else mnI g a := rfl
              have wa : IntKind.i64.wrap ((a : Int) + 1) = ((a + 1 : Nat) : Int) := w64 ⟨by omega, by omega⟩
              have ga : (0 : Int) ≤ (a : Int) := by omega
              have ga2 : (a : Int) < ((fwI n R k).length : Int) := by omega
              by_cases c1 : a = 0
              · have d1 : ((a : Int) == 0) = true := beq_iff_eq.2 (by omega)
                rw [if_pos (.inl c1)] at hmj
                try simp (disch := first | omega | (simp only [L3] <;> omega)) only [Sall,evalOp,init,binA_s,binE,binI,unE,convE,okNil,builtE,gv,TD.isAgg,resV,↓reduceIte,Nat.reduceEqDiff,reduceCtorEq,Nat.reduceAdd,Nat.reduceMul,Nat.reduceLeDiff,za0,za2,Int.reduceEq,Int.reduceLT,Int.reduceLE,Nat.reduceLT,tiA,tiXA, h18, h17, h7, ey, yr, y1, d1, ga, ga2, wa]
                exact ⟨(fwI n R k).length - (a + 1), by omega, a + 1, rfl, by omega, rfl, by rw [hmj]⟩
              · have d1 : ((a : Int) == 0) = false := beq_eq_false_iff_ne.2 (by omega)
                by_cases c2 : g a < mnI g a
                · have d2 : decide (g a < mnI g a) = true := decide_eq_true c2
                  rw [if_pos (.inr c2)] at hmj
                  try simp (disch := first | omega | (simp only [L3] <;> omega)) only [Sall,evalOp,init,binA_s,binE,binI,unE,convE,okNil,builtE,gv,TD.isAgg,resV,↓reduceIte,Nat.reduceEqDiff,reduceCtorEq,Nat.reduceAdd,Nat.reduceMul,Nat.reduceLeDiff,za0,za2,Int.reduceEq,Int.reduceLT,Int.reduceLE,Nat.reduceLT,tiA,tiXA, h18, h17, h7, ey, yr, y1, d1, d2, ga, ga2, wa]
                  exact ⟨(fwI n R k).length - (a + 1), by omega, a + 1, rfl, by omega, rfl, by rw [hmj]⟩
                · have d2 : decide (g a < mnI g a) = false := decide_eq_false c2
                  rw [if_neg (by rintro (h | h) <;> contradiction)] at hmj
                  try simp (disch := first | omega | (simp only [L3] <;> omega)) only [Sall,evalOp,init,binA_s,binE,binI,unE,convE,okNil,builtE,gv,TD.isAgg,resV,↓reduceIte,Nat.reduceEqDiff,reduceCtorEq,Nat.reduceAdd,Nat.reduceMul,Nat.reduceLeDiff,za0,za2,Int.reduceEq,Int.reduceLT,Int.reduceLE,Nat.reduceLT,tiA,tiXA, h18, h17, h7, ey, yr, y1, d1, d2, ga, ga2, wa]
                  exact ⟨(fwI n R k).length - (a + 1), by omega, a + 1, rfl, by omega, rfl, by rw [hmj]⟩
            · have hae : a = (fwI n R k).length := by omega
              rw [hae, hfin] at h17
              try simp (disch := first | omega | (simp only [L3] <;> omega)) only [Sall,evalOp,init,binA_s,binE,binI,unE,convE,okNil,builtE,gv,TD.isAgg,resV,↓reduceIte,Nat.reduceEqDiff,reduceCtorEq,Nat.reduceAdd,Nat.reduceMul,Nat.reduceLeDiff,za0,za2,Int.reduceEq,Int.reduceLT,Int.reduceLE,Nat.reduceLT,tiA,tiXA, h17]
              exact up1.trans o4.up (by rw [epi]; exact up1.next)
end Go.Proofs.YtemgclojolmhbaaGreat.A
end

section
set_option maxRecDepth 100000
set_option maxHeartbeats 4000000
namespace Go.Proofs.YtemgclojolmhbaaGreat.A
open Go Go.Abs Go.RowKit
def cvP (n r : Nat) : List (List Int) := (List.range r).map fun r => cvS n r (n / 2 - 1)
theorem zg3 (n r : Nat) : (cvP n r).length = r := by simp [cvP]
theorem cvP_succ (n r : Nat) : cvP n (r + 1) = cvP n r ++ [cvS n r (n / 2 - 1)] := by unfold cvP; rw [List.range_succ, List.map_append]; rfl
theorem les_ne {i : Nat} (H : AH) (cs : List Value) : LES (fun j => ¬ j = i) H (H.setCells i cs) := ⟨Nat.le_refl _, fun j r hj hr => by rw [AH.setCells_row, if_neg hj]; exact hr⟩
theorem zf3 (n : Nat) (hn : 2 ≤ n ∧ n ≤ 14) (he : n % 2 = 0) (H : AH) :
    ACalls Tryz.prog 50 [.int .i64 n] H (fun w H' => Ow H H' [.sl2 (Value.int .i64) 33 2 w (cvL n)]) := by
  refine ACalls.wf (by kernel_rfl) fun hs => za3 [.tmp 2] Tryz.func50 (by kernel_rfl) rfl rfl (Nat.le_of_ble_eq_true rfl) (by kernel_rfl) ?_
  have o1 := (Ow.refl hs).pushSl2 (Value.int .i64) 33 2
  have zz : zeros 0 [.slice none 0 0] = [] := rfl
  have wn : IntKind.i64.wrap ((n : Int) - 1) = ((n - 1 : Nat) : Int) := by rw [show (n : Int) - 1 = ((n - 1 : Nat) : Int) by omega]; exact w64 ⟨by omega, by omega⟩
  have zn : zeros n [.int .i64 0] = ints (List.replicate n 0) := by simp [zeros, ints]
  have hne : ¬ ((n - 1 : Nat) : Int) = 0 := by omega
  have h20 : ¬ (2 : Int) = 0 := by decide
  have q2 : ((n : Int)).tdiv 2 = ((n / 2 : Nat) : Int) := rfl
  have wq : IntKind.i64.wrap ((n / 2 : Nat) : Int) = ((n / 2 : Nat) : Int) := w64 ⟨by omega, by omega⟩
  try simp (disch := first | omega | (simp only [za1, List.length_replicate, List.length_set, zaA] <;> omega)) only [Sall,evalOp,init,binA_s,binE,binI,unE,convE,okNil,builtE,gv,TD.isAgg,resV,↓reduceIte,Nat.reduceEqDiff,reduceCtorEq,Nat.reduceAdd,Nat.reduceMul,Nat.reduceLeDiff,za0,za2,Int.reduceEq,Int.reduceLT,Int.reduceLE,Nat.reduceLT,tiA,tiXA, zz, wn]
  (repeat refine And.intro (by omega) ?_)
  refine za5 (fun m t H' => ∃ (r : Nat) (u : Value), m = n - 1 - r ∧ r ≤ n - 1 ∧ t 5 = .int .i64 r ∧ t 4 = u ∧ t 3 = .int .i64 ((n - 1 : Nat) : Int) ∧ t 0 = .int .i64 n ∧ Ow H H' [.sl2 (Value.int .i64) 33 2 u (cvP n r)]) (n - 1) ?_ ?_
  · refine ⟨0, .slice (some ⟨H.next, 0, some 1⟩) 0 0, by omega, by omega, ?_⟩
    try simp (disch := first | omega | (simp only [za1, List.length_replicate, List.length_set, zaA] <;> omega)) only [Sall,evalOp,init,binA_s,binE,binI,unE,convE,okNil,builtE,gv,TD.isAgg,resV,↓reduceIte,Nat.reduceEqDiff,reduceCtorEq,Nat.reduceAdd,Nat.reduceMul,Nat.reduceLeDiff,za0,za2,Int.reduceEq,Int.reduceLT,Int.reduceLE,Nat.reduceLT,tiA,tiXA, Int.natCast_zero]
    exact o1
  · rintro m t H' ⟨r, u, hm, hr, h5, h4, h3, h0, o2⟩
    try simp (disch := first | omega | (simp only [za1, List.length_replicate, List.length_set, zaA] <;> omega)) only [Sall,evalOp,init,binA_s,binE,binI,unE,convE,okNil,builtE,gv,TD.isAgg,resV,↓reduceIte,Nat.reduceEqDiff,reduceCtorEq,Nat.reduceAdd,Nat.reduceMul,Nat.reduceLeDiff,za0,za2,Int.reduceEq,Int.reduceLT,Int.reduceLE,Nat.reduceLT,tiA,tiXA, h5, h3]
    refine za4 (fun hh => ?_) (fun hh => ?_)
    · have hrn : r < n - 1 := by omega
      have o3 := o2.pushSl (k := 1) (n := n) (ty := 2) (vs := ints (List.replicate n 0)) (by simp [ints])
      have o3 : Ow H (H'.push ⟨2, true, ints (List.replicate n 0)⟩) [.sl2 (Value.int .i64) 33 2 u (cvP n r), .sl 1 2 (.slice (some ⟨H'.next, 0, some 1⟩) n n) n (ints (List.replicate n 0))] := o3
      try simp (disch := first | omega | (simp only [za1, List.length_replicate, List.length_set, zaA] <;> omega)) only [Sall,evalOp,init,binA_s,binE,binI,unE,convE,okNil,builtE,gv,TD.isAgg,resV,↓reduceIte,Nat.reduceEqDiff,reduceCtorEq,Nat.reduceAdd,Nat.reduceMul,Nat.reduceLeDiff,za0,za2,Int.reduceEq,Int.reduceLT,Int.reduceLE,Nat.reduceLT,tiA,tiXA, h5, h4, h3, h0, zn]
      (repeat refine And.intro (by omega) ?_)
      obtain ⟨li, eli⟩ : ∃ li, li = H'.next := ⟨_, rfl⟩
      rw [← eli] at o3 ⊢
      clear eli
      generalize H'.push ⟨2, true, ints (List.replicate n 0)⟩ = H2 at o3 ⊢
      have e6 := (o3.getV 1 rfl).2.2
      have hr2 : ((r : Int)).tmod 2 = ((r % 2 : Nat) : Int) := rfl
      have wr2 : IntKind.i64.wrap (1 - ((r % 2 : Nat) : Int)) = 1 - ((r % 2 : Nat) : Int) := w64 ⟨by omega, by omega⟩
      have g1 : (0 : Int) ≤ ((n - 1 : Nat) : Int) := by omega
      have g2 : ((n - 1 : Nat) : Int) < (n : Int) := by omega
      have g3 : (0 : Int) ≤ (r : Int) := by omega
      have g4 : (r : Int) < (n : Int) := by omega
      have o4 := o3.put 1 rfl (vs' := ints (cvS n r 0)) (by rw [za1, za1, zaA, List.length_replicate])
      try simp (disch := first | omega | (simp only [za1, List.length_replicate, List.length_set, zaA] <;> omega)) only [Sall,evalOp,init,binA_s,binE,binI,unE,convE,okNil,builtE,gv,TD.isAgg,resV,↓reduceIte,Nat.reduceEqDiff,reduceCtorEq,Nat.reduceAdd,Nat.reduceMul,Nat.reduceLeDiff,za0,za2,Int.reduceEq,Int.reduceLT,Int.reduceLE,Nat.reduceLT,tiA,tiXA, h5, h4, h3, h0, hr2, h20, wr2, e6, g1, g2, g3, g4, zaR, za1]
      refine ⟨by rw [List.length_set, List.length_replicate]; omega, ?_⟩
      have eS0 : ((List.replicate n 0).set (n - 1) (1 - ((r % 2 : Nat) : Int))).set r ((r % 2 : Nat) : Int) = cvS n r 0 := rfl
      rw [eS0, AH.setCells_setCells]
      have o4 : Ow H (H2.setCells li (ints (cvS n r 0))) [.sl2 (Value.int .i64) 33 2 u (cvP n r), .sl 1 2 (.slice (some ⟨li, 0, some 1⟩) n n) n (ints (cvS n r 0))] := o4
      generalize H2.setCells li (ints (cvS n r 0)) = H3 at o4 ⊢
      refine za5 (fun m' t Hx => ∃ c : Nat, m' = n / 2 - 1 - c ∧ c ≤ n / 2 - 1 ∧ t 7 = .int .i64 ((c + 1 : Nat) : Int) ∧ t 6 = .slice (some ⟨li, 0, some 1⟩) n n ∧ t 5 = .int .i64 r ∧ t 4 = u ∧ t 3 = .int .i64 ((n - 1 : Nat) : Int) ∧ t 0 = .int .i64 n ∧ Ow H Hx [.sl2 (Value.int .i64) 33 2 u (cvP n r), .sl 1 2 (.slice (some ⟨li, 0, some 1⟩) n n) n (ints (cvS n r c))]) (n / 2 - 1) ?_ ?_
      · refine ⟨0, by omega, by omega, ?_⟩
        try simp (disch := first | omega | (simp only [za1, List.length_replicate, List.length_set, zaA] <;> omega)) only [Sall,evalOp,init,binA_s,binE,binI,unE,convE,okNil,builtE,gv,TD.isAgg,resV,↓reduceIte,Nat.reduceEqDiff,reduceCtorEq,Nat.reduceAdd,Nat.reduceMul,Nat.reduceLeDiff,za0,za2,Int.reduceEq,Int.reduceLT,Int.reduceLE,Nat.reduceLT,tiA,tiXA, Nat.zero_add, Int.natCast_one, h5, h4, h3, h0]
        exact o4
      · rintro m' t Hx ⟨c, hm', hc, h7, h6, h5, h4, h3, h0, o5⟩
        try simp (disch := first | omega | (simp only [za1, List.length_replicate, List.length_set, zaA] <;> omega)) only [Sall,evalOp,init,binA_s,binE,binI,unE,convE,okNil,builtE,gv,TD.isAgg,resV,↓reduceIte,Nat.reduceEqDiff,reduceCtorEq,Nat.reduceAdd,Nat.reduceMul,Nat.reduceLeDiff,za0,za2,Int.reduceEq,Int.reduceLT,Int.reduceLE,Nat.reduceLT,tiA,tiXA, h7, h0, q2, h20, wq]
        refine za4 (fun hh2 => ?_) (fun hh2 => ?_)
        · have hcn : c + 1 < n / 2 := by omega
          have e6 := (o5.getV 1 rfl).2.2
          have w1 : IntKind.i64.wrap ((r : Int) + ((c + 1 : Nat) : Int)) = ((r + (c + 1) : Nat) : Int) := by rw [← Int.natCast_add]; exact w64 ⟨by omega, by omega⟩
          have w2 : IntKind.i64.wrap ((r : Int) - ((c + 1 : Nat) : Int)) = (r : Int) - ((c + 1 : Nat) : Int) := w64 ⟨by omega, by omega⟩
          have w3 : IntKind.i64.wrap ((r : Int) - ((c + 1 : Nat) : Int) + ((n - 1 : Nat) : Int)) = ((r + (n - 1) - (c + 1) : Nat) : Int) := by rw [show (r : Int) - ((c + 1 : Nat) : Int) + ((n - 1 : Nat) : Int) = ((r + (n - 1) - (c + 1) : Nat) : Int) by omega]; exact w64 ⟨by omega, by omega⟩
          have r1 : ((r + (c + 1) : Nat) : Int).tmod ((n - 1 : Nat) : Int) = (((r + (c + 1)) % (n - 1) : Nat) : Int) := rfl
          have r2 : ((r + (n - 1) - (c + 1) : Nat) : Int).tmod ((n - 1 : Nat) : Int) = (((r + (n - 1) - (c + 1)) % (n - 1) : Nat) : Int) := rfl
          have r3 : ((c + 1 : Nat) : Int).tmod 2 = (((c + 1) % 2 : Nat) : Int) := rfl
          have w4 : IntKind.i64.wrap (1 - (((c + 1) % 2 : Nat) : Int)) = 1 - (((c + 1) % 2 : Nat) : Int) := w64 ⟨by omega, by omega⟩
          have w5 : IntKind.i64.wrap (((c + 1 : Nat) : Int) + 1) = ((c + 1 + 1 : Nat) : Int) := w64 ⟨by omega, by omega⟩
          have hm1 : (r + (c + 1)) % (n - 1) < n - 1 := Nat.mod_lt _ (by omega)
          have hm2 : (r + (n - 1) - (c + 1)) % (n - 1) < n - 1 := Nat.mod_lt _ (by omega)
          have eS : ((cvS n r c).set ((r + (c + 1)) % (n - 1)) (((c + 1) % 2 : Nat) : Int)).set ((r + (n - 1) - (c + 1)) % (n - 1)) (1 - (((c + 1) % 2 : Nat) : Int)) = cvS n r (c + 1) := rfl
          obtain ⟨i1, ei1⟩ : ∃ i1, i1 = (r + (c + 1)) % (n - 1) := ⟨_, rfl⟩
          obtain ⟨i2, ei2⟩ : ∃ i2, i2 = (r + (n - 1) - (c + 1)) % (n - 1) := ⟨_, rfl⟩
          rw [← ei1] at r1 hm1 eS
          rw [← ei2] at r2 hm2 eS
          clear ei1 ei2
          have op := o5.put 1 rfl (vs' := ints (cvS n r (c + 1))) (by rw [za1, za1, zaA, zaA])
          have g1 : (0 : Int) ≤ (i1 : Int) := by omega
          have g2 : (i1 : Int) < (n : Int) := by omega
          have g3 : (0 : Int) ≤ (i2 : Int) := by omega
          have g4 : (i2 : Int) < (n : Int) := by omega
          try simp (disch := first | omega | (simp only [za1, List.length_replicate, List.length_set, zaA] <;> omega)) only [Sall,evalOp,init,binA_s,binE,binI,unE,convE,okNil,builtE,gv,TD.isAgg,resV,↓reduceIte,Nat.reduceEqDiff,reduceCtorEq,Nat.reduceAdd,Nat.reduceMul,Nat.reduceLeDiff,za0,za2,Int.reduceEq,Int.reduceLT,Int.reduceLE,Nat.reduceLT,tiA,tiXA, h7, h6, h5, h4, h3, h0, e6, w1, w2, w3, r1, r2, r3, w4, w5, hne, h20, g1, g2, g3, g4, zaR]
          refine ⟨by rw [zaA]; omega, by rw [List.length_set, zaA]; omega, n / 2 - 1 - (c + 1), by omega, c + 1, rfl, by omega, rfl, ?_⟩
          rw [AH.setCells_setCells, eS]
          exact op
        · have hce : c = n / 2 - 1 := by omega
          rw [hce] at o5
          have hw5 := (o5.rd2 0 rfl).one
          have z1 : zeros 1 [.slice none 0 0] = [.slice none 0 0] := rfl
          try simp (disch := first | omega | (simp only [za1, List.length_replicate, List.length_set, zaA] <;> omega)) only [Sall,evalOp,init,binA_s,binE,binI,unE,convE,okNil,builtE,gv,TD.isAgg,resV,↓reduceIte,Nat.reduceEqDiff,reduceCtorEq,Nat.reduceAdd,Nat.reduceMul,Nat.reduceLeDiff,za0,za2,Int.reduceEq,Int.reduceLT,Int.reduceLE,Nat.reduceLT,tiA,tiXA, h6, h5, h4, h3, h0, z1, zaL, hw5]
          (repeat refine And.intro (by omega) ?_)
          refine (o5.tmp ⟨33, true, [.slice (some ⟨li, 0, some 1⟩) n n]⟩).app2 (l := cvS n r (n / 2 - 1)) 0 1 rfl rfl (by omega) rfl (by decide) (by rw [zg3]; omega) ?_
          intro v' H5 n5 o6
          have wr : IntKind.i64.wrap ((r : Int) + 1) = ((r + 1 : Nat) : Int) := w64 ⟨by omega, by omega⟩
          try simp (disch := first | omega | (simp only [za1, List.length_replicate, List.length_set, zaA] <;> omega)) only [Sall,evalOp,init,binA_s,binE,binI,unE,convE,okNil,builtE,gv,TD.isAgg,resV,↓reduceIte,Nat.reduceEqDiff,reduceCtorEq,Nat.reduceAdd,Nat.reduceMul,Nat.reduceLeDiff,za0,za2,Int.reduceEq,Int.reduceLT,Int.reduceLE,Nat.reduceLT,tiA,tiXA, h5, h3, h0, wr]
          refine ⟨n - 1 - (r + 1), by omega, r + 1, v', rfl, by omega, rfl, rfl, ?_⟩
          rw [cvP_succ]
          exact o6.only 0 rfl
    · have hre : r = n - 1 := by omega
      rw [hre] at o2
      try simp (disch := first | omega | (simp only [za1, List.length_replicate, List.length_set, zaA] <;> omega)) only [Sall,evalOp,init,binA_s,binE,binI,unE,convE,okNil,builtE,gv,TD.isAgg,resV,↓reduceIte,Nat.reduceEqDiff,reduceCtorEq,Nat.reduceAdd,Nat.reduceMul,Nat.reduceLeDiff,za0,za2,Int.reduceEq,Int.reduceLT,Int.reduceLE,Nat.reduceLT,tiA,tiXA, h4]
      exact o2
def cvC (n : Int) : Int := if 2 ≤ n ∧ n ≤ 14 ∧ n % 2 = 0 then 0 else 2
def cvR (n : Int) : List (List Int) := if 2 ≤ n ∧ n ≤ 14 ∧ n % 2 = 0 then cvL n.toNat else []
theorem specCircleVenues_c (n : Int) (H : AH) :
    ACalls Tryz.prog 13 [.int .i64 n] H (fun r H' => ∃ w, r = .tuple #[w, .int .i64 (cvC n)] ∧ Ow H H' [.sl2 (Value.int .i64) 33 2 w (cvR n)]) := by
  refine ACalls.wf (by kernel_rfl) fun hs => za3 [.tmp 2, .tmp 3] Tryz.func13 (by kernel_rfl) rfl rfl (Nat.le_of_ble_eq_true rfl) (by kernel_rfl) ?_
  have h20 : ¬ (2 : Int) = 0 := by decide
  try simp (disch := first | omega | (simp only [za1, List.length_replicate, List.length_set, zaA] <;> omega)) only [Sall,evalOp,init,binA_s,binE,binI,unE,convE,okNil,builtE,gv,TD.isAgg,resV,↓reduceIte,Nat.reduceEqDiff,reduceCtorEq,Nat.reduceAdd,Nat.reduceMul,Nat.reduceLeDiff,za0,za2,Int.reduceEq,Int.reduceLT,Int.reduceLE,Nat.reduceLT,tiA,tiXA, true_and]
  refine (ze7 _ _ _ _).to ?_
  refine Holds.mp ?_
  unfold cvC cvR
  by_cases h : 2 ≤ n ∧ n ≤ 14
  rotate_left
  · rw [decide_eq_false h, if_neg (fun e => h ⟨e.1, e.2.1⟩), if_neg (fun e => h ⟨e.1, e.2.1⟩)]
    try simp (disch := first | omega | (simp only [za1, List.length_replicate, List.length_set, zaA] <;> omega)) only [Sall,evalOp,init,binA_s,binE,binI,unE,convE,okNil,builtE,gv,TD.isAgg,resV,↓reduceIte,Nat.reduceEqDiff,reduceCtorEq,Nat.reduceAdd,Nat.reduceMul,Nat.reduceLeDiff,za0,za2,Int.reduceEq,Int.reduceLT,Int.reduceLE,Nat.reduceLT,tiA,tiXA, Bool.not_false]
    exact ⟨_, rfl, ((Ow.refl hs).addNil2).only 0 rfl⟩
  rw [decide_eq_true h]
  obtain ⟨m, rfl⟩ : ∃ m : Nat, n = m := ⟨n.toNat, by omega⟩
  have r2 : ((m : Int)).tmod 2 = ((m % 2 : Nat) : Int) := rfl
  by_cases he : m % 2 = 0
  · have d1 : (((m % 2 : Nat) : Int) == 1) = false := beq_eq_false_iff_ne.2 (by omega)
    rw [if_pos ⟨h.1, h.2, by omega⟩, if_pos ⟨h.1, h.2, by omega⟩]
    try simp (disch := first | omega | (simp only [za1, List.length_replicate, List.length_set, zaA] <;> omega)) only [Sall,evalOp,init,binA_s,binE,binI,unE,convE,okNil,builtE,gv,TD.isAgg,resV,↓reduceIte,Nat.reduceEqDiff,reduceCtorEq,Nat.reduceAdd,Nat.reduceMul,Nat.reduceLeDiff,za0,za2,Int.reduceEq,Int.reduceLT,Int.reduceLE,Nat.reduceLT,tiA,tiXA, Bool.not_true, r2, d1, h20]
    refine ACalls.mono (zf3 m (by omega) he H) ?_
    intro w H2 o2
    have hw := (o2.rd2 0 rfl).one
    refine Holds.mp ?_
    try simp (disch := first | omega | (simp only [za1, List.length_replicate, List.length_set, zaA] <;> omega)) only [Sall,evalOp,init,binA_s,binE,binI,unE,convE,okNil,builtE,gv,TD.isAgg,resV,↓reduceIte,Nat.reduceEqDiff,reduceCtorEq,Nat.reduceAdd,Nat.reduceMul,Nat.reduceLeDiff,za0,za2,Int.reduceEq,Int.reduceLT,Int.reduceLE,Nat.reduceLT,tiA,tiXA, hw]
    exact ⟨w, rfl, o2⟩
  · have d1 : (((m % 2 : Nat) : Int) == 1) = true := beq_iff_eq.2 (by omega)
    rw [if_neg (fun e => he (by omega)), if_neg (fun e => he (by omega))]
    try simp (disch := first | omega | (simp only [za1, List.length_replicate, List.length_set, zaA] <;> omega)) only [Sall,evalOp,init,binA_s,binE,binI,unE,convE,okNil,builtE,gv,TD.isAgg,resV,↓reduceIte,Nat.reduceEqDiff,reduceCtorEq,Nat.reduceAdd,Nat.reduceMul,Nat.reduceLeDiff,za0,za2,Int.reduceEq,Int.reduceLT,Int.reduceLE,Nat.reduceLT,tiA,tiXA, Bool.not_true, r2, d1, h20]
    exact ⟨_, rfl, ((Ow.refl hs).addNil2).only 0 rfl⟩
theorem CircleVenues_c (n : Int) (H : AH) :
    ACalls Tryz.prog 12 [.int .i64 n] H (fun r H' => ∃ w, r = .tuple #[w, .int .i64 (cvC n)] ∧ Ow H H' [.sl2 (Value.int .i64) 33 2 w (cvR n)]) := by
  refine ACalls.wf (by kernel_rfl) fun hs => za3 [.tmp 2, .tmp 3] Tryz.func12 (by kernel_rfl) rfl rfl (Nat.le_of_ble_eq_true rfl) (by kernel_rfl) ?_
  have h20 : ¬ (2 : Int) = 0 := by decide
  try simp (disch := first | omega | (simp only [za1, List.length_replicate, List.length_set, zaA] <;> omega)) only [Sall,evalOp,init,binA_s,binE,binI,unE,convE,okNil,builtE,gv,TD.isAgg,resV,↓reduceIte,Nat.reduceEqDiff,reduceCtorEq,Nat.reduceAdd,Nat.reduceMul,Nat.reduceLeDiff,za0,za2,Int.reduceEq,Int.reduceLT,Int.reduceLE,Nat.reduceLT,tiA,tiXA, true_and]
  refine (zc2 _ _ _ _).to ?_
  refine Holds.mp ?_
  unfold cvC cvR
  by_cases h : 2 ≤ n ∧ n ≤ 14
  rotate_left
  · rw [decide_eq_false h, if_neg (fun e => h ⟨e.1, e.2.1⟩), if_neg (fun e => h ⟨e.1, e.2.1⟩)]
    try simp (disch := first | omega | (simp only [za1, List.length_replicate, List.length_set, zaA] <;> omega)) only [Sall,evalOp,init,binA_s,binE,binI,unE,convE,okNil,builtE,gv,TD.isAgg,resV,↓reduceIte,Nat.reduceEqDiff,reduceCtorEq,Nat.reduceAdd,Nat.reduceMul,Nat.reduceLeDiff,za0,za2,Int.reduceEq,Int.reduceLT,Int.reduceLE,Nat.reduceLT,tiA,tiXA, Bool.not_false]
    exact ⟨_, rfl, ((Ow.refl hs).addNil2).only 0 rfl⟩
  rw [decide_eq_true h]
  obtain ⟨m, rfl⟩ : ∃ m : Nat, n = m := ⟨n.toNat, by omega⟩
  have r2 : ((m : Int)).tmod 2 = ((m % 2 : Nat) : Int) := rfl
  by_cases he : m % 2 = 0
  rotate_left
  · have d1 : (((m % 2 : Nat) : Int) == 1) = true := beq_iff_eq.2 (by omega)
    rw [if_neg (fun e => he (by omega)), if_neg (fun e => he (by omega))]
    try simp (disch := first | omega | (simp only [za1, List.length_replicate, List.length_set, zaA] <;> omega)) only [Sall,evalOp,init,binA_s,binE,binI,unE,convE,okNil,builtE,gv,TD.isAgg,resV,↓reduceIte,Nat.reduceEqDiff,reduceCtorEq,Nat.reduceAdd,Nat.reduceMul,Nat.reduceLeDiff,za0,za2,Int.reduceEq,Int.reduceLT,Int.reduceLE,Nat.reduceLT,tiA,tiXA, Bool.not_true, r2, d1, h20]
    exact ⟨_, rfl, ((Ow.refl hs).addNil2).only 0 rfl⟩
  have d1 : (((m % 2 : Nat) : Int) == 1) = false := beq_eq_false_iff_ne.2 (by omega)
  rw [if_pos ⟨h.1, h.2, by omega⟩, if_pos ⟨h.1, h.2, by omega⟩, Int.toNat_natCast]
  have hn : 2 ≤ m ∧ m ≤ 14 := by omega
  clear h
  generalize m = n at *
  have o1 := (Ow.refl hs).pushSl2 (Value.int .i64) 33 2
  have zz : zeros 0 [.slice none 0 0] = [] := rfl
  have wn : IntKind.i64.wrap ((n : Int) - 1) = ((n - 1 : Nat) : Int) := by rw [show (n : Int) - 1 = ((n - 1 : Nat) : Int) by omega]; exact w64 ⟨by omega, by omega⟩
  have zn : zeros n [.int .i64 0] = ints (List.replicate n 0) := by simp [zeros, ints]
  have hne : ¬ ((n - 1 : Nat) : Int) = 0 := by omega
  try simp (disch := first | omega | (simp only [za1, List.length_replicate, List.length_set, zaA] <;> omega)) only [Sall,evalOp,init,binA_s,binE,binI,unE,convE,okNil,builtE,gv,TD.isAgg,resV,↓reduceIte,Nat.reduceEqDiff,reduceCtorEq,Nat.reduceAdd,Nat.reduceMul,Nat.reduceLeDiff,za0,za2,Int.reduceEq,Int.reduceLT,Int.reduceLE,Nat.reduceLT,tiA,tiXA, Bool.not_true, r2, d1, h20, zz, wn]
  (repeat refine And.intro (by omega) ?_)
  refine za5 (fun m t H' => ∃ (r : Nat) (u : Value), m = n - 1 - r ∧ r ≤ n - 1 ∧ t 21 = .int .i64 r ∧ t 20 = .int .i64 ((n - 1 : Nat) : Int) ∧ t 4 = u ∧ t 5 = .int .i64 ((n - 1 : Nat) : Int) ∧ t 0 = .int .i64 n ∧ Ow H H' [.sl2 (Value.int .i64) 33 2 u (cvP n r)]) (n - 1) ?_ ?_
  · refine ⟨0, .slice (some ⟨H.next, 0, some 1⟩) 0 0, by omega, by omega, ?_⟩
    try simp (disch := first | omega | (simp only [za1, List.length_replicate, List.length_set, zaA] <;> omega)) only [Sall,evalOp,init,binA_s,binE,binI,unE,convE,okNil,builtE,gv,TD.isAgg,resV,↓reduceIte,Nat.reduceEqDiff,reduceCtorEq,Nat.reduceAdd,Nat.reduceMul,Nat.reduceLeDiff,za0,za2,Int.reduceEq,Int.reduceLT,Int.reduceLE,Nat.reduceLT,tiA,tiXA, Int.natCast_zero]
    exact o1
  · rintro m t H' ⟨r, u, hm, hr, h21, h20', h4, h5, h0, o2⟩
    try simp (disch := first | omega | (simp only [za1, List.length_replicate, List.length_set, zaA] <;> omega)) only [Sall,evalOp,init,binA_s,binE,binI,unE,convE,okNil,builtE,gv,TD.isAgg,resV,↓reduceIte,Nat.reduceEqDiff,reduceCtorEq,Nat.reduceAdd,Nat.reduceMul,Nat.reduceLeDiff,za0,za2,Int.reduceEq,Int.reduceLT,Int.reduceLE,Nat.reduceLT,tiA,tiXA, h21, h20']
    refine za4 (fun hh => ?_) (fun hh => ?_)
    · have hrn : r < n - 1 := by omega
      have o3 := o2.pushSl (k := 1) (n := n) (ty := 2) (vs := ints (List.replicate n 0)) (by simp [ints])
      have o3 : Ow H (H'.push ⟨2, true, ints (List.replicate n 0)⟩) [.sl2 (Value.int .i64) 33 2 u (cvP n r), .sl 1 2 (.slice (some ⟨H'.next, 0, some 1⟩) n n) n (ints (List.replicate n 0))] := o3
      try simp (disch := first | omega | (simp only [za1, List.length_replicate, List.length_set, zaA] <;> omega)) only [Sall,evalOp,init,binA_s,binE,binI,unE,convE,okNil,builtE,gv,TD.isAgg,resV,↓reduceIte,Nat.reduceEqDiff,reduceCtorEq,Nat.reduceAdd,Nat.reduceMul,Nat.reduceLeDiff,za0,za2,Int.reduceEq,Int.reduceLT,Int.reduceLE,Nat.reduceLT,tiA,tiXA, h21, h20', h4, h5, h0, zn]
      (repeat refine And.intro (by omega) ?_)
      obtain ⟨li, eli⟩ : ∃ li, li = H'.next := ⟨_, rfl⟩
      rw [← eli] at o3 ⊢
      clear eli
      generalize H'.push ⟨2, true, ints (List.replicate n 0)⟩ = H2 at o3 ⊢
      have e6 := (o3.getV 1 rfl).2.2
      have hr2 : ((r : Int)).tmod 2 = ((r % 2 : Nat) : Int) := rfl
      have wr2 : IntKind.i64.wrap (1 - ((r % 2 : Nat) : Int)) = 1 - ((r % 2 : Nat) : Int) := w64 ⟨by omega, by omega⟩
      have g1 : (0 : Int) ≤ ((n - 1 : Nat) : Int) := by omega
      have g2 : ((n - 1 : Nat) : Int) < (n : Int) := by omega
      have g3 : (0 : Int) ≤ (r : Int) := by omega
      have g4 : (r : Int) < (n : Int) := by omega
      have o4 := o3.put 1 rfl (vs' := ints (cvS n r 0)) (by rw [za1, za1, zaA, List.length_replicate])
      try simp (disch := first | omega | (simp only [za1, List.length_replicate, List.length_set, zaA] <;> omega)) only [Sall,evalOp,init,binA_s,binE,binI,unE,convE,okNil,builtE,gv,TD.isAgg,resV,↓reduceIte,Nat.reduceEqDiff,reduceCtorEq,Nat.reduceAdd,Nat.reduceMul,Nat.reduceLeDiff,za0,za2,Int.reduceEq,Int.reduceLT,Int.reduceLE,Nat.reduceLT,tiA,tiXA, h21, h20', h4, h5, h0, hr2, h20, wn, wr2, e6, g1, g2, g3, g4, zaR, za1]
      refine ⟨by rw [List.length_set, List.length_replicate]; omega, ?_⟩
      have eS0 : ((List.replicate n 0).set (n - 1) (1 - ((r % 2 : Nat) : Int))).set r ((r % 2 : Nat) : Int) = cvS n r 0 := rfl
      rw [eS0, AH.setCells_setCells]
      have o4 : Ow H (H2.setCells li (ints (cvS n r 0))) [.sl2 (Value.int .i64) 33 2 u (cvP n r), .sl 1 2 (.slice (some ⟨li, 0, some 1⟩) n n) n (ints (cvS n r 0))] := o4
      generalize H2.setCells li (ints (cvS n r 0)) = H3 at o4 ⊢
      refine za5 (fun m' t Hx => ∃ c : Nat, m' = n / 2 - 1 - c ∧ c ≤ n / 2 - 1 ∧ t 8 = .int .i64 ((c + 1 : Nat) : Int) ∧ t 7 = .slice (some ⟨li, 0, some 1⟩) n n ∧ t 6 = .int .i64 r ∧ t 21 = .int .i64 r ∧ t 20 = .int .i64 ((n - 1 : Nat) : Int) ∧ t 4 = u ∧ t 5 = .int .i64 ((n - 1 : Nat) : Int) ∧ t 0 = .int .i64 n ∧ Ow H Hx [.sl2 (Value.int .i64) 33 2 u (cvP n r), .sl 1 2 (.slice (some ⟨li, 0, some 1⟩) n n) n (ints (cvS n r c))]) (n / 2 - 1) ?_ ?_
      · refine ⟨0, by omega, by omega, ?_⟩
        try simp (disch := first | omega | (simp only [za1, List.length_replicate, List.length_set, zaA] <;> omega)) only [Sall,evalOp,init,binA_s,binE,binI,unE,convE,okNil,builtE,gv,TD.isAgg,resV,↓reduceIte,Nat.reduceEqDiff,reduceCtorEq,Nat.reduceAdd,Nat.reduceMul,Nat.reduceLeDiff,za0,za2,Int.reduceEq,Int.reduceLT,Int.reduceLE,Nat.reduceLT,tiA,tiXA, Nat.zero_add, Int.natCast_one, h21, h20', h4, h5, h0]
        exact o4
      · rintro m' t Hx ⟨c, hm', hc, h8, h7, h6, h21, h20', h4, h5, h0, o5⟩
        have w2c : IntKind.i64.wrap (2 * ((c + 1 : Nat) : Int)) = ((2 * (c + 1) : Nat) : Int) := by rw [show 2 * ((c + 1 : Nat) : Int) = ((2 * (c + 1) : Nat) : Int) by omega]; exact w64 ⟨by omega, by omega⟩
        try simp (disch := first | omega | (simp only [za1, List.length_replicate, List.length_set, zaA] <;> omega)) only [Sall,evalOp,init,binA_s,binE,binI,unE,convE,okNil,builtE,gv,TD.isAgg,resV,↓reduceIte,Nat.reduceEqDiff,reduceCtorEq,Nat.reduceAdd,Nat.reduceMul,Nat.reduceLeDiff,za0,za2,Int.reduceEq,Int.reduceLT,Int.reduceLE,Nat.reduceLT,tiA,tiXA, h8, h5, w2c]
        refine za4 (fun hh2 => ?_) (fun hh2 => ?_)
        · have hcn : c + 1 < n / 2 := by omega
          have e6 := (o5.getV 1 rfl).2.2
          have w1 : IntKind.i64.wrap ((r : Int) + ((c + 1 : Nat) : Int)) = ((r + (c + 1) : Nat) : Int) := by rw [← Int.natCast_add]; exact w64 ⟨by omega, by omega⟩
          have w2 : IntKind.i64.wrap ((r : Int) - ((c + 1 : Nat) : Int)) = (r : Int) - ((c + 1 : Nat) : Int) := w64 ⟨by omega, by omega⟩
          have w3 : IntKind.i64.wrap ((r : Int) - ((c + 1 : Nat) : Int) + ((n - 1 : Nat) : Int)) = ((r + (n - 1) - (c + 1) : Nat) : Int) := by rw [show (r : Int) - ((c + 1 : Nat) : Int) + ((n - 1 : Nat) : Int) = ((r + (n - 1) - (c + 1) : Nat) : Int) by omega]; exact w64 ⟨by omega, by omega⟩
          have r1 : ((r + (c + 1) : Nat) : Int).tmod ((n - 1 : Nat) : Int) = (((r + (c + 1)) % (n - 1) : Nat) : Int) := rfl
          have r2 : ((r + (n - 1) - (c + 1) : Nat) : Int).tmod ((n - 1 : Nat) : Int) = (((r + (n - 1) - (c + 1)) % (n - 1) : Nat) : Int) := rfl
          have r3 : ((c + 1 : Nat) : Int).tmod 2 = (((c + 1) % 2 : Nat) : Int) := rfl
          have w4 : IntKind.i64.wrap (1 - (((c + 1) % 2 : Nat) : Int)) = 1 - (((c + 1) % 2 : Nat) : Int) := w64 ⟨by omega, by omega⟩
          have w5 : IntKind.i64.wrap (((c + 1 : Nat) : Int) + 1) = ((c + 1 + 1 : Nat) : Int) := w64 ⟨by omega, by omega⟩
          have hm1 : (r + (c + 1)) % (n - 1) < n - 1 := Nat.mod_lt _ (by omega)
          have hm2 : (r + (n - 1) - (c + 1)) % (n - 1) < n - 1 := Nat.mod_lt _ (by omega)
          have eS : ((cvS n r c).set ((r + (c + 1)) % (n - 1)) (((c + 1) % 2 : Nat) : Int)).set ((r + (n - 1) - (c + 1)) % (n - 1)) (1 - (((c + 1) % 2 : Nat) : Int)) = cvS n r (c + 1) := rfl
          obtain ⟨i1, ei1⟩ : ∃ i1, i1 = (r + (c + 1)) % (n - 1) := ⟨_, rfl⟩
          obtain ⟨i2, ei2⟩ : ∃ i2, i2 = (r + (n - 1) - (c + 1)) % (n - 1) := ⟨_, rfl⟩
          rw [← ei1] at r1 hm1 eS
          rw [← ei2] at r2 hm2 eS
          clear ei1 ei2
          have op := o5.put 1 rfl (vs' := ints (cvS n r (c + 1))) (by rw [za1, za1, zaA, zaA])
          have g1 : (0 : Int) ≤ (i1 : Int) := by omega
          have g2 : (i1 : Int) < (n : Int) := by omega
          have g3 : (0 : Int) ≤ (i2 : Int) := by omega
          have g4 : (i2 : Int) < (n : Int) := by omega
          try simp (disch := first | omega | (simp only [za1, List.length_replicate, List.length_set, zaA] <;> omega)) only [Sall,evalOp,init,binA_s,binE,binI,unE,convE,okNil,builtE,gv,TD.isAgg,resV,↓reduceIte,Nat.reduceEqDiff,reduceCtorEq,Nat.reduceAdd,Nat.reduceMul,Nat.reduceLeDiff,za0,za2,Int.reduceEq,Int.reduceLT,Int.reduceLE,Nat.reduceLT,tiA,tiXA, true_and]
          refine zc1 (fun j => j ≠ li) [0, 1, 2, 3, 4, 5, 6, 7, 8, 9, 10, 11, 12, 13, 14, 15, 16, 17, 18, 19, 20, 21, 22] (by kernel_rfl) (by kernel_rfl) (by kernel_rfl) ?_
          try simp (disch := first | omega | (simp only [za1, List.length_replicate, List.length_set, zaA] <;> omega)) only [Sall,evalOp,init,binA_s,binE,binI,unE,convE,okNil,builtE,gv,TD.isAgg,resV,↓reduceIte,Nat.reduceEqDiff,reduceCtorEq,Nat.reduceAdd,Nat.reduceMul,Nat.reduceLeDiff,za0,za2,Int.reduceEq,Int.reduceLT,Int.reduceLE,Nat.reduceLT,tiA,tiXA, zaI, zaD, zaC, loadOk, h8, h7, h6, h21, h20', h4, h5, h0, e6, w1, w2, w3, r1, r2, r3, w4, w5, hne, h20, g1, g2, g3, g4, zaR]
          refine ⟨by rw [zaA]; omega, .inr (.inr (les_ne _ _)), by rw [List.length_set, zaA]; omega, .inr (.inr (les_ne _ _)), n / 2 - 1 - (c + 1), by omega, c + 1, rfl, by omega, rfl, ?_⟩
          rw [AH.setCells_setCells, eS]
          exact op
        · have hce : c = n / 2 - 1 := by omega
          rw [hce] at o5
          have hw5 := (o5.rd2 0 rfl).one
          have z1 : zeros 1 [.slice none 0 0] = [.slice none 0 0] := rfl
          try simp (disch := first | omega | (simp only [za1, List.length_replicate, List.length_set, zaA] <;> omega)) only [Sall,evalOp,init,binA_s,binE,binI,unE,convE,okNil,builtE,gv,TD.isAgg,resV,↓reduceIte,Nat.reduceEqDiff,reduceCtorEq,Nat.reduceAdd,Nat.reduceMul,Nat.reduceLeDiff,za0,za2,Int.reduceEq,Int.reduceLT,Int.reduceLE,Nat.reduceLT,tiA,tiXA, h7, h21, h20', h4, h5, h0, z1, zaL, hw5]
          (repeat refine And.intro (by omega) ?_)
          refine (o5.tmp ⟨33, true, [.slice (some ⟨li, 0, some 1⟩) n n]⟩).app2 (l := cvS n r (n / 2 - 1)) 0 1 rfl rfl (by omega) rfl (by decide) (by rw [zg3]; omega) ?_
          intro v' H5 n5 o6
          have wr : IntKind.i64.wrap ((r : Int) + 1) = ((r + 1 : Nat) : Int) := w64 ⟨by omega, by omega⟩
          try simp (disch := first | omega | (simp only [za1, List.length_replicate, List.length_set, zaA] <;> omega)) only [Sall,evalOp,init,binA_s,binE,binI,unE,convE,okNil,builtE,gv,TD.isAgg,resV,↓reduceIte,Nat.reduceEqDiff,reduceCtorEq,Nat.reduceAdd,Nat.reduceMul,Nat.reduceLeDiff,za0,za2,Int.reduceEq,Int.reduceLT,Int.reduceLE,Nat.reduceLT,tiA,tiXA, h21, h20', h5, h0, wr]
          refine ⟨n - 1 - (r + 1), by omega, r + 1, v', rfl, by omega, rfl, rfl, ?_⟩
          rw [cvP_succ]
          exact o6.only 0 rfl
    · have hre : r = n - 1 := by omega
      rw [hre] at o2
      have hw := (o2.rd2 0 rfl).one
      try simp (disch := first | omega | (simp only [za1, List.length_replicate, List.length_set, zaA] <;> omega)) only [Sall,evalOp,init,binA_s,binE,binI,unE,convE,okNil,builtE,gv,TD.isAgg,resV,↓reduceIte,Nat.reduceEqDiff,reduceCtorEq,Nat.reduceAdd,Nat.reduceMul,Nat.reduceLeDiff,za0,za2,Int.reduceEq,Int.reduceLT,Int.reduceLE,Nat.reduceLT,tiA,tiXA, h4, hw]
      exact ⟨u, rfl, o2⟩
theorem CircleOf_c (n : Int) (H : AH) (h : 2 ≤ n ∧ n ≤ 14) :
    ACalls Tryz.prog 15 [.int .i64 n] H (fun r H' => ∃ v, r = .tuple #[.agg #[.int .i64 n, v], .int .i64 0] ∧ Ow H H' [.sl 14 67 v (oddUp n.toNat) (ints (zaW n.toNat (oddUp n.toNat)))]) := by
  refine ACalls.wf (by kernel_rfl) fun hs => za3 [.cell 2 26, .tmp 3] Tryz.func15 (by kernel_rfl) rfl rfl (Nat.le_of_ble_eq_true rfl) (by kernel_rfl) ?_
  obtain ⟨m, rfl⟩ : ∃ m : Nat, n = m := ⟨n.toNat, by omega⟩
  rw [Int.toNat_natCast]
  have o1 := (Ow.refl hs).push ⟨26, true, [.int .i64 0, .slice none 0 0]⟩
  try simp (disch := first | omega | (simp only [za1, List.length_replicate, List.length_set, zaA] <;> omega)) only [Sall,evalOp,init,binA_s,binE,binI,unE,convE,okNil,builtE,gv,TD.isAgg,resV,↓reduceIte,Nat.reduceEqDiff,reduceCtorEq,Nat.reduceAdd,Nat.reduceMul,Nat.reduceLeDiff,za0,za2,Int.reduceEq,Int.reduceLT,Int.reduceLE,Nat.reduceLT,tiA,tiXA, true_and]
  obtain ⟨pi, epi⟩ : ∃ pi, pi = H.next := ⟨_, rfl⟩
  rw [← epi] at o1 ⊢
  revert o1
  generalize H.push ⟨26, true, [.int .i64 0, .slice none 0 0]⟩ = H1
  intro o1
  refine (zc2 _ _ _ _).to ?_
  refine Holds.mp ?_
  rw [decide_eq_true h]
  try simp (disch := first | omega | (simp only [za1, List.length_replicate, List.length_set, zaA] <;> omega)) only [Sall,evalOp,init,binA_s,binE,binI,unE,convE,okNil,builtE,gv,TD.isAgg,resV,↓reduceIte,Nat.reduceEqDiff,reduceCtorEq,Nat.reduceAdd,Nat.reduceMul,Nat.reduceLeDiff,za0,za2,Int.reduceEq,Int.reduceLT,Int.reduceLE,Nat.reduceLT,tiA,tiXA, Bool.not_true]
  refine ACalls.mono (circle_c m (by omega) H1).sc ?_
  rintro w H2 ⟨⟨u, ew, up, fr⟩, sc2⟩
  have oc := Ow.of_fr up sc2 fr
  have o2 := o1.call oc
  have o2 : Ow H H2 [.row pi ⟨26, true, [.int .i64 0, .slice none 0 0]⟩, .sl 14 67 u (oddUp m) (ints (zaW m (oddUp m)))] := o2
  have hu := o2.one 1 rfl
  have e2 := (o2.rowAt 0 rfl).1
  have o3 := o2.putRow 0 rfl (cs' := [.int .i64 m, u])
  refine Holds.mp ?_
  try simp (disch := first | omega | (simp only [za1, List.length_replicate, List.length_set, zaA] <;> omega)) only [Sall,evalOp,init,binA_s,binE,binI,unE,convE,okNil,builtE,gv,TD.isAgg,resV,↓reduceIte,Nat.reduceEqDiff,reduceCtorEq,Nat.reduceAdd,Nat.reduceMul,Nat.reduceLeDiff,za0,za2,Int.reduceEq,Int.reduceLT,Int.reduceLE,Nat.reduceLT,tiA,tiXA, ew, e2, hu]
  exact ⟨u, rfl, o3.only 1 rfl⟩
end Go.Proofs.YtemgclojolmhbaaGreat.A
end

section
namespace Go.Abs
theorem zg6 {n : Nat} {mt mt' : Nat → Nat → Bool} (h : ∀ a b, a < n → b < n → mt a b = mt' a b) : ∀ (f : Nat) (now : List Int) (a : Nat), a ≤ n → matF n mt f now a = matF n mt' f now a
  | 0, _, _, _ => rfl
  | f + 1, now, a, ha => by
    unfold matF
    split
    · rfl
    · rename_i hc
      rw [List.flatMap_def, List.flatMap_def]
      congr 1
      refine List.map_congr_left fun b hb => ?_
      rw [List.mem_range'] at hb
      obtain ⟨i, hi, eb⟩ := hb
      unfold matB
      rw [zg6 h f _ _ (by omega), h _ b (by omega) (by omega)]
def stpF {α : Type} (F : List Int → Option α) (s : Option α) (r : List Int) : Bool × Option α := match F r with | none => (true, s) | some X => (false, some X)
theorem zgC {α : Type} (F : List Int → Option α) : ∀ (L : List (List Int)) (s : Option α), foldE (stpF F) L s = match L.findSome? F with | none => (true, s) | some X => (false, some X)
  | [], s => rfl
  | r :: L, s => by
    unfold foldE
    rw [List.findSome?_cons]
    have e : stpF F s r = match F r with | none => (true, s) | some X => (false, some X) := rfl
    cases h : F r with
    | none =>
      rw [h] at e
      rw [e, if_pos rfl]
      exact zgC F L s
    | some X =>
      rw [h] at e
      rw [e]
      rfl
def cntN (D : List (List Int)) (a b : Nat) : Nat := D.countP fun r => r.getD a 0 == (b : Int)
def cntD (n : Nat) (D : List (List Int)) : List (List Int) := (List.range n).map fun a => (List.range n).map fun b => ((cntN D a b : Nat) : Int)
theorem zdQ (n : Nat) (D : List (List Int)) : (cntD n D).length = n := by simp [cntD]
theorem zdM (n : Nat) (D : List (List Int)) {a : Nat} (h : a < n) : (cntD n D).getD a [] = (List.range n).map fun b => ((cntN D a b : Nat) : Int) := by
  unfold cntD
  rw [List.getD_eq_getElem?_getD, List.getElem?_map, List.getElem?_range h]; rfl
theorem zhB (n : Nat) (D : List (List Int)) {a b : Nat} (h : a < n) (hb : b < n) : ((cntD n D).getD a []).getD b 0 = ((cntN D a b : Nat) : Int) := by
  rw [zdM n D h, List.getD_eq_getElem?_getD, List.getElem?_map, List.getElem?_range hb]; rfl
theorem cntD_rl (n : Nat) (D : List (List Int)) {a : Nat} (h : a < n) : ((cntD n D).getD a []).length = n := by rw [zdM n D h]; simp
theorem cntN_le (D : List (List Int)) (a b : Nat) : cntN D a b ≤ D.length := List.countP_le_length
theorem cntN_met (D : List (List Int)) (a b : Nat) : decide (0 < ((cntN D a b : Nat) : Int)) = metR D a b := by
  unfold cntN metR
  rw [Bool.eq_iff_iff, decide_eq_true_iff, List.any_eq_true]
  constructor
  · intro h
    obtain ⟨r, hr, e⟩ := List.countP_pos_iff.1 (show 0 < List.countP (fun r => r.getD a 0 == (b : Int)) D by omega)
    exact ⟨r, hr, e⟩
  · rintro ⟨r, hr, e⟩
    have := List.countP_pos_iff (p := fun r => r.getD a 0 == (b : Int)) (l := D).2 ⟨r, hr, e⟩
    omega
theorem zfQ (D : List (List Int)) (r : List Int) (a b : Nat) : ((cntN (D ++ [r]) a b : Nat) : Int) = (cntN D a b : Int) + if r.getD a 0 = (b : Int) then 1 else 0 := by
  unfold cntN
  rw [List.countP_append, List.countP_singleton]
  by_cases h : r.getD a 0 = (b : Int)
  · rw [if_pos h, if_pos (beq_iff_eq.2 h)]; simp
  · rw [if_neg h, if_neg (by simpa using h)]; simp
def mrkM (n : Nat) (M : List (List Int)) (r : List Int) (by' : Int) (t : Nat) : List (List Int) := (List.range n).map fun a => if a < t then (M.getD a []).set (r.getD a 0).toNat ((M.getD a []).getD (r.getD a 0).toNat 0 + by') else M.getD a []
theorem zc4 (n : Nat) (M : List (List Int)) (r : List Int) (by' : Int) (t : Nat) : (mrkM n M r by' t).length = n := by simp [mrkM]
theorem zd7 (n : Nat) (M : List (List Int)) (r : List Int) (by' : Int) (t : Nat) {a : Nat} (h : a < n) : (mrkM n M r by' t).getD a [] = if a < t then (M.getD a []).set (r.getD a 0).toNat ((M.getD a []).getD (r.getD a 0).toNat 0 + by') else M.getD a [] := by
  unfold mrkM
  rw [List.getD_eq_getElem?_getD, List.getElem?_map, List.getElem?_range h]; rfl
theorem ll_ext {n : Nat} {X Y : List (List Int)} (hx : X.length = n) (hy : Y.length = n) (h : ∀ a, a < n → X.getD a [] = Y.getD a []) : X = Y := by
  apply List.ext_getElem (by omega)
  intro i h1 h2
  have := h i (by omega)
  rw [List.getD_eq_getElem?_getD, List.getElem?_eq_getElem h1, List.getD_eq_getElem?_getD, List.getElem?_eq_getElem h2] at this
  exact this
theorem mrkM_zero {n : Nat} {M : List (List Int)} (hM : M.length = n) (r : List Int) (by' : Int) : mrkM n M r by' 0 = M :=
  ll_ext (zc4 _ _ _ _ _) hM fun a ha => by rw [zd7 _ _ _ _ _ ha, if_neg (by omega)]
theorem mrkM_succ {n : Nat} {M : List (List Int)} (r : List Int) (by' : Int) {t : Nat} (ht : t < n) : (mrkM n M r by' t).set t (((mrkM n M r by' t).getD t []).set (r.getD t 0).toNat (((mrkM n M r by' t).getD t []).getD (r.getD t 0).toNat 0 + by')) = mrkM n M r by' (t + 1) := by
  refine ll_ext (by rw [List.length_set, zc4]) (zc4 _ _ _ _ _) fun a ha => ?_
  rw [zcE (by rw [zc4]; exact ht), zd7 _ _ _ _ _ ht, if_neg (Nat.lt_irrefl t), zd7 _ _ _ _ t ha, zd7 _ _ _ _ (t + 1) ha]
  by_cases e : a = t
  · subst e
    rw [if_pos rfl, if_pos (Nat.lt_succ_self a)]
  · rw [if_neg e]
    by_cases e2 : a < t
    · rw [if_pos e2, if_pos (by omega)]
    · rw [if_neg e2, if_neg (by omega)]
theorem set_app {n : Nat} (f g : Nat → Int) {i : Nat} (hi : i < n) (h : ∀ b, b < n → g b = if b = i then f b + (g i - f i) else f b) : ((List.range n).map f).set i (f i + (g i - f i)) = (List.range n).map g := by
  apply List.ext_getElem (by simp)
  intro j h1 h2
  have hj : j < n := by simpa using h2
  rw [List.getElem_set]
  simp only [List.getElem_map, List.getElem_range]
  have hg := h j hj
  by_cases e : i = j
  · subst e; rw [if_pos rfl]; omega
  · rw [if_neg e, hg, if_neg (Ne.symm e)]
theorem mrk_in {n : Nat} {D : List (List Int)} {r : List Int} (hr : ∀ a, a < n → 0 ≤ r.getD a 0 ∧ r.getD a 0 < (n : Int)) : mrkM n (cntD n D) r 1 n = cntD n (D ++ [r]) := by
  refine ll_ext (zc4 _ _ _ _ _) (zdQ _ _) fun a ha => ?_
  rw [zd7 _ _ _ _ _ ha, if_pos ha]
  obtain ⟨h1, h2⟩ := hr a ha
  have hi : (r.getD a 0).toNat < n := by omega
  rw [zhB n D ha hi, zdM n D ha, zdM n (D ++ [r]) ha]
  have e1 : (1 : Int) = ((cntN (D ++ [r]) a (r.getD a 0).toNat : Nat) : Int) - ((cntN D a (r.getD a 0).toNat : Nat) : Int) := by
    rw [zfQ, if_pos (by omega)]; omega
  rw [e1]
  refine set_app (fun b => ((cntN D a b : Nat) : Int)) (fun b => ((cntN (D ++ [r]) a b : Nat) : Int)) hi fun b hb => ?_
  show ((cntN (D ++ [r]) a b : Nat) : Int) = if b = (r.getD a 0).toNat then ((cntN D a b : Nat) : Int) + (((cntN (D ++ [r]) a (r.getD a 0).toNat : Nat) : Int) - ((cntN D a (r.getD a 0).toNat : Nat) : Int)) else ((cntN D a b : Nat) : Int)
  rw [← e1, zfQ]
  by_cases e : b = (r.getD a 0).toNat
  · rw [if_pos (by omega), if_pos e]
  · rw [if_neg (by omega), if_neg e, Int.add_zero]
theorem mrk_out {n : Nat} {D : List (List Int)} {r : List Int} (hr : ∀ a, a < n → 0 ≤ r.getD a 0 ∧ r.getD a 0 < (n : Int)) : mrkM n (cntD n (D ++ [r])) r (-1) n = cntD n D := by
  refine ll_ext (zc4 _ _ _ _ _) (zdQ _ _) fun a ha => ?_
  rw [zd7 _ _ _ _ _ ha, if_pos ha]
  obtain ⟨h1, h2⟩ := hr a ha
  have hi : (r.getD a 0).toNat < n := by omega
  rw [zhB n (D ++ [r]) ha hi, zdM n D ha, zdM n (D ++ [r]) ha]
  have e1 : (-1 : Int) = ((cntN D a (r.getD a 0).toNat : Nat) : Int) - ((cntN (D ++ [r]) a (r.getD a 0).toNat : Nat) : Int) := by
    rw [zfQ, if_pos (by omega)]; omega
  rw [e1]
  refine set_app (fun b => ((cntN (D ++ [r]) a b : Nat) : Int)) (fun b => ((cntN D a b : Nat) : Int)) hi fun b hb => ?_
  show ((cntN D a b : Nat) : Int) = if b = (r.getD a 0).toNat then ((cntN (D ++ [r]) a b : Nat) : Int) + (((cntN D a (r.getD a 0).toNat : Nat) : Int) - ((cntN (D ++ [r]) a (r.getD a 0).toNat : Nat) : Int)) else ((cntN (D ++ [r]) a b : Nat) : Int)
  rw [← e1]
  have hb2 := zfQ D r a b
  by_cases e : b = (r.getD a 0).toNat
  · rw [if_pos (by omega)] at hb2
    rw [if_pos e]; omega
  · rw [if_neg (by omega)] at hb2
    rw [if_neg e]; omega
theorem cntD_nil (n : Nat) : cntD n [] = zeroM n := by
  unfold cntD zeroM
  have e : ∀ a b : Nat, ((cntN [] a b : Nat) : Int) = 0 := fun a b => rfl
  simp only [e]
  apply List.ext_getElem (by simp)
  intro i h1 h2
  simp only [List.getElem_map, List.getElem_replicate]
  apply List.ext_getElem (by simp)
  intro j h3 h4
  simp
def rowsP (n : Nat) (P : List (List Int)) : List (List Int) := (List.range (n - 1)).map fun i => (List.range n).map fun a => (P.getD a []).getD i 0
theorem zfF (n : Nat) (P : List (List Int)) {i a : Nat} (hi : i < n - 1) (ha : a < n) : ((rowsP n P).getD i []).getD a 0 = (P.getD a []).getD i 0 := by
  unfold rowsP
  rw [List.getD_eq_getElem?_getD (l := List.map _ _), List.getElem?_map, List.getElem?_range hi]
  show ((List.range n).map fun a => (P.getD a []).getD i 0).getD a 0 = _
  rw [List.getD_eq_getElem?_getD, List.getElem?_map, List.getElem?_range ha]; rfl
def patB (n : Nat) (P : List (List Int)) : Bool := decide (P.length = n) && P.all fun y => decide (y.length = n - 1) && y.all fun v => decide (0 ≤ v ∧ v ≤ 1)
theorem zgK {n : Nat} {P : List (List Int)} (h : patB n P = true) : P.length = n ∧ ∀ a, a < n → (P.getD a []).length = n - 1 ∧ ∀ i, i < n - 1 → (P.getD a []).getD i 0 = 0 ∨ (P.getD a []).getD i 0 = 1 := by
  unfold patB at h
  rw [Bool.and_eq_true, decide_eq_true_iff, List.all_eq_true] at h
  refine ⟨h.1, fun a ha => ?_⟩
  have hm : P.getD a [] ∈ P := by rw [List.getD_eq_getElem?_getD, List.getElem?_eq_getElem (by omega)]; exact List.getElem_mem _
  have h2 := h.2 _ hm
  rw [Bool.and_eq_true, decide_eq_true_iff, List.all_eq_true] at h2
  refine ⟨h2.1, fun i hi => ?_⟩
  have h3 := of_decide_eq_true (h2.2 ((P.getD a []).getD i 0) (ze2 (by rw [h2.1]; exact hi)))
  omega
end Go.Abs
end

section
set_option maxRecDepth 100000
set_option maxHeartbeats 2000000
namespace Go.Proofs.YtemgclojolmhbaaGreat.A
open Go Go.Abs Go.RowKit
structure CallOkB (n : Nat) (M : List (List Int)) (mv : Value) (g : FuncId) (caps : List Value) (b0 : Nat) {σ : Type} (Inv : Bool → σ → AH → Prop) (step : σ → List Int → Bool × σ) : Prop where
  n14 : n ≤ 14
  ml : M.length = n
  mr : ∀ a, a < n → (M.getD a []).length = n
  low : ∀ s H H', Inv true s H → (∀ i, i < b0 → H'.row i = H.row i) → Inv true s H'
  met : ∀ s H, Inv true s H → Rd2 1 H mv M
  call : ∀ s r H, Inv true s H → b0 ≤ H.next → Sc H → NowOk n r → ACalls Tryz.prog g (.agg (ints r).toArray :: caps) H (fun v H' => v = .bool (step s r).1 ∧ Inv (step s r).1 (step s r).2 H' ∧ H.next ≤ H'.next ∧ Sc H' ∧ ∀ i, b0 ≤ i → i < H.next → H'.row i = H.row i)
theorem putB_c {σ : Type} {n : Nat} {M : List (List Int)} {mv : Value} {g : FuncId} {caps : List Value} {b0 : Nat} {Inv : Bool → σ → AH → Prop} {step : σ → List Int → Bool × σ} (hC : CallOkB n M mv g caps b0 Inv step)
    (nc ni wc mc pc : Nat) (hb : b0 ≤ nc ∧ b0 ≤ ni ∧ b0 ≤ wc ∧ b0 ≤ mc ∧ b0 ≤ pc) (hne : nc ≠ ni ∧ wc ≠ ni ∧ mc ≠ ni ∧ pc ≠ ni) (hone : mv.oneCell' = true) :
    ∀ (f : Nat) (now : List Int) (a : Nat) (s : σ) (H : AH), NowOk n now → a ≤ n → n - a < f → Inv true s H → Sc H → H.row ni = some ⟨67, true, ints now⟩ → H.row nc = some ⟨2, true, [.int .i64 n]⟩ → H.row mc = some ⟨30, true, [mv]⟩ →
      H.row wc = some ⟨107, true, [.func (.func g) #[] caps.toArray]⟩ → H.row pc = some ⟨82, true, [.func (.func 102) #[] #[.pointer (some ⟨nc, 0, none⟩), .pointer (some ⟨ni, 0, none⟩), .pointer (some ⟨wc, 0, none⟩), .pointer (some ⟨mc, 0, none⟩), .pointer (some ⟨pc, 0, none⟩)]]⟩ →
      ACalls Tryz.prog 102 [.int .i64 a, .pointer (some ⟨nc, 0, none⟩), .pointer (some ⟨ni, 0, none⟩), .pointer (some ⟨wc, 0, none⟩), .pointer (some ⟨mc, 0, none⟩), .pointer (some ⟨pc, 0, none⟩)] H (fun v H' => v = .bool (foldE step (matF n (mtM M) f now a) s).1 ∧ Inv (foldE step (matF n (mtM M) f now a) s).1 (foldE step (matF n (mtM M) f now a) s).2 H' ∧ H.next ≤ H'.next ∧ Sc H' ∧ (∀ i, b0 ≤ i → i < H.next → i ≠ ni → H'.row i = H.row i) ∧ ((foldE step (matF n (mtM M) f now a) s).1 = true → H'.row ni = H.row ni)) := by
  intro f
  induction f with
  | zero => intro now a s H _ _ h; omega
  | succ f ih =>
    intro now a s H hnow han hf hI hs hni hnc hmc hwc hpc
    obtain ⟨b1, b2, b3, b4, b5⟩ := hb
    obtain ⟨d1, d2, d3, d4⟩ := hne
    have hn14 := hC.n14
    refine za3 [.tmp 7] Tryz.func102 (by kernel_rfl) rfl rfl (Nat.le_of_ble_eq_true rfl) (by kernel_rfl) ?_
    try simp (disch := first | omega | (simp only [L3] <;> omega)) only [Sall,evalOp,init,binA_s,binE,binI,unE,convE,okNil,builtE,gv,TD.isAgg,resV,↓reduceIte,Nat.reduceEqDiff,reduceCtorEq,Nat.reduceAdd,Nat.reduceMul,Nat.reduceLeDiff,za0,za2,Int.reduceEq,Int.reduceLT,Int.reduceLE,Nat.reduceLT,tiA,tiXA, true_and]
    refine za5 (fun z t H' => H' = H ∧ ∃ c : Nat, z = n - c ∧ c ≤ n ∧ t 0 = .int .i64 c ∧ fstF now (n - a) a = fstF now (n - c) c ∧ t 1 = .pointer (some ⟨nc, 0, none⟩) ∧ t 2 = .pointer (some ⟨ni, 0, none⟩) ∧ t 3 = .pointer (some ⟨wc, 0, none⟩) ∧ t 4 = .pointer (some ⟨mc, 0, none⟩) ∧ t 5 = .pointer (some ⟨pc, 0, none⟩)) (n - a) ?_ ?_
    · refine ⟨rfl, a, rfl, han, ?_⟩
      try simp (disch := first | omega | (simp only [L3] <;> omega)) only [Sall,evalOp,init,binA_s,binE,binI,unE,convE,okNil,builtE,gv,TD.isAgg,resV,↓reduceIte,Nat.reduceEqDiff,reduceCtorEq,Nat.reduceAdd,Nat.reduceMul,Nat.reduceLeDiff,za0,za2,Int.reduceEq,Int.reduceLT,Int.reduceLE,Nat.reduceLT,tiA,tiXA, true_and]
    · rintro z t H' ⟨rfl, c, hz, hcn, h0, hfst, h1, h2, h3, h4, h5⟩
      have hget := ints_get? now
      have hnl := hnow.1
      by_cases c1 : c < n
      · have c1' : decide ((c : Int) < (n : Int)) = true := decide_eq_true (by omega)
        by_cases c2 : now.getD c 0 = (c : Int)
        · have e2 : (now.getD c 0 != (c : Int)) = false := by rw [c2]; exact bne_self_eq_false _
          have hA : fstF now (n - a) a = c := hfst.trans (fstF_here c1 c2)
          try simp (disch := first | omega | (simp only [L3] <;> omega)) only [Sall,evalOp,init,binA_s,binE,binI,unE,convE,okNil,builtE,gv,TD.isAgg,resV,↓reduceIte,Nat.reduceEqDiff,reduceCtorEq,Nat.reduceAdd,Nat.reduceMul,Nat.reduceLeDiff,za0,za2,Int.reduceEq,Int.reduceLT,Int.reduceLE,Nat.reduceLT,tiA,tiXA, h0, h1, hnc, c1', h2, hni, hget, hnl, e2]
          (repeat refine And.intro (by omega) ?_)
          have e3 : ((c : Int) == (n : Int)) = false := beq_eq_false_iff_ne.2 (by omega)
          try simp (disch := first | omega | (simp only [L3] <;> omega)) only [Sall,evalOp,init,binA_s,binE,binI,unE,convE,okNil,builtE,gv,TD.isAgg,resV,↓reduceIte,Nat.reduceEqDiff,reduceCtorEq,Nat.reduceAdd,Nat.reduceMul,Nat.reduceLeDiff,za0,za2,Int.reduceEq,Int.reduceLT,Int.reduceLE,Nat.reduceLT,tiA,tiXA, h0, h1, hnc, e3, h2, hni, hget, hnl, e2, w64]
          -- the second loop
          have hac := (zf9 now (n - a) a).1
          rw [hA] at hac
          have hm : matF n (mtM M) (f + 1) now a = (List.range' (c + 1) (n - (c + 1))).flatMap fun b => matB (matF n (mtM M) f) (mtM M) now c b := by
            show (if _ then _ else _) = _
            rw [hA, if_neg (by omega)]
          rw [hm]
          obtain ⟨F, hF⟩ : ∃ F, F = fun b => matB (matF n (mtM M) f) (mtM M) now c b := ⟨_, rfl⟩
          rw [← hF]
          refine za5 (fun z t H2 => ∃ (b : Nat) (s' : σ), z = n - b ∧ c + 1 ≤ b ∧ b ≤ n ∧ t 8 = .int .i64 b ∧ t 0 = .int .i64 c ∧ t 1 = .pointer (some ⟨nc, 0, none⟩) ∧ t 2 = .pointer (some ⟨ni, 0, none⟩) ∧ t 3 = .pointer (some ⟨wc, 0, none⟩) ∧ t 4 = .pointer (some ⟨mc, 0, none⟩) ∧ t 5 = .pointer (some ⟨pc, 0, none⟩) ∧
            foldE step ((List.range' (c + 1) (n - (c + 1))).flatMap F) s = foldE step ((List.range' b (n - b)).flatMap F) s' ∧ Inv true s' H2 ∧ H'.next ≤ H2.next ∧ Sc H2 ∧ (∀ i, b0 ≤ i → i < H'.next → i ≠ ni → H2.row i = H'.row i) ∧ H2.row ni = H'.row ni) (n - (c + 1)) ?_ ?_
          · refine ⟨c + 1, s, rfl, Nat.le_refl _, by omega, ?_⟩
            try simp (disch := first | omega | (simp only [L3] <;> omega)) only [Sall,evalOp,init,binA_s,binE,binI,unE,convE,okNil,builtE,gv,TD.isAgg,resV,↓reduceIte,Nat.reduceEqDiff,reduceCtorEq,Nat.reduceAdd,Nat.reduceMul,Nat.reduceLeDiff,za0,za2,Int.reduceEq,Int.reduceLT,Int.reduceLE,Nat.reduceLT,tiA,tiXA, h0, h1, h2, h3, h4, h5]
            exact ⟨rfl, hI, hs⟩
          · rintro z t H2 ⟨b, s', hz, hcb, hbn, h8, h0, h1, h2, h3, h4, h5, hEq, hI2, hn2, hs2, hfr, hni2⟩
            rw [hEq]
            have knc := hfr nc b1 (hs _ _ hnc) d1
            have kmc := hfr mc b4 (hs _ _ hmc) d3
            have kwc := hfr wc b3 (hs _ _ hwc) d2
            have kpc := hfr pc b5 (hs _ _ hpc) d4
            rw [hnc] at knc
            rw [hmc] at kmc
            rw [hwc] at kwc
            rw [hpc] at kpc
            rw [hni] at hni2
            by_cases c3 : b < n
            · have c3' : decide ((b : Int) < (n : Int)) = true := decide_eq_true (by omega)
              rw [show n - b = (n - (b + 1)) + 1 by omega, List.range'_succ, List.flatMap_cons, zeC]
              have hFb : F b = matB (matF n (mtM M) f) (mtM M) now c b := by rw [hF]
              by_cases c4 : now.getD b 0 = (b : Int)
              · have e4 : (now.getD b 0 != (b : Int)) = false := by rw [c4]; exact bne_self_eq_false _
                obtain ⟨mi, mo, mu, mcc, mr, mx, mm, rfl, mr1, mr2, mr3, mr4⟩ := (hC.met s' H2 hI2).get (j := c) (by rw [hC.ml]; omega)
                have hmm := mr3.lenK1
                rw [hC.mr c (by omega)] at hmm
                obtain ⟨qi, qo, qu, qc, qr, rfl, q1, q2, q3, q4⟩ := mr3.get (by omega)
                have hml := hC.ml
                have q3b := q3 b (by omega)
                have gmr : ((c : Int)).toNat = c := rfl
                by_cases c5 : 0 < (M.getD c []).getD b 0
                · have e5 : decide (0 < (M.getD c []).getD b 0) = true := decide_eq_true c5
                  have hF0 : F b = [] := by rw [hFb]; unfold matB; rw [if_pos (.inr e5)]
                  rw [hF0, show foldE step ([] : List (List Int)) s' = (true, s') from rfl, if_pos rfl]
                  try simp (disch := first | omega | (simp only [L3] <;> omega)) only [Sall,evalOp,init,binA_s,binE,binI,unE,convE,okNil,builtE,gv,TD.isAgg,resV,↓reduceIte,Nat.reduceEqDiff,reduceCtorEq,Nat.reduceAdd,Nat.reduceMul,Nat.reduceLeDiff,za0,za2,Int.reduceEq,Int.reduceLT,Int.reduceLE,Nat.reduceLT,tiA,tiXA, h8, h1, knc, c3', h2, hni2, hget, hnl, e4, h4, kmc, h0, mr1, mr2, mr4, q1, q3b, e5, hml]
                  (repeat refine And.intro (by omega) ?_)
                  try simp (disch := first | omega | (simp only [L3] <;> omega)) only [Sall,evalOp,init,binA_s,binE,binI,unE,convE,okNil,builtE,gv,TD.isAgg,resV,↓reduceIte,Nat.reduceEqDiff,reduceCtorEq,Nat.reduceAdd,Nat.reduceMul,Nat.reduceLeDiff,za0,za2,Int.reduceEq,Int.reduceLT,Int.reduceLE,Nat.reduceLT,tiA,tiXA, h8, h1, knc, c3', h2, h3, h5, hni2, hget, hnl, e4, h4, kmc, h0, mr1, mr2, mr4, q1, q3b, e5, hml, w64]
                  exact ⟨n - (b + 1), by omega, b + 1, s', rfl, by omega, by omega, rfl, rfl, hI2, hn2, hs2, hfr, hni.symm⟩
                · have e5 : decide (0 < (M.getD c []).getD b 0) = false := decide_eq_false c5
                  have hF0 : F b = matF n (mtM M) f (meetN now c b) (c + 1) := by
                    rw [hFb]; unfold matB
                    rw [if_neg (fun h => h.elim (fun h => h c4) (fun h => by unfold mtM at h; rw [e5] at h; cases h))]
                  rw [hF0]
                  try simp (disch := first | omega | (simp only [L3] <;> omega)) only [Sall,evalOp,init,binA_s,binE,binI,unE,convE,okNil,builtE,gv,TD.isAgg,resV,↓reduceIte,Nat.reduceEqDiff,reduceCtorEq,Nat.reduceAdd,Nat.reduceMul,Nat.reduceLeDiff,za0,za2,Int.reduceEq,Int.reduceLT,Int.reduceLE,Nat.reduceLT,tiA,tiXA, h8, h1, knc, c3', h2, hni2, hget, hnl, e4, h4, kmc, h0, mr1, mr2, mr4, q1, q3b, e5, hml]
                  (repeat refine And.intro (by omega) ?_)
                  try simp (disch := first | omega | (simp only [L3] <;> omega)) only [Sall,evalOp,init,binA_s,binE,binI,unE,convE,okNil,builtE,gv,TD.isAgg,resV,↓reduceIte,Nat.reduceEqDiff,reduceCtorEq,Nat.reduceAdd,Nat.reduceMul,Nat.reduceLeDiff,za0,za2,Int.reduceEq,Int.reduceLT,Int.reduceLE,Nat.reduceLT,tiA,tiXA, h8, h1, knc, c3', h2, hni2, hget, hnl, e4, h4, kmc, h0, mr1, mr2, mr4, q1, q3b, e5, hml]
                  refine (meet_c ni 67 c b now H2 hni2 hnl ⟨by omega, by omega⟩ ⟨by omega, by omega⟩).to ?_
                  obtain ⟨H3, e3⟩ : ∃ H3, H3 = H2.setCells ni (ints ((now.set (c : Int).toNat (b : Int)).set (b : Int).toNat (c : Int))) := ⟨_, rfl⟩
                  have k3 : H3.row ni = some ⟨67, true, ints (meetN now c b)⟩ := by rw [e3, AH.setCells_row, if_pos rfl, hni2]; rfl
                  have r3 : ∀ j, j ≠ ni → H3.row j = H2.row j := fun j hj => by rw [e3, AH.setCells_row, if_neg hj]
                  have n3 : H3.next = H2.next := by rw [e3]; rfl
                  have s3 : Sc H3 := by rw [e3]; exact hs2.set _ _
                  rw [← e3]
                  clear e3
                  have kpc3 := r3 pc d4
                  rw [kpc] at kpc3
                  try simp (disch := first | omega | (simp only [L3] <;> omega)) only [Sall,evalOp,init,binA_s,binE,binI,unE,convE,okNil,builtE,gv,TD.isAgg,resV,↓reduceIte,Nat.reduceEqDiff,reduceCtorEq,Nat.reduceAdd,Nat.reduceMul,Nat.reduceLeDiff,za0,za2,Int.reduceEq,Int.reduceLT,Int.reduceLE,Nat.reduceLT,tiA,tiXA, h0, h5, kpc3, w64]
                  refine (ih (meetN now c b) (c + 1) s' H3 (hnow.meet hn14 c1 c3) (by omega) (by omega) (hC.low _ _ _ hI2 fun i hi => r3 i (by omega)) s3 k3 (by rw [r3 nc d1]; exact knc) (by rw [r3 mc d3]; exact kmc) (by rw [r3 wc d2]; exact kwc) kpc3).fin ?_
                  rintro H4 ⟨i1, i2, i3, i4, i5⟩
                  revert i1 i5
                  generalize foldE step (matF n (mtM M) f (meetN now c b) (c + 1)) s' = R
                  intro i1 i5
                  obtain ⟨rb, s''⟩ := R
                  have fr4 : ∀ i, b0 ≤ i → i < H'.next → i ≠ ni → H4.row i = H'.row i := fun i j1 j2 j3 => by rw [i4 i j1 (by omega) j3, r3 i j3, hfr i j1 j2 j3]
                  obtain hrb | hrb : rb = true ∨ rb = false := by cases rb <;> simp
                  · subst hrb
                    have k4 := i5 rfl
                    rw [k3] at k4
                    have ml4 : (meetN now c b).length = 14 := by rw [zb8, hnl]
                    have mb4 := meetN_back hnl (show c < 14 by omega) (show b < 14 by omega) c2 c4
                    have ml5 : ((meetN now c b).set c (c : Int)).length = 14 := by rw [List.length_set, ml4]
                    try simp (disch := first | omega | (simp only [L3] <;> omega)) only [Sall,evalOp,init,binA_s,binE,binI,unE,convE,okNil,builtE,gv,TD.isAgg,resV,↓reduceIte,Nat.reduceEqDiff,reduceCtorEq,Nat.reduceAdd,Nat.reduceMul,Nat.reduceLeDiff,za0,za2,Int.reduceEq,Int.reduceLT,Int.reduceLE,Nat.reduceLT,tiA,tiXA, h0, h8, h1, h2, h3, h4, h5, k4, ml4, ml5, zaR, AH.setCells_setCells, mb4, w64]
                    (repeat refine And.intro (by omega) ?_)
                    try simp (disch := first | omega | (simp only [L3] <;> omega)) only [Sall,evalOp,init,binA_s,binE,binI,unE,convE,okNil,builtE,gv,TD.isAgg,resV,↓reduceIte,Nat.reduceEqDiff,reduceCtorEq,Nat.reduceAdd,Nat.reduceMul,Nat.reduceLeDiff,za0,za2,Int.reduceEq,Int.reduceLT,Int.reduceLE,Nat.reduceLT,tiA,tiXA, h0, h8, h1, h2, h3, h4, h5, k4, ml4, ml5, zaR, AH.setCells_setCells, mb4, w64]
                    exact ⟨n - (b + 1), by omega, b + 1, s'', rfl, by omega, by omega, rfl, rfl, hC.low _ _ _ i1 (fun i hi => by rw [AH.setCells_row, if_neg (by omega)]), by omega, i3.set _ _, fun i j1 j2 j3 => by rw [if_neg j3]; exact fr4 i j1 j2 j3, hni.symm⟩
                  · subst hrb
                    try simp (disch := first | omega | (simp only [L3] <;> omega)) only [Sall,evalOp,init,binA_s,binE,binI,unE,convE,okNil,builtE,gv,TD.isAgg,resV,↓reduceIte,Nat.reduceEqDiff,reduceCtorEq,Nat.reduceAdd,Nat.reduceMul,Nat.reduceLeDiff,za0,za2,Int.reduceEq,Int.reduceLT,Int.reduceLE,Nat.reduceLT,tiA,tiXA, h0, h8]
                    exact ⟨i1, by omega, i3, fr4, fun h => h.elim⟩
              · have e4 : (now.getD b 0 != (b : Int)) = true := by simpa using c4
                have hF0 : F b = [] := by rw [hFb]; unfold matB; rw [if_pos (.inl c4)]
                rw [hF0, show foldE step ([] : List (List Int)) s' = (true, s') from rfl, if_pos rfl]
                try simp (disch := first | omega | (simp only [L3] <;> omega)) only [Sall,evalOp,init,binA_s,binE,binI,unE,convE,okNil,builtE,gv,TD.isAgg,resV,↓reduceIte,Nat.reduceEqDiff,reduceCtorEq,Nat.reduceAdd,Nat.reduceMul,Nat.reduceLeDiff,za0,za2,Int.reduceEq,Int.reduceLT,Int.reduceLE,Nat.reduceLT,tiA,tiXA, h8, h1, knc, c3', h2, hni2, hget, hnl, e4, h0]
                (repeat refine And.intro (by omega) ?_)
                try simp (disch := first | omega | (simp only [L3] <;> omega)) only [Sall,evalOp,init,binA_s,binE,binI,unE,convE,okNil,builtE,gv,TD.isAgg,resV,↓reduceIte,Nat.reduceEqDiff,reduceCtorEq,Nat.reduceAdd,Nat.reduceMul,Nat.reduceLeDiff,za0,za2,Int.reduceEq,Int.reduceLT,Int.reduceLE,Nat.reduceLT,tiA,tiXA, h8, h1, knc, c3', h2, h3, h4, h5, hni2, hget, hnl, e4, h0, w64]
                exact ⟨n - (b + 1), by omega, b + 1, s', rfl, by omega, by omega, rfl, rfl, hI2, hn2, hs2, hfr, hni.symm⟩
            · have c3' : decide ((b : Int) < (n : Int)) = false := decide_eq_false (by omega)
              rw [show n - b = 0 by omega, List.range'_zero, List.flatMap_nil, show foldE step ([] : List (List Int)) s' = (true, s') from rfl]
              try simp (disch := first | omega | (simp only [L3] <;> omega)) only [Sall,evalOp,init,binA_s,binE,binI,unE,convE,okNil,builtE,gv,TD.isAgg,resV,↓reduceIte,Nat.reduceEqDiff,reduceCtorEq,Nat.reduceAdd,Nat.reduceMul,Nat.reduceLeDiff,za0,za2,Int.reduceEq,Int.reduceLT,Int.reduceLE,Nat.reduceLT,tiA,tiXA, h8, h1, knc, c3']
              exact ⟨hI2, hn2, hs2, hfr, fun _ => by rw [hni2, hni]⟩
        · have e2 : (now.getD c 0 != (c : Int)) = true := by simpa using c2
          try simp (disch := first | omega | (simp only [L3] <;> omega)) only [Sall,evalOp,init,binA_s,binE,binI,unE,convE,okNil,builtE,gv,TD.isAgg,resV,↓reduceIte,Nat.reduceEqDiff,reduceCtorEq,Nat.reduceAdd,Nat.reduceMul,Nat.reduceLeDiff,za0,za2,Int.reduceEq,Int.reduceLT,Int.reduceLE,Nat.reduceLT,tiA,tiXA, h0, h1, hnc, c1', h2, hni, hget, hnl, e2]
          (repeat refine And.intro (by omega) ?_)
          try simp (disch := first | omega | (simp only [L3] <;> omega)) only [Sall,evalOp,init,binA_s,binE,binI,unE,convE,okNil,builtE,gv,TD.isAgg,resV,↓reduceIte,Nat.reduceEqDiff,reduceCtorEq,Nat.reduceAdd,Nat.reduceMul,Nat.reduceLeDiff,za0,za2,Int.reduceEq,Int.reduceLT,Int.reduceLE,Nat.reduceLT,tiA,tiXA, h0, h1, h2, h3, h4, h5, w64]
          exact ⟨n - (c + 1), by omega, c + 1, rfl, by omega, rfl, hfst.trans (fstF_step c1 c2)⟩
      · have hce : c = n := by omega
        subst hce
        have c1' : decide ((c : Int) < (c : Int)) = false := decide_eq_false (by omega)
        have e3 : ((c : Int) == (c : Int)) = true := beq_self_eq_true _
        have hm : matF c (mtM M) (f + 1) now a = [now] := by
          show (if _ then _ else _) = _
          rw [hfst, fstF_end, if_pos rfl]
        rw [hm, foldE_one]
        try simp (disch := first | omega | (simp only [L3] <;> omega)) only [Sall,evalOp,init,binA_s,binE,binI,unE,convE,okNil,builtE,gv,TD.isAgg,resV,↓reduceIte,Nat.reduceEqDiff,reduceCtorEq,Nat.reduceAdd,Nat.reduceMul,Nat.reduceLeDiff,za0,za2,Int.reduceEq,Int.reduceLT,Int.reduceLE,Nat.reduceLT,tiA,tiXA, h0, h1, hnc, c1', e3, h3, hwc, h2, hni, hnl]
        refine (hC.call s now H' hI (by have := hs _ _ hnc; omega) hs hnow).fin ?_
        rintro H4 ⟨i1, i2, i3, i4⟩
        try simp (disch := first | omega | (simp only [L3] <;> omega)) only [Sall,evalOp,init,binA_s,binE,binI,unE,convE,okNil,builtE,gv,TD.isAgg,resV,↓reduceIte,Nat.reduceEqDiff,reduceCtorEq,Nat.reduceAdd,Nat.reduceMul,Nat.reduceLeDiff,za0,za2,Int.reduceEq,Int.reduceLT,Int.reduceLE,Nat.reduceLT,tiA,tiXA, h0]
        exact ⟨i1, i2, i3, fun i j1 j2 _ => i4 i j1 j2, fun _ => i4 ni b2 (hs _ _ hni)⟩
theorem roundsB_c {σ : Type} {n : Nat} {M : List (List Int)} {mv : Value} {g : FuncId} {caps : List Value} {Inv : Bool → σ → AH → Prop} {step : σ → List Int → Bool × σ} (s : σ) (H : AH) (hC : CallOkB n M mv g caps H.next Inv step) (hI : Inv true s H) (hone : mv.oneCell' = true) :
    ACalls Tryz.prog 86 [.int .i64 n, mv, .func (.func g) #[] caps.toArray] H (fun v H' => v = .bool (foldE step (matF n (mtM M) (n + 1) (freeL n) 0) s).1 ∧ Inv (foldE step (matF n (mtM M) (n + 1) (freeL n) 0) s).1 (foldE step (matF n (mtM M) (n + 1) (freeL n) 0) s).2 H' ∧ H.next ≤ H'.next ∧ Sc H') := by
  refine ACalls.wf (by kernel_rfl) fun hs => za3 [.tmp 6] Tryz.func86 (by kernel_rfl) rfl rfl (Nat.le_of_ble_eq_true rfl) (by kernel_rfl) ?_
  have hn14 := hC.n14
  have hac := zb9 hone
  have hput := putB_c hC H.next (H.next + 3) (H.next + 2) (H.next + 1) (H.next + 4) ⟨by omega, by omega, by omega, by omega, by omega⟩ ⟨by omega, by omega, by omega, by omega⟩ hone (n + 1) (freeL n) 0 s
  have hnow : NowOk n (freeL n) := ⟨zaJ n, fun j hj => by
    have : (freeL (n : Int)).getD j 0 = (j : Int) := by
      unfold freeL
      rw [List.getD_eq_getElem?_getD, List.getElem?_map, List.getElem?_range (by omega)]
      show (if (j : Int) < (n : Int) then (j : Int) else 0) = j
      rw [if_pos (by omega)]
    omega⟩
  have hfl := zaJ (n : Int)
  have hfree := free_c (n : Int) (by omega)
  revert hput hnow hfl hfree
  generalize foldE step (matF n (mtM M) (n + 1) (freeL n) 0) s = R
  generalize freeL (n : Int) = L0
  intro hput hnow hfl hfree
  try simp (disch := first | omega | (simp only [L3] <;> omega)) only [Sall,evalOp,init,binA_s,binE,binI,unE,convE,okNil,builtE,gv,TD.isAgg,resV,↓reduceIte,Nat.reduceEqDiff,reduceCtorEq,Nat.reduceAdd,Nat.reduceMul,Nat.reduceLeDiff,za0,za2,Int.reduceEq,Int.reduceLT,Int.reduceLE,Nat.reduceLT,tiA,tiXA, hone, hac]
  have o1 := (((Ow.refl hs).push ⟨2, true, [.int .i64 n]⟩).push ⟨30, true, [mv]⟩).push ⟨107, true, [.func (.func g) #[] caps.toArray]⟩
  obtain ⟨H1, e1⟩ : ∃ H1, H1 = ((H.push ⟨2, true, [.int .i64 n]⟩).push ⟨30, true, [mv]⟩).push ⟨107, true, [.func (.func g) #[] caps.toArray]⟩ := ⟨_, rfl⟩
  have n1 : H1.next = H.next + 3 := by rw [e1]; rfl
  rw [← e1] at o1 ⊢
  clear e1
  refine (hfree H1).to ?_
  have hseg : seg (ints L0) 0 14 = ints L0 := zgD _ hfl
  refine Holds.mp ?_
  have e22 : H.next + 2 + 2 = H.next + 4 := rfl
  have hmem : ∀ v ∈ [Value.pointer (some ⟨H.next, 0, none⟩), .pointer (some ⟨H.next + 3, 0, none⟩), .pointer (some ⟨H.next + 2, 0, none⟩), .pointer (some ⟨H.next + 1, 0, none⟩), .pointer (some ⟨H.next + 4, 0, none⟩)], v.oneCell' = true := by simp [Value.oneCell']
  try simp (disch := first | omega | (simp only [L3] <;> omega)) only [Sall,evalOp,init,binA_s,binE,binI,unE,convE,okNil,builtE,gv,TD.isAgg,resV,↓reduceIte,Nat.reduceEqDiff,reduceCtorEq,Nat.reduceAdd,Nat.reduceMul,Nat.reduceLeDiff,za0,za2,Int.reduceEq,Int.reduceLT,Int.reduceLE,Nat.reduceLT,tiA,tiXA, hfl, hseg, n1, e22]
  refine ⟨hmem, ?_⟩
  obtain ⟨H2, e2⟩ : ∃ H2, H2 = ((((H1.push ⟨67, true, ints (List.replicate 14 0)⟩).setCells (H.next + 3) (ints L0)).push ⟨82, true, [.nilFunc]⟩).setCells (H.next + 4) [.func (.func 102) #[] #[.pointer (some ⟨H.next, 0, none⟩), .pointer (some ⟨H.next + 3, 0, none⟩), .pointer (some ⟨H.next + 2, 0, none⟩), .pointer (some ⟨H.next + 1, 0, none⟩), .pointer (some ⟨H.next + 4, 0, none⟩)]]) := ⟨_, rfl⟩
  have q0 : ∀ i, i < H.next + 3 → H2.row i = H1.row i := fun i hi => by
    rw [e2]; simp only [AH.setCells_row, AH.push_row, AH.push_next, AH.setCells_next, n1]
    rw [if_neg (by omega), if_neg (by omega), if_neg (by omega), if_neg (by omega)]
  have q1 : H2.row (H.next + 3) = some ⟨67, true, ints L0⟩ := by
    rw [e2]; simp only [AH.setCells_row, AH.push_row, AH.push_next, AH.setCells_next, n1]
    rw [if_neg (by omega), if_neg (by omega), if_true, if_true]; rfl
  have q2 : H2.row (H.next + 4) = some ⟨82, true, [.func (.func 102) #[] #[.pointer (some ⟨H.next, 0, none⟩), .pointer (some ⟨H.next + 3, 0, none⟩), .pointer (some ⟨H.next + 2, 0, none⟩), .pointer (some ⟨H.next + 1, 0, none⟩), .pointer (some ⟨H.next + 4, 0, none⟩)]]⟩ := by
    rw [e2]; simp only [AH.setCells_row, AH.push_row, AH.push_next, AH.setCells_next, n1, e22]
    rfl
  have n2 : H2.next = H.next + 5 := by rw [e2]; simp only [AH.setCells_next, AH.push_next, n1]
  have s2 : Sc H2 := by rw [e2]; exact (((o1.sc.push _).set _ _).push _).set _ _
  rw [← e2]
  clear e2
  have g0 := (o1.rowAt 0 rfl).1
  have g1 : H1.row (H.next + 1) = _ := (o1.rowAt 1 rfl).1
  have g2 : H1.row (H.next + 2) = _ := (o1.rowAt 2 rfl).1
  refine (hput H2 hnow (by omega) (by omega) (hC.low _ _ _ hI fun i hi => by rw [q0 i (by omega), o1.low i hi]) s2 q1 (by rw [q0 _ (by omega)]; exact g0) (by rw [q0 _ (by omega)]; exact g1) (by rw [q0 _ (by omega)]; exact g2) q2).fin ?_
  rintro H3 ⟨i1, i2, i3, i4, i5⟩
  refine Holds.mp ?_
  try simp (disch := first | omega | (simp only [L3] <;> omega)) only [Sall,evalOp,init,binA_s,binE,binI,unE,convE,okNil,builtE,gv,TD.isAgg,resV,↓reduceIte,Nat.reduceEqDiff,reduceCtorEq,Nat.reduceAdd,Nat.reduceMul,Nat.reduceLeDiff,za0,za2,Int.reduceEq,Int.reduceLT,Int.reduceLE,Nat.reduceLT,tiA,tiXA, true_and]
  exact ⟨i1, by omega, i3⟩
end Go.Proofs.YtemgclojolmhbaaGreat.A
end

section
set_option maxRecDepth 100000
set_option maxHeartbeats 2000000
namespace Go.Proofs.YtemgclojolmhbaaGreat.A
open Go Go.Abs Go.RowKit
structure Mx (n mi : Nat) (vs : List Value) (q : Nat → Nat) (H : AH) (mv : Value) (M : List (List Int)) : Prop where
  val : mv = .slice (some ⟨mi, 0, some 1⟩) n n
  row : H.row mi = some ⟨33, true, vs⟩
  vl : vs.length = n
  inn : ∀ a, a < n → vs[a]? = some (.slice (some ⟨q a, 0, some 1⟩) n n)
  rows : ∀ a, a < n → H.row (q a) = some ⟨2, true, ints (M.getD a [])⟩
  ml : M.length = n
  mr : ∀ a, a < n → (M.getD a []).length = n
  inj : ∀ a b, a < n → b < n → a ≠ b → q a ≠ q b
  ne : ∀ a, a < n → q a ≠ mi
theorem Mx.same {n mi : Nat} {vs : List Value} {q : Nat → Nat} {H H' : AH} {mv : Value} {M : List (List Int)} (h : Mx n mi vs q H mv M) (hr : ∀ i r, H.row i = some r → H'.row i = some r) : Mx n mi vs q H' mv M :=
  ⟨h.val, hr _ _ h.row, h.vl, h.inn, fun a ha => hr _ _ (h.rows a ha), h.ml, h.mr, h.inj, h.ne⟩
theorem Mx.set {n mi : Nat} {vs : List Value} {q : Nat → Nat} {H : AH} {mv : Value} {M : List (List Int)} (h : Mx n mi vs q H mv M) {a : Nat} (ha : a < n) {l : List Int} (hl : l.length = n) : Mx n mi vs q (H.setCells (q a) (ints l)) mv (M.set a l) := by
  refine ⟨h.val, by rw [AH.setCells_row, if_neg (Ne.symm (h.ne a ha))]; exact h.row, h.vl, h.inn, fun b hb => ?_, by rw [List.length_set, h.ml], fun b hb => ?_, h.inj, h.ne⟩
  · rw [zcE (by rw [h.ml]; exact ha), AH.setCells_row]
    by_cases e : b = a
    · subst e
      rw [if_pos rfl, if_pos rfl, h.rows b hb]; rfl
    · rw [if_neg (h.inj b a hb ha e), if_neg e, h.rows b hb]
  · rw [zcE (by rw [h.ml]; exact ha)]
    split
    · exact hl
    · exact h.mr b hb
theorem Mx.rd2 {n mi : Nat} {vs : List Value} {q : Nat → Nat} {H : AH} {mv : Value} {M : List (List Int)} (h : Mx n mi vs q H mv M) : Rd2 1 H mv M := by
  refine .inr ⟨mi, 0, some 1, n, _, by rw [h.val, h.ml], h.row, fun j hj => ?_⟩
  have hj : j < n := by rw [← h.ml]; exact hj
  refine ⟨_, n, by rw [Nat.zero_add]; exact h.inn j hj, ?_⟩
  have hf : Fr 1 2 (q j) (q j + 1) H (.slice (some ⟨q j, 0, some 1⟩) n n) n (M.getD j []) := ⟨by rw [h.mr j hj, Nat.mul_one], .inr ⟨q j, Nat.le_refl _, Nat.lt_succ_self _, rfl, h.rows j hj⟩⟩
  exact hf.rd
theorem Mx.of_fr2 {n lo hi : Nat} {H : AH} {mv : Value} {M : List (List Int)} (hn : 0 < n) (hl : M.length = n) (hr : ∀ a, a < n → (M.getD a []).length = n) (h : Fr2 1 33 2 lo hi H mv M) :
    ∃ mi vs q, Mx n mi vs q H mv M ∧ lo ≤ mi ∧ mi < hi ∧ ∀ a, a < n → lo ≤ q a ∧ q a < hi := by
  rcases h with ⟨h1, _⟩ | ⟨i, vs, b, h1, h2, h3, h4, h5, h6, h7, h8, h9, h10⟩
  · rw [h1] at hl; simp at hl; omega
  rw [hl] at h3 h5 h7 h8 h10
  have hq : ∀ a, a < n → ∃ z, b a ≤ z ∧ z < b (a + 1) ∧ vs[a]? = some (.slice (some ⟨z, 0, some 1⟩) n n) ∧ H.row z = some ⟨2, true, ints (M.getD a [])⟩ := by
    intro a ha
    obtain ⟨x, m, hx, hf⟩ := h10 a ha
    obtain ⟨f1, f2⟩ := hf
    rw [hr a ha] at f1
    rcases f2 with ⟨f3, _⟩ | ⟨z, z1, z2, z3, z4⟩
    · omega
    · have hm : m = n := by omega
      subst hm
      exact ⟨z, z1, z2, by rw [hx, z3], z4⟩
  have hmono : ∀ a c, a ≤ c → b a ≤ b c := fun a c h => zaX h9 h
  refine ⟨i, vs, fun a => if h : a < n then (hq a h).choose else 0, ⟨h3, h4, h5, fun a ha => ?_, fun a ha => ?_, hl, hr, fun a c ha hc hne => ?_, fun a ha => ?_⟩, h1, h2, fun a ha => ?_⟩
  · simp only [dif_pos ha]; exact (hq a ha).choose_spec.2.2.1
  · simp only [dif_pos ha]; exact (hq a ha).choose_spec.2.2.2
  · simp only [dif_pos ha, dif_pos hc]
    have s1 := (hq a ha).choose_spec
    have s2 := (hq c hc).choose_spec
    generalize (hq a ha).choose = za at s1
    generalize (hq c hc).choose = zc at s2
    rcases Nat.lt_or_gt_of_ne hne with h | h
    · have := hmono (a + 1) c h
      omega
    · have := hmono (c + 1) a h
      omega
  · simp only [dif_pos ha]
    have s1 := (hq a ha).choose_spec
    generalize (hq a ha).choose = za at s1
    have m1 := hmono 0 a (Nat.zero_le _)
    have m2 := hmono (a + 1) n ha
    omega
  · simp only [dif_pos ha]
    have s1 := (hq a ha).choose_spec
    generalize (hq a ha).choose = za at s1
    have m1 := hmono 0 a (Nat.zero_le _)
    have m2 := hmono (a + 1) n ha
    omega
theorem mark_c (n mi : Nat) (vs : List Value) (q : Nat → Nat) (mv : Value) (M : List (List Int)) (r : List Int) (by' : Int) (H : AH) (hn : n ≤ 14) (hM : Mx n mi vs q H mv M) (hnow : NowOk n r) (hb : -1 ≤ by' ∧ by' ≤ 1) (hv : ∀ a b, a < n → b < n → -100 ≤ (M.getD a []).getD b 0 ∧ (M.getD a []).getD b 0 ≤ 100) :
    ACalls Tryz.prog 88 [mv, .agg (ints r).toArray, .int .i64 by'] H (fun _ H' => H.next ≤ H'.next ∧ Sc H' ∧ (∀ i, i < H.next → (∀ a, a < n → i ≠ q a) → H'.row i = H.row i) ∧ Mx n mi vs q H' mv (mrkM n M r by' n)) := by
  refine ACalls.wf (by kernel_rfl) fun hs => za3 [] Tryz.func88 (by kernel_rfl) rfl rfl (Nat.le_of_ble_eq_true rfl) (by kernel_rfl) ?_
  have hr14 := hnow.1
  have ev := hM.val
  have hs14 : seg (ints r) 0 14 = ints r := by
    unfold seg
    rw [List.drop_zero, List.take_of_length_le (by rw [za1, hr14]; omega)]
  try simp (disch := first | omega | (simp only [L3] <;> omega)) only [Sall,evalOp,init,binA_s,binE,binI,unE,convE,okNil,builtE,gv,TD.isAgg,resV,↓reduceIte,Nat.reduceEqDiff,reduceCtorEq,Nat.reduceAdd,Nat.reduceMul,Nat.reduceLeDiff,za0,za2,Int.reduceEq,Int.reduceLT,Int.reduceLE,Nat.reduceLT,tiA,tiXA, hr14, hs14, builtE, ev]
  obtain ⟨H1, e1⟩ : ∃ H1, H1 = H.push ⟨67, true, ints r⟩ := ⟨_, rfl⟩
  have n1 : H1.next = H.next + 1 := by rw [e1]; rfl
  have r1 : H1.row H.next = some ⟨67, true, ints r⟩ := by rw [e1, AH.push_row, if_pos rfl]
  have o1 : ∀ i, i < H.next → H1.row i = H.row i := fun i hi => by rw [e1, AH.push_row, if_neg (by omega)]
  have s1 : Sc H1 := by rw [e1]; exact (show Sc H from hs).push _
  have hM1 : Mx n mi vs q H1 mv M := hM.same fun i r h => by rw [o1 i (hs i r h)]; exact h
  rw [← e1]
  clear e1
  have hqH : ∀ a, a < n → q a < H.next := fun a ha => hs _ _ (hM.rows a ha)
  refine za5 (fun m t H' => ∃ a : Nat, m = n - a ∧ a ≤ n ∧ t 9 = .int .i64 a ∧ t 8 = .int .i64 n ∧ t 0 = mv ∧ t 4 = .pointer (some ⟨H.next, 0, none⟩) ∧ t 2 = .int .i64 by' ∧ H'.next = H1.next ∧ Sc H' ∧ (∀ i, i < H1.next → (∀ a, a < n → i ≠ q a) → H'.row i = H1.row i) ∧ Mx n mi vs q H' mv (mrkM n M r by' a)) n ?_ ?_
  · refine ⟨0, by omega, by omega, ?_⟩
    try simp (disch := first | omega | (simp only [L3] <;> omega)) only [Sall,evalOp,init,binA_s,binE,binI,unE,convE,okNil,builtE,gv,TD.isAgg,resV,↓reduceIte,Nat.reduceEqDiff,reduceCtorEq,Nat.reduceAdd,Nat.reduceMul,Nat.reduceLeDiff,za0,za2,Int.reduceEq,Int.reduceLT,Int.reduceLE,Nat.reduceLT,tiA,tiXA, Int.natCast_zero, ev]
    rw [mrkM_zero hM.ml]
    exact ⟨s1, by rw [← ev]; exact hM1⟩
  · rintro m t H' ⟨a, hm, ha, h9, h8, h0, h4, h2, hn', hs', hrow, hM'⟩
    try simp (disch := first | omega | (simp only [L3] <;> omega)) only [Sall,evalOp,init,binA_s,binE,binI,unE,convE,okNil,builtE,gv,TD.isAgg,resV,↓reduceIte,Nat.reduceEqDiff,reduceCtorEq,Nat.reduceAdd,Nat.reduceMul,Nat.reduceLeDiff,za0,za2,Int.reduceEq,Int.reduceLT,Int.reduceLE,Nat.reduceLT,tiA,tiXA, h9, h8]
    refine za4 (fun hh => ?_) (fun hh => ?_)
    · have han : a < n := by omega
      obtain ⟨g1, g2⟩ := hnow.2 a han
      obtain ⟨b, eb⟩ : ∃ b : Nat, r.getD a 0 = b := ⟨(r.getD a 0).toNat, by omega⟩
      rw [eb] at g1 g2
      have ka : (ints r)[a]? = some (.int .i64 (b : Int)) := by rw [← eb]; exact ints_get? r a (by omega)
      have rr : H'.row H.next = some ⟨67, true, ints r⟩ := by rw [hrow _ (by omega) (fun a ha => by have := hqH a ha; omega)]; exact r1
      have mrow := hM'.row
      have mval := hM'.val
      have mi1 := hM'.inn a han
      have mr1 := hM'.rows a han
      have ml1 := hM'.mr a han
      have hsc := mrkM_succ (M := M) r by' han
      rw [eb, Int.toNat_natCast] at hsc
      have hrw : (mrkM n M r by' a).getD a [] = M.getD a [] := by rw [zd7 _ _ _ _ _ han, if_neg (Nat.lt_irrefl _)]
      have hvb := hv a b han (by omega)
      have kb : (ints ((mrkM n M r by' a).getD a []))[b]? = some (.int .i64 ((M.getD a []).getD b 0)) := by rw [ints_get? _ _ (by rw [ml1]; omega), hrw]
      have hset := hM'.set han (l := ((mrkM n M r by' a).getD a []).set b (((mrkM n M r by' a).getD a []).getD b 0 + by')) (by rw [List.length_set, ml1])
      rw [hsc] at hset
      rw [hrw] at hset kb ml1 mr1
      have wv : IntKind.i64.wrap ((M.getD a []).getD b 0 + by') = (M.getD a []).getD b 0 + by' := w64 ⟨by omega, by omega⟩
      have wa : IntKind.i64.wrap ((a : Int) + 1) = ((a + 1 : Nat) : Int) := w64 ⟨by omega, by omega⟩
      have ga : (0 : Int) ≤ (a : Int) := by omega
      have ga2 : (a : Int) < (n : Int) := hh
      have ga3 : (a : Int) < ((14 : Nat) : Int) := by omega
      have gb : (0 : Int) ≤ (b : Int) := by omega
      try simp (disch := first | omega | (simp only [L3] <;> omega)) only [Sall,evalOp,init,binA_s,binE,binI,unE,convE,okNil,builtE,gv,TD.isAgg,resV,↓reduceIte,Nat.reduceEqDiff,reduceCtorEq,Nat.reduceAdd,Nat.reduceMul,Nat.reduceLeDiff,za0,za2,Int.reduceEq,Int.reduceLT,Int.reduceLE,Nat.reduceLT,tiA,tiXA, h9]
      refine zb2 (by kernel_rfl) (by kernel_rfl) ?_
      try simp (disch := first | omega | (simp only [L3] <;> omega)) only [Sall,evalOp,init,binA_s,binE,binI,unE,convE,okNil,builtE,gv,TD.isAgg,resV,↓reduceIte,Nat.reduceEqDiff,reduceCtorEq,Nat.reduceAdd,Nat.reduceMul,Nat.reduceLeDiff,za0,za2,Int.reduceEq,Int.reduceLT,Int.reduceLE,Nat.reduceLT,tiA,tiXA, h9, h8, h0, h4, h2, mval, mrow, mi1, mr1, rr, ka, kb, hr14, wv, wa, ga, ga2, ga3, gb, g2, zaR]
      refine ⟨by rw [ml1]; omega, .inr (.inl (by kernel_rfl)), n - (a + 1), by omega, a + 1, rfl, by omega, rfl, hn', hs'.set _ _, fun i hi hq => ?_, by rw [← mval]; exact hset⟩
      rw [if_neg (hq a han)]
      exact hrow i hi hq
    · have hae : a = n := by omega
      rw [hae] at hM'
      try simp (disch := first | omega | (simp only [L3] <;> omega)) only [Sall,evalOp,init,binA_s,binE,binI,unE,convE,okNil,builtE,gv,TD.isAgg,resV,↓reduceIte,Nat.reduceEqDiff,reduceCtorEq,Nat.reduceAdd,Nat.reduceMul,Nat.reduceLeDiff,za0,za2,Int.reduceEq,Int.reduceLT,Int.reduceLE,Nat.reduceLT,tiA,tiXA, true_and]
      exact ⟨by omega, hs', fun i hi hq => by rw [hrow i (by omega) hq, o1 i hi], hM'⟩
end Go.Proofs.YtemgclojolmhbaaGreat.A
end

section
set_option maxRecDepth 100000
set_option maxHeartbeats 4000000
namespace Go.Proofs.YtemgclojolmhbaaGreat.A
open Go Go.Abs Go.RowKit
def PO (n : Nat) (q : Nat → Nat) (H : AH) (pv : Value) (P : List (List Int)) : Prop := ∀ H', (∀ i r, H.row i = some r → (∀ a, a < n → i ≠ q a) → H'.row i = some r) → Rd2 1 H' pv P
theorem PO.same {n : Nat} {q : Nat → Nat} {H H' : AH} {pv : Value} {P : List (List Int)} (h : PO n q H pv P) (hr : ∀ i r, H.row i = some r → (∀ a, a < n → i ≠ q a) → H'.row i = some r) : PO n q H' pv P :=
  fun H2 h2 => h H2 fun i r h3 h4 => h2 i r (hr i r h3 h4) h4
theorem PO.rd2 {n : Nat} {q : Nat → Nat} {H : AH} {pv : Value} {P : List (List Int)} (h : PO n q H pv P) : Rd2 1 H pv P := h H fun _ _ h _ => h
def fitS (n : Nat) (P : List (List Int)) (d : Nat) (D : List (List Int)) (r : List Int) : Option (List (List Int)) := if fitB n ((rowsP n P).getD D.length []) r = true then (fitI n (rowsP n P) d (D ++ [r])).map (r :: ·) else none
def FitK (n : Nat) (P : List (List Int)) (pv : Value) (d : Nat) : Prop := ∀ (D : List (List Int)) (mi : Nat) (vs : List Value) (q : Nat → Nat) (mv : Value) (H : AH), D.length + d + 1 = n → PO n q H pv P → Mx n mi vs q H mv (cntD n D) →
  ACalls Tryz.prog 61 [.int .i64 n, pv, mv, .int .i64 D.length] H (fun v H' => ∃ w, v = .tuple #[w, .bool (fitI n (rowsP n P) d D).isSome] ∧ Up H.next H H' ∧ Sc H' ∧ Fr 14 67 H.next H'.next H' w ((fitI n (rowsP n P) d D).getD []).length ((fitI n (rowsP n P) d D).getD []).flatten)
theorem zgS (n : Nat) (rows : List (List Int)) : ∀ d D X, fitI n rows d D = some X → X.length = d
  | 0, D, X, e => by
    have : [] = X := by simpa [fitI] using e
    subst this; rfl
  | d + 1, D, X, e => by
    unfold fitI at e
    obtain ⟨r, _, er⟩ := List.exists_of_findSome?_eq_some e
    split at er
    · cases h : fitI n rows d (D ++ [r]) with
      | none => rw [h] at er; cases er
      | some Y =>
        rw [h] at er
        have := zgS n rows d _ Y h
        have e2 : r :: Y = X := by simpa using er
        rw [← e2, List.length_cons, this]
    · cases er
theorem fitB_bad {n : Nat} {row z : List Int} {a : Nat} (ha : a < n) (h : ¬ row.getD a 0 + row.getD (z.getD a 0).toNat 0 = 1) : fitB n row z = false := by
  unfold fitB
  rw [List.all_eq_false]
  exact ⟨a, List.mem_range.2 ha, by simpa using h⟩
theorem fitB_good {n : Nat} {row z : List Int} (h : ∀ a, a < n → row.getD a 0 + row.getD (z.getD a 0).toNat 0 = 1) : fitB n row z = true := by
  unfold fitB
  rw [List.all_eq_true]
  exact fun a ha => decide_eq_true (h a (List.mem_range.1 ha))
theorem fitting1_c (n : Nat) (hn : 2 ≤ n ∧ n ≤ 6) (P : List (List Int)) (hP : patB n P = true) (pv : Value) (hpo : pv.oneCell' = true) (d : Nat) (hIH : FitK n P pv d) (D : List (List Int)) (hD : D.length + d + 2 = n)
    (mi : Nat) (vs : List Value) (q : Nat → Nat) (mv : Value) (B : Nat) (hmi : mi < B) (hq : ∀ a, a < n → q a < B) (r : List Int) (hr : NowOk n r) (H : AH) (hBn : B + 5 ≤ H.next) (hPO : PO n q H pv P) (hM : Mx n mi vs q H mv (cntD n D))
    (g0 : H.row B = some ⟨2, true, [.int .i64 n]⟩) (g1 : H.row (B + 1) = some ⟨30, true, [pv]⟩) (g2 : H.row (B + 2) = some ⟨30, true, [mv]⟩) (g3 : H.row (B + 3) = some ⟨2, true, [.int .i64 D.length]⟩) (g4 : H.row (B + 4) = some ⟨24, true, [.slice none 0 0]⟩) :
    ACalls Tryz.prog 87 [.agg (ints r).toArray, .pointer (some ⟨B, 0, none⟩), .pointer (some ⟨B + 1, 0, none⟩), .pointer (some ⟨B + 3, 0, none⟩), .pointer (some ⟨B + 2, 0, none⟩), .pointer (some ⟨B + 4, 0, none⟩)] H (fun v H' => v = .bool (fitS n P d D r).isNone ∧ H.next ≤ H'.next ∧ Sc H' ∧ (∀ i, i < H.next → i ≠ B + 4 → H'.row i = H.row i) ∧ (fitS n P d D r = none → H'.row (B + 4) = H.row (B + 4)) ∧
      ∀ X, fitS n P d D r = some X → ∃ w, H'.row (B + 4) = some ⟨24, true, [w]⟩ ∧ Fr 14 67 H.next H'.next H' w X.length X.flatten) := by
  refine ACalls.wf (by kernel_rfl) fun hs => za3 [.tmp 7] Tryz.func87 (by kernel_rfl) rfl rfl (Nat.le_of_ble_eq_true rfl) (by kernel_rfl) ?_
  obtain ⟨hPl, hPr⟩ := zgK hP
  have hr14 := hr.1
  have hs14 : seg (ints r) 0 14 = ints r := by
    unfold seg
    rw [List.drop_zero, List.take_of_length_le (by rw [za1, hr14]; omega)]
  obtain ⟨H1, e1⟩ : ∃ H1, H1 = H.push ⟨67, true, ints r⟩ := ⟨_, rfl⟩
  have n1 : H1.next = H.next + 1 := by rw [e1]; rfl
  have r1 : H1.row H.next = some ⟨67, true, ints r⟩ := by rw [e1, AH.push_row, if_pos rfl]
  have o1 : ∀ i, i < H.next → H1.row i = H.row i := fun i hi => by rw [e1, AH.push_row, if_neg (by omega)]
  have s1 : Sc H1 := by rw [e1]; exact (show Sc H from hs).push _
  have hold : ∀ i r, H.row i = some r → H1.row i = some r := fun i r h => by rw [o1 i (hs i r h)]; exact h
  have hM1 := hM.same hold
  have hPO1 : PO n q H1 pv P := hPO.same fun i r h _ => hold i r h
  have k0 := hold _ _ g0
  have k1 := hold _ _ g1
  have k2 := hold _ _ g2
  have k3 := hold _ _ g3
  have k4 := hold _ _ g4
  have hmo : mv.oneCell' = true := by rw [hM.val]; rfl
  have hkn : D.length < n - 1 := by omega
  have hrow : ∀ a, a < n → ((rowsP n P).getD D.length []).getD a 0 = (P.getD a []).getD D.length 0 := fun a ha => zfF n P hkn ha
  have neB : ¬ B = H.next := by omega
  try simp (disch := first | omega | (simp only [L3] <;> omega)) only [Sall,evalOp,init,binA_s,binE,binI,unE,convE,okNil,builtE,gv,TD.isAgg,resV,↓reduceIte,Nat.reduceEqDiff,reduceCtorEq,Nat.reduceAdd,Nat.reduceMul,Nat.reduceLeDiff,za0,za2,Int.reduceEq,Int.reduceLT,Int.reduceLE,Nat.reduceLT,tiA,tiXA, hr14, hs14, g0, neB]
  rw [← e1]
  refine za5 (fun m t H' => H' = H1 ∧ ∃ a : Nat, m = n - a ∧ a ≤ n ∧ t 12 = .int .i64 a ∧ t 11 = .int .i64 n ∧ t 1 = .pointer (some ⟨B, 0, none⟩) ∧ t 2 = .pointer (some ⟨B + 1, 0, none⟩) ∧ t 3 = .pointer (some ⟨B + 3, 0, none⟩) ∧ t 4 = .pointer (some ⟨B + 2, 0, none⟩) ∧ t 5 = .pointer (some ⟨B + 4, 0, none⟩) ∧ t 6 = .pointer (some ⟨H.next, 0, none⟩) ∧ ∀ b, b < a → (P.getD b []).getD D.length 0 + (P.getD (r.getD b 0).toNat []).getD D.length 0 = 1) n ?_ ?_
  · refine ⟨rfl, 0, by omega, by omega, ?_⟩
    try simp (disch := first | omega | (simp only [L3] <;> omega)) only [Sall,evalOp,init,binA_s,binE,binI,unE,convE,okNil,builtE,gv,TD.isAgg,resV,↓reduceIte,Nat.reduceEqDiff,reduceCtorEq,Nat.reduceAdd,Nat.reduceMul,Nat.reduceLeDiff,za0,za2,Int.reduceEq,Int.reduceLT,Int.reduceLE,Nat.reduceLT,tiA,tiXA, Int.natCast_zero, Nat.not_lt_zero, false_implies]
  · rintro m t H' ⟨rfl, a, hm, ha, h12, h11, h1, h2, h3, h4, h5, h6, hall⟩
    try simp (disch := first | omega | (simp only [L3] <;> omega)) only [Sall,evalOp,init,binA_s,binE,binI,unE,convE,okNil,builtE,gv,TD.isAgg,resV,↓reduceIte,Nat.reduceEqDiff,reduceCtorEq,Nat.reduceAdd,Nat.reduceMul,Nat.reduceLeDiff,za0,za2,Int.reduceEq,Int.reduceLT,Int.reduceLE,Nat.reduceLT,tiA,tiXA, h12, h11]
    refine za4 (fun hh => ?_) (fun hh => ?_)
    · have han : a < n := by omega
      obtain ⟨c1, c2⟩ := hr.2 a han
      obtain ⟨b, eb⟩ : ∃ b : Nat, r.getD a 0 = b := ⟨(r.getD a 0).toNat, by omega⟩
      rw [eb] at c1 c2
      have hbn : b < n := by omega
      have ka : (ints r)[a]? = some (.int .i64 (b : Int)) := by rw [← eb]; exact ints_get? r a (by omega)
      obtain ⟨xi, xo, xu, xc, xr, y, my, ex, x1, x2, x3, x4⟩ := hPO1.rd2.get (j := a) (by omega)
      obtain ⟨wi, wo, wu, wc, wr, yw, mw, ew, w1, w2, w3, w4⟩ := hPO1.rd2.get (j := b) (by omega)
      have hmy := x3.lenK1
      rw [(hPr a han).1] at hmy
      have hmy := hmy.symm
      subst hmy
      have hmw := w3.lenK1
      rw [(hPr b hbn).1] at hmw
      have hmw := hmw.symm
      subst hmw
      rw [ex] at ew
      simp only [Value.slice.injEq, Option.some.injEq, Addr.mk.injEq] at ew
      obtain ⟨⟨rfl, rfl, rfl⟩, _, rfl⟩ := ew
      rw [x1] at w1
      cases w1
      obtain ⟨zi, zo, zu, zc, zr, ez, z1, z2, z3, _⟩ := x3.get (by omega)
      obtain ⟨p1i, po, pu, pc, pr, ep, p1, p2, p3, _⟩ := w3.get (by omega)
      have z4 := z3 D.length (by omega)
      have p4 := p3 D.length (by omega)
      subst ez
      subst ep
      have hva := (hPr a han).2 D.length hkn
      have hvb := (hPr b hbn).2 D.length hkn
      have hbad : ¬ (P.getD a []).getD D.length 0 + (P.getD b []).getD D.length 0 = 1 → fitS n P d D r = none := fun h => by
        unfold fitS
        rw [fitB_bad han (by rw [hrow a han, eb, Int.toNat_natCast, hrow b hbn]; exact h), if_neg (by simp)]
      have hnx : (P.getD a []).getD D.length 0 + (P.getD b []).getD D.length 0 = 1 → ∀ c, c < a + 1 → (P.getD c []).getD D.length 0 + (P.getD (r.getD c 0).toNat []).getD D.length 0 = 1 := fun h c hc => by
        by_cases e : c = a
        · rw [e, eb, Int.toNat_natCast]; exact h
        · exact hall c (by omega)
      generalize (P.getD a []).getD D.length 0 = va at z4 hva hbad hnx
      generalize (P.getD b []).getD D.length 0 = vb at p4 hvb hbad hnx
      have ga : (0 : Int) ≤ (a : Int) := by omega
      have ga2 : (a : Int) < (P.length : Int) := by omega
      have ga3 : (a : Int) < ((14 : Nat) : Int) := by omega
      have gb : (0 : Int) ≤ (b : Int) := by omega
      have gb2 : (b : Int) < (P.length : Int) := by omega
      have gk : (0 : Int) ≤ (D.length : Int) := by omega
      have gk2 : (D.length : Int) < ((n - 1 : Nat) : Int) := by omega
      have wa : IntKind.i64.wrap ((a : Int) + 1) = ((a + 1 : Nat) : Int) := w64 ⟨by omega, by omega⟩
      by_cases hv : va = vb
      · have d1 : (va == vb) = true := by rw [hv]; exact beq_self_eq_true _
        have hno := hbad (by omega)
        try simp (disch := first | omega | (simp only [L3] <;> omega)) only [Sall,evalOp,init,binA_s,binE,binI,unE,convE,okNil,builtE,gv,TD.isAgg,resV,↓reduceIte,Nat.reduceEqDiff,reduceCtorEq,Nat.reduceAdd,Nat.reduceMul,Nat.reduceLeDiff,za0,za2,Int.reduceEq,Int.reduceLT,Int.reduceLE,Nat.reduceLT,tiA,tiXA, h12]
        refine zb2 (by kernel_rfl) (by kernel_rfl) ?_
        try simp (disch := first | omega | (simp only [L3] <;> omega)) only [Sall,evalOp,init,binA_s,binE,binI,unE,convE,okNil,builtE,gv,TD.isAgg,resV,↓reduceIte,Nat.reduceEqDiff,reduceCtorEq,Nat.reduceAdd,Nat.reduceMul,Nat.reduceLeDiff,za0,za2,Int.reduceEq,Int.reduceLT,Int.reduceLE,Nat.reduceLT,tiA,tiXA, h12, h11, h1, h2, h3, h4, h5, h6, k1, k3, r1, ex, x1, x2, x4, w2, w4, z1, z4, p1, p4, ka, hr14, ga, ga2, ga3, gb, gb2, gk, gk2, d1]
        rw [hno]
        exact ⟨rfl, by omega, s1, fun i hi _ => o1 i hi, fun _ => o1 _ (by omega), fun X h => by cases h⟩
      · have d1 : (va == vb) = false := beq_eq_false_iff_ne.2 hv
        try simp (disch := first | omega | (simp only [L3] <;> omega)) only [Sall,evalOp,init,binA_s,binE,binI,unE,convE,okNil,builtE,gv,TD.isAgg,resV,↓reduceIte,Nat.reduceEqDiff,reduceCtorEq,Nat.reduceAdd,Nat.reduceMul,Nat.reduceLeDiff,za0,za2,Int.reduceEq,Int.reduceLT,Int.reduceLE,Nat.reduceLT,tiA,tiXA, h12]
        refine zb2 (by kernel_rfl) (by kernel_rfl) ?_
        try simp (disch := first | omega | (simp only [L3] <;> omega)) only [Sall,evalOp,init,binA_s,binE,binI,unE,convE,okNil,builtE,gv,TD.isAgg,resV,↓reduceIte,Nat.reduceEqDiff,reduceCtorEq,Nat.reduceAdd,Nat.reduceMul,Nat.reduceLeDiff,za0,za2,Int.reduceEq,Int.reduceLT,Int.reduceLE,Nat.reduceLT,tiA,tiXA, h12, h11, h1, h2, h3, h4, h5, h6, k1, k3, r1, ex, x1, x2, x4, w2, w4, z1, z4, p1, p4, ka, hr14, ga, ga2, ga3, gb, gb2, gk, gk2, d1, wa]
        exact ⟨n - (a + 1), by omega, a + 1, rfl, by omega, rfl, hnx (by omega)⟩
    · have hae : a = n := by omega
      rw [hae] at hall
      have hfb : fitB n ((rowsP n P).getD D.length []) r = true := fitB_good fun c hc => by
        rw [hrow c hc, hrow _ (by have := hr.2 c hc; omega)]; exact hall c hc
      have hfS : fitS n P d D r = (fitI n (rowsP n P) d (D ++ [r])).map (r :: ·) := by unfold fitS; rw [if_pos hfb]
      rw [hfS]
      have hcb : ∀ D' : List (List Int), D'.length ≤ 6 → ∀ a b, a < n → b < n → -100 ≤ ((cntD n D').getD a []).getD b 0 ∧ ((cntD n D').getD a []).getD b 0 ≤ 100 := fun D' hD' a b ha hb => by
        rw [zhB n D' ha hb]; have := cntN_le D' a b; omega
      try simp (disch := first | omega | (simp only [L3] <;> omega)) only [Sall,evalOp,init,binA_s,binE,binI,unE,convE,okNil,builtE,gv,TD.isAgg,resV,↓reduceIte,Nat.reduceEqDiff,reduceCtorEq,Nat.reduceAdd,Nat.reduceMul,Nat.reduceLeDiff,za0,za2,Int.reduceEq,Int.reduceLT,Int.reduceLE,Nat.reduceLT,tiA,tiXA, h11, h1, h2, h3, h4, h5, h6, k2, r1, hmo, hr14, hs14]
      refine ACalls.mono (mark_c n mi vs q mv (cntD n D) r 1 H' (by omega) hM1 hr (by omega) (hcb D (by omega))) ?_
      rintro u2 H2 ⟨n2, s2, f2, m2⟩
      rw [mrk_in hr.2] at m2
      refine Holds.mp ?_
      have hold2 : ∀ i r, H'.row i = some r → (∀ a, a < n → i ≠ q a) → H2.row i = some r := fun i r h hq' => by rw [f2 i (s1 i r h) hq']; exact h
      have hBq : ∀ i, B ≤ i → ∀ a, a < n → i ≠ q a := fun i hi a ha => by have := hq a ha; omega
      have j0 := hold2 _ _ k0 (hBq _ (by omega))
      have j1 := hold2 _ _ k1 (hBq _ (by omega))
      have j2 := hold2 _ _ k2 (hBq _ (by omega))
      have j3 := hold2 _ _ k3 (hBq _ (by omega))
      have j4 := hold2 _ _ k4 (hBq _ (by omega))
      have j5 := hold2 _ _ r1 (hBq _ (by omega))
      have hPO2 : PO n q H2 pv P := hPO1.same hold2
      have wk : IntKind.i64.wrap ((D.length : Int) + 1) = (((D ++ [r]).length : Nat) : Int) := by rw [List.length_append, List.length_singleton]; exact w64 ⟨by omega, by omega⟩
      have hih := hIH (D ++ [r]) mi vs q mv H2 (by rw [List.length_append, List.length_singleton]; omega) hPO2 m2
      have hlen2 : (D ++ [r]).length ≤ 6 := by rw [List.length_append, List.length_singleton]; omega
      generalize (D ++ [r]).length = k' at wk hih hlen2
      have hcb2 := hcb (D ++ [r])
      have hmo2 := mrk_out (D := D) hr.2
      generalize eX : fitI n (rowsP n P) d (D ++ [r]) = R at hih ⊢
      try simp (disch := first | omega | (simp only [L3] <;> omega)) only [Sall,evalOp,init,binA_s,binE,binI,unE,convE,okNil,builtE,gv,TD.isAgg,resV,↓reduceIte,Nat.reduceEqDiff,reduceCtorEq,Nat.reduceAdd,Nat.reduceMul,Nat.reduceLeDiff,za0,za2,Int.reduceEq,Int.reduceLT,Int.reduceLE,Nat.reduceLT,tiA,tiXA, h11, h1, h2, h3, h4, h5, h6, j0, j1, j2, j3, hmo, hpo, wk]
      refine ACalls.mono hih ?_
      rintro v3 H3 ⟨w, ev3, up3, s3, fr3⟩
      have hw := fr3.rd.one
      have hold3 : ∀ i r, H2.row i = some r → H3.row i = some r := fun i r h => by rw [up3.row i (s2 i r h)]; exact h
      have m3 := m2.same hold3
      have i2 := hold3 _ _ j2
      have i4 := hold3 _ _ j4
      have i5 := hold3 _ _ j5
      refine Holds.mp ?_
      try simp (disch := first | omega | (simp only [L3] <;> omega)) only [Sall,evalOp,init,binA_s,binE,binI,unE,convE,okNil,builtE,gv,TD.isAgg,resV,↓reduceIte,Nat.reduceEqDiff,reduceCtorEq,Nat.reduceAdd,Nat.reduceMul,Nat.reduceLeDiff,za0,za2,Int.reduceEq,Int.reduceLT,Int.reduceLE,Nat.reduceLT,tiA,tiXA, ev3, hw, h11, h1, h2, h3, h4, h5, h6, i2, i5, hmo, hr14, hs14]
      refine ACalls.mono (mark_c n mi vs q mv (cntD n (D ++ [r])) r (-1) H3 (by omega) m3 hr (by omega) (hcb2 (by rw [List.length_append, List.length_singleton]; omega))) ?_
      rintro u4 H4 ⟨n4, s4, f4, m4⟩
      rw [hmo2] at m4
      have hold4 : ∀ i r, H3.row i = some r → (∀ a, a < n → i ≠ q a) → H4.row i = some r := fun i r h hq' => by rw [f4 i (s3 i r h) hq']; exact h
      have hback : ∀ i, i < H'.next → H4.row i = H'.row i := by
        intro i hi
        by_cases e : ∃ a, a < n ∧ i = q a
        · obtain ⟨a, ha, rfl⟩ := e
          rw [m4.rows a ha, hM1.rows a ha]
        · have hq' : ∀ a, a < n → i ≠ q a := fun a ha h => e ⟨a, ha, h⟩
          rw [f4 i (by have := up3.next; omega) hq', up3.row i (by omega), f2 i hi hq']
      have l4 := hold4 _ _ i4 (hBq _ (by omega))
      have l5 := hold4 _ _ i5 (hBq _ (by omega))
      have hn4 : H2.next ≤ H3.next := up3.next
      refine Holds.mp ?_
      cases R with
      | none =>
        try simp (disch := first | omega | (simp only [L3] <;> omega)) only [Sall,evalOp,init,binA_s,binE,binI,unE,convE,okNil,builtE,gv,TD.isAgg,resV,↓reduceIte,Nat.reduceEqDiff,reduceCtorEq,Nat.reduceAdd,Nat.reduceMul,Nat.reduceLeDiff,za0,za2,Int.reduceEq,Int.reduceLT,Int.reduceLE,Nat.reduceLT,tiA,tiXA, h5, Option.isSome_none, Bool.not_false]
        exact ⟨rfl, by omega, s4, fun i hi _ => by rw [hback i (by omega), o1 i hi], fun _ => by rw [hback _ (by omega), o1 _ (by omega)], fun X h => by cases h⟩
      | some X =>
        have z14 : zeros 1 (ints (List.replicate 14 0)) = ints (List.replicate 14 0) := by simp [zeros]
        have hsp : splice (ints (List.replicate 14 0)) 0 (ints r) = ints r := by
          unfold splice
          rw [List.take_zero, List.nil_append, List.drop_eq_nil_of_le (by simp [za1, hr14]), List.append_nil]
        have h14 : 14 ≤ (ints (List.replicate 14 0)).length := by simp [ints]
        have fr3 : Fr 14 67 H2.next H3.next H3 w X.length X.flatten := fr3
        have fr4 : Fr 14 67 H2.next H3.next H4 w X.length X.flatten := fr3.same fun i i1 i2' => f4 i i2' (hBq i (by omega))
        have nB : ¬ B + 4 = H4.next := by omega
        have fin : ∀ H5 w', H4.next ≤ H5.next → Sc H5 → (∀ i, i < H4.next → H5.row i = H4.row i) → Fr 14 67 H4.next H5.next H5 w' (X.length + 1) (r ++ X.flatten) →
            H.next ≤ H5.next ∧ Sc (H5.setCells (B + 4) [w']) ∧ (∀ i, i < H.next → ¬ i = B + 4 → (H5.setCells (B + 4) [w']).row i = H.row i) ∧ Fr 14 67 H.next H5.next (H5.setCells (B + 4) [w']) w' (X.length + 1) (r ++ X.flatten) := by
          intro H5 w' q1 q2 q3 q4
          refine ⟨by omega, q2.set _ _, fun i hi hne => ?_, ?_⟩
          · rw [AH.setCells_row, if_neg hne, q3 i (by omega), hback i (by omega), o1 i hi]
          · exact (q4.same fun i j1 j2 => by rw [AH.setCells_row, if_neg (by omega)]).wide (by omega) (Nat.le_refl _)
        have o5 := (Ow.refl s4).pushSl (k := 14) (n := 1) (ty := 67) (vs := ints r) (by rw [za1, hr14])
        have frr : Fr 14 67 H4.next (H4.push ⟨67, true, ints r⟩).next (H4.push ⟨67, true, ints r⟩) (.slice (some ⟨H4.next, 0, some 14⟩) 1 1) 1 r := o5.fr 0 rfl
        have fin5 := fin (H4.push ⟨67, true, ints r⟩) (.slice (some ⟨H4.next, 0, some 14⟩) 1 1) (Nat.le_succ _) (s4.push _) (fun i hi => by rw [AH.push_row, if_neg (by omega)])
        by_cases hX : X = []
        · subst hX
          have fin6 := fin5 (by rw [List.flatten_nil, List.append_nil]; exact frr)
          rcases fr4.2 with ⟨_, rfl⟩ | ⟨wi, wi1, wi2, rfl, wr⟩
          · try simp (disch := first | omega | (simp only [L3] <;> omega)) only [Sall,evalOp,init,binA_s,binE,binI,unE,convE,okNil,builtE,gv,TD.isAgg,resV,↓reduceIte,Nat.reduceEqDiff,reduceCtorEq,Nat.reduceAdd,Nat.reduceMul,Nat.reduceLeDiff,za0,za2,Int.reduceEq,Int.reduceLT,Int.reduceLE,Nat.reduceLT,tiA,tiXA, h5, h6, l4, l5, Option.isSome_some, Bool.not_true, hr14, hs14, z14, hsp, h14, nB, zaL, appE]
            refine ⟨rfl, fin6.1, fin6.2.1, fun i hi hne => by rw [if_neg hne, if_neg (by omega), hback i (by omega), o1 i hi], fun h => h.elim, fun X e => ?_⟩
            subst e
            exact ⟨_, rfl, fin6.2.2.2⟩
          · have nw : ¬ wi = H4.next := by omega
            try simp (disch := first | omega | (simp only [L3] <;> omega)) only [Sall,evalOp,init,binA_s,binE,binI,unE,convE,okNil,builtE,gv,TD.isAgg,resV,↓reduceIte,Nat.reduceEqDiff,reduceCtorEq,Nat.reduceAdd,Nat.reduceMul,Nat.reduceLeDiff,za0,za2,Int.reduceEq,Int.reduceLT,Int.reduceLE,Nat.reduceLT,tiA,tiXA, h5, h6, l4, l5, Option.isSome_some, Bool.not_true, hr14, hs14, z14, hsp, h14, nB, zaL, appE, wr, nw]
            refine ⟨Nat.zero_le _, rfl, fin6.1, fin6.2.1, fun i hi hne => by rw [if_neg hne, if_neg (by omega), hback i (by omega), o1 i hi], fun h => h.elim, fun X e => ?_⟩
            subst e
            exact ⟨_, rfl, fin6.2.2.2⟩
        · have hXl : 0 < X.length := List.length_pos_iff.2 hX
          rcases fr4.2 with ⟨h0, _⟩ | ⟨wi, wi1, wi2, rfl, wr⟩
          · omega
          · have nw : ¬ wi = H4.next := by omega
            have hcl := fr4.1
            try simp (disch := first | omega | (simp only [L3] <;> omega)) only [Sall,evalOp,init,binA_s,binE,binI,unE,convE,okNil,builtE,gv,TD.isAgg,resV,↓reduceIte,Nat.reduceEqDiff,reduceCtorEq,Nat.reduceAdd,Nat.reduceMul,Nat.reduceLeDiff,za0,za2,Int.reduceEq,Int.reduceLT,Int.reduceLE,Nat.reduceLT,tiA,tiXA, h5, h6, l4, l5, Option.isSome_some, Bool.not_true, hr14, hs14, z14, hsp, h14, nB, zaL, wr, nw]
            refine ⟨by omega, ?_⟩
            have hsX : seg (ints X.flatten) 0 (X.length * 14) = ints X.flatten := by
              unfold seg
              rw [List.drop_zero, List.take_of_length_le (by rw [za1, hcl]; exact Nat.le_refl _)]
            rw [hsX]
            have hXd := zgS n (rowsP n P) d (D ++ [r]) X eX
            refine o5.app 0 (c := X.length) (ms := ints X.flatten) rfl rfl (by omega) (by rw [za1, hcl]) hXl (by decide) (by omega) ?_
            intro v' H6 n6 o6
            have n6 : H6.next = H4.next + 2 := n6
            have o6 : Ow H4 H6 [.sl 14 67 v' (1 + X.length) (ints r ++ ints X.flatten)] := o6
            rw [zaK, Nat.add_comm] at o6
            have fin6 := fin H6 v' (by omega) o6.sc (fun i hi => o6.low i hi) (o6.fr 0 rfl)
            have hv' := o6.one 0 rfl
            have l6 : H6.row (B + 4) = some ⟨24, true, [.slice none 0 0]⟩ := by rw [o6.low _ (by omega), l4]
            try simp (disch := first | omega | (simp only [L3] <;> omega)) only [Sall,evalOp,init,binA_s,binE,binI,unE,convE,okNil,builtE,gv,TD.isAgg,resV,↓reduceIte,Nat.reduceEqDiff,reduceCtorEq,Nat.reduceAdd,Nat.reduceMul,Nat.reduceLeDiff,za0,za2,Int.reduceEq,Int.reduceLT,Int.reduceLE,Nat.reduceLT,tiA,tiXA, h5, l6, hv', Option.isSome_some, Bool.not_true]
            refine ⟨rfl, fin6.1, fin6.2.1, fun i hi hne => by rw [if_neg hne, o6.low i (by omega), hback i (by omega), o1 i hi], fun h => h.elim, fun X e => ?_⟩
            subst e
            exact ⟨_, rfl, fin6.2.2.2⟩
end Go.Proofs.YtemgclojolmhbaaGreat.A
end

section
set_option maxRecDepth 100000
set_option maxHeartbeats 4000000
namespace Go.Proofs.YtemgclojolmhbaaGreat.A
open Go Go.Abs Go.RowKit
def fitInv (B : Nat) (H5 : AH) (b : Bool) (s : Option (List (List Int))) (Hx : AH) : Prop :=
  (∀ i, i < B + 5 → (b = true ∨ i ≠ B + 4) → Hx.row i = H5.row i) ∧ (b = true → s = none) ∧ (b = false → ∃ X w, s = some X ∧ Hx.row (B + 4) = some ⟨24, true, [w]⟩ ∧ Fr 14 67 (B + 5) Hx.next Hx w X.length X.flatten)
theorem fitting_c (n : Nat) (hn : 2 ≤ n ∧ n ≤ 6) (P : List (List Int)) (hP : patB n P = true) (pv : Value) (hpo : pv.oneCell' = true) : ∀ d, FitK n P pv d := by
  intro d
  induction d with
  | zero =>
    intro D mi vs q mv H hD hPO hM
    refine ACalls.wf (by kernel_rfl) fun hs => za3 [.tmp 8, .tmp 9] Tryz.func61 (by kernel_rfl) rfl rfl (Nat.le_of_ble_eq_true rfl) (by kernel_rfl) ?_
    have hmo : mv.oneCell' = true := by rw [hM.val]; rfl
    have o1 := ((((Ow.refl hs).push ⟨2, true, [.int .i64 n]⟩).push ⟨30, true, [pv]⟩).push ⟨30, true, [mv]⟩).push ⟨2, true, [.int .i64 D.length]⟩
    have wn : IntKind.i64.wrap ((n : Int) - 1) = (D.length : Int) := by rw [show (n : Int) - 1 = (D.length : Int) by omega]; exact w64 ⟨by omega, by omega⟩
    have d1 : ((D.length : Int) == (D.length : Int)) = true := beq_self_eq_true _
    have ne1 : ¬ H.next = H.next + 1 := by omega
    have ne2 : ¬ H.next = H.next + 1 + 1 := by omega
    have ne3 : ¬ H.next = H.next + 2 := by omega
    have ne4 : ¬ H.next = H.next + 3 := by omega
    try simp (disch := first | omega | (simp only [L3] <;> omega)) only [Sall,evalOp,init,binA_s,binE,binI,unE,convE,okNil,builtE,gv,TD.isAgg,resV,↓reduceIte,Nat.reduceEqDiff,reduceCtorEq,Nat.reduceAdd,Nat.reduceMul,Nat.reduceLeDiff,za0,za2,Int.reduceEq,Int.reduceLT,Int.reduceLE,Nat.reduceLT,tiA,tiXA, hpo, hmo, zb9 hpo, zb9 hmo, wn, d1, ne1, ne2, ne3, ne4]
    exact ⟨_, rfl, o1.up, o1.sc, ⟨rfl, .inl ⟨rfl, rfl⟩⟩⟩
  | succ d ih =>
    intro D mi vs q mv H hD hPO hM
    refine ACalls.wf (by kernel_rfl) fun hs => za3 [.tmp 8, .tmp 9] Tryz.func61 (by kernel_rfl) rfl rfl (Nat.le_of_ble_eq_true rfl) (by kernel_rfl) ?_
    have hmo : mv.oneCell' = true := by rw [hM.val]; rfl
    have o1 := (((((Ow.refl hs).push ⟨2, true, [.int .i64 n]⟩).push ⟨30, true, [pv]⟩).push ⟨30, true, [mv]⟩).push ⟨2, true, [.int .i64 D.length]⟩).push ⟨24, true, [.slice none 0 0]⟩
    have wn : IntKind.i64.wrap ((n : Int) - 1) = ((n - 1 : Nat) : Int) := by rw [show (n : Int) - 1 = ((n - 1 : Nat) : Int) by omega]; exact w64 ⟨by omega, by omega⟩
    have d1 : ((D.length : Int) == ((n - 1 : Nat) : Int)) = false := beq_eq_false_iff_ne.2 (by omega)
    have ne1 : ¬ H.next = H.next + 1 := by omega
    have ne2 : ¬ H.next = H.next + 1 + 1 := by omega
    have ne3 : ¬ H.next = H.next + 2 := by omega
    have ne4 : ¬ H.next = H.next + 3 := by omega
    have ne5 : ¬ H.next = H.next + 4 := by omega
    have ne6 : ¬ H.next + 2 = H.next + 4 := by omega
    have ne7 : ¬ H.next + 2 = H.next + 3 := by omega
    have hq : ∀ a, a < n → q a < H.next := fun a ha => hs _ _ (hM.rows a ha)
    have hmi : mi < H.next := hs _ _ hM.row
    try simp (disch := first | omega | (simp only [L3] <;> omega)) only [Sall,evalOp,init,binA_s,binE,binI,unE,convE,okNil,builtE,gv,TD.isAgg,resV,↓reduceIte,Nat.reduceEqDiff,reduceCtorEq,Nat.reduceAdd,Nat.reduceMul,Nat.reduceLeDiff,za0,za2,Int.reduceEq,Int.reduceLT,Int.reduceLE,Nat.reduceLT,tiA,tiXA, hpo, hmo, zb9 hpo, zb9 hmo, wn, d1, ne1, ne2, ne3, ne4, ne5, ne6, ne7, List.mem_cons, List.not_mem_nil, or_false, forall_eq_or_imp, forall_eq, Array.size_empty]
    have o1 : Ow H (((((H.push ⟨2, true, [.int .i64 n]⟩).push ⟨30, true, [pv]⟩).push ⟨30, true, [mv]⟩).push ⟨2, true, [.int .i64 D.length]⟩).push ⟨24, true, [.slice none 0 0]⟩) [.row H.next ⟨2, true, [.int .i64 n]⟩, .row (H.next + 1) ⟨30, true, [pv]⟩, .row (H.next + 2) ⟨30, true, [mv]⟩, .row (H.next + 3) ⟨2, true, [.int .i64 D.length]⟩, .row (H.next + 4) ⟨24, true, [.slice none 0 0]⟩] := o1
    obtain ⟨H5, e5⟩ : ∃ H5, H5 = ((((H.push ⟨2, true, [.int .i64 n]⟩).push ⟨30, true, [pv]⟩).push ⟨30, true, [mv]⟩).push ⟨2, true, [.int .i64 D.length]⟩).push ⟨24, true, [.slice none 0 0]⟩ := ⟨_, rfl⟩
    have n5 : H5.next = H.next + 5 := by rw [e5]; rfl
    rw [← e5] at o1 ⊢
    clear e5
    have g0 := (o1.rowAt 0 rfl).1
    have g1 : H5.row (H.next + 1) = _ := (o1.rowAt 1 rfl).1
    have g2 : H5.row (H.next + 2) = _ := (o1.rowAt 2 rfl).1
    have g3 : H5.row (H.next + 3) = _ := (o1.rowAt 3 rfl).1
    have g4 : H5.row (H.next + 4) = _ := (o1.rowAt 4 rfl).1
    have hup : ∀ Hx : AH, (∀ i, i < H.next + 5 → (true = true ∨ i ≠ H.next + 4) → Hx.row i = H5.row i) → ∀ i r, H.row i = some r → Hx.row i = some r := fun Hx h i r hr => by
      have := hs i r hr
      rw [h i (by omega) (.inl rfl), o1.low i this]; exact hr
    have hC : CallOkB n (cntD n D) mv 87 [.pointer (some ⟨H.next, 0, none⟩), .pointer (some ⟨H.next + 1, 0, none⟩), .pointer (some ⟨H.next + 3, 0, none⟩), .pointer (some ⟨H.next + 2, 0, none⟩), .pointer (some ⟨H.next + 4, 0, none⟩)] H5.next (fitInv H.next H5) (stpF (fitS n P d D)) := by
      refine ⟨by omega, zdQ _ _, fun a ha => cntD_rl n D ha, ?_, ?_, ?_⟩
      · intro s Ha Hb hI h
        exact ⟨fun i hi _ => by rw [h i (by omega)]; exact hI.1 i hi (.inl rfl), hI.2.1, fun h => by cases h⟩
      · intro s Ha hI
        exact (hM.same (hup Ha hI.1)).rd2
      · intro s r Ha hI hb hsa hnow
        have hsn : s = none := hI.2.1 rfl
        subst hsn
        have hPO' : PO n q Ha pv P := hPO.same fun i r h _ => hup Ha hI.1 i r h
        refine ACalls.mono (fitting1_c n hn P hP pv hpo d ih D (by omega) mi vs q mv H.next hmi hq r hnow Ha (by omega) hPO' (hM.same (hup Ha hI.1)) (by rw [hI.1 _ (by omega) (.inl rfl)]; exact g0) (by rw [hI.1 _ (by omega) (.inl rfl)]; exact g1) (by rw [hI.1 _ (by omega) (.inl rfl)]; exact g2) (by rw [hI.1 _ (by omega) (.inl rfl)]; exact g3) (by rw [hI.1 _ (by omega) (.inl rfl)]; exact g4)) ?_
        rintro v1 H1 ⟨f1, f2, f3, f4, f5, f6⟩
        unfold stpF
        cases hF : fitS n P d D r with
        | none =>
          rw [hF] at f1
          refine ⟨f1, ⟨fun i hi _ => ?_, fun _ => rfl, fun h => by cases h⟩, f2, f3, fun i i1 i2 => f4 i i2 (by omega)⟩
          by_cases e : i = H.next + 4
          · rw [e, f5 hF]; exact hI.1 _ (by omega) (.inl rfl)
          · rw [f4 i (by omega) e]; exact hI.1 _ hi (.inl rfl)
        | some X =>
          rw [hF] at f1
          obtain ⟨w, w1, w2⟩ := f6 X hF
          refine ⟨f1, ⟨fun i hi h => ?_, fun h => (by cases h), fun _ => ⟨X, w, rfl, w1, w2.wide (by omega) (Nat.le_refl _)⟩⟩, f2, f3, fun i i1 i2 => f4 i i2 (by omega)⟩
          have hne : i ≠ H.next + 4 := h.elim (fun h => by cases h) id
          rw [f4 i (by omega) hne]; exact hI.1 _ hi (.inl rfl)
    have hI0 : fitInv H.next H5 true none H5 := ⟨fun _ _ _ => rfl, fun _ => rfl, fun h => by cases h⟩
    have hmt : matF n (mtM (cntD n D)) (n + 1) (freeL n) 0 = matF n (metR D) (n + 1) (freP n) 0 := by
      rw [show freeL (n : Int) = freP (n : Int) from rfl]
      refine zg6 (fun a b ha hb => ?_) _ _ _ (Nat.zero_le _)
      unfold mtM
      rw [zhB n D ha hb, cntN_met]
    refine ACalls.mono (roundsB_c none H5 hC hI0 hmo) ?_
    rintro v1 H6 ⟨f1, f2, f3, f4⟩
    rw [hmt, zgC] at f1 f2
    have hfe : (matF n (metR D) (n + 1) (freP n) 0).findSome? (fitS n P d D) = fitI n (rowsP n P) (d + 1) D := rfl
    rw [hfe] at f1 f2
    refine Holds.mp ?_
    cases hF : fitI n (rowsP n P) (d + 1) D with
    | none =>
      rw [hF] at f1 f2
      have l4 : H6.row (H.next + 4) = some ⟨24, true, [.slice none 0 0]⟩ := by rw [f2.1 _ (by omega) (.inl rfl)]; exact g4
      try simp (disch := first | omega | (simp only [L3] <;> omega)) only [Sall,evalOp,init,binA_s,binE,binI,unE,convE,okNil,builtE,gv,TD.isAgg,resV,↓reduceIte,Nat.reduceEqDiff,reduceCtorEq,Nat.reduceAdd,Nat.reduceMul,Nat.reduceLeDiff,za0,za2,Int.reduceEq,Int.reduceLT,Int.reduceLE,Nat.reduceLT,tiA,tiXA, f1, l4, Bool.not_true]
      exact ⟨_, rfl, ⟨by omega, fun i hi => by rw [f2.1 i (by omega) (.inl rfl), o1.low i hi]⟩, f4, ⟨rfl, .inl ⟨rfl, rfl⟩⟩⟩
    | some X =>
      rw [hF] at f1 f2
      obtain ⟨X', w, e, w1, w2⟩ := f2.2.2 rfl
      have e : X = X' := by simpa using e
      subst e
      have hw := w2.rd.one
      try simp (disch := first | omega | (simp only [L3] <;> omega)) only [Sall,evalOp,init,binA_s,binE,binI,unE,convE,okNil,builtE,gv,TD.isAgg,resV,↓reduceIte,Nat.reduceEqDiff,reduceCtorEq,Nat.reduceAdd,Nat.reduceMul,Nat.reduceLeDiff,za0,za2,Int.reduceEq,Int.reduceLT,Int.reduceLE,Nat.reduceLT,tiA,tiXA, f1, w1, hw, Bool.not_false]
      exact ⟨w, rfl, ⟨by omega, fun i hi => by rw [f2.1 i (by omega) (.inr (by omega)), o1.low i hi]⟩, f4, w2.wide (by omega) (Nat.le_refl _)⟩
theorem ScheduleFor2_c (x : Int) (H : AH) : ACalls Tryz.prog 60 [.int .i64 x] H (is (.bool (!decide (0 ≤ x ∧ x ≤ 1))) H) := by
  refine za3 [.tmp 2] Tryz.func60 (by kernel_rfl) rfl rfl (Nat.le_of_ble_eq_true rfl) (by kernel_rfl) ?_
  try simp (disch := first | omega | (simp only [L3] <;> omega)) only [Sall,evalOp,init,binA_s,binE,binI,unE,convE,okNil,builtE,gv,TD.isAgg,resV,↓reduceIte,Nat.reduceEqDiff,reduceCtorEq,Nat.reduceAdd,Nat.reduceMul,Nat.reduceLeDiff,za0,za2,Int.reduceEq,Int.reduceLT,Int.reduceLE,Nat.reduceLT,tiA,tiXA, true_and]
  refine (zc2 _ _ _ _).to ?_
  try simp (disch := first | omega | (simp only [L3] <;> omega)) only [Sall,evalOp,init,binA_s,binE,binI,unE,convE,okNil,builtE,gv,TD.isAgg,resV,↓reduceIte,Nat.reduceEqDiff,reduceCtorEq,Nat.reduceAdd,Nat.reduceMul,Nat.reduceLeDiff,za0,za2,Int.reduceEq,Int.reduceLT,Int.reduceLE,Nat.reduceLT,tiA,tiXA, is]
def patRB (n : Nat) (y : List Int) : Bool := decide (y.length = n - 1) && y.all fun v => decide (0 ≤ v ∧ v ≤ 1)
theorem ScheduleFor1_c (n : Nat) (hn : 2 ≤ n ∧ n ≤ 6) (y : Value) (l : List Int) (c0 : Nat) (H : AH) (h0 : H.row c0 = some ⟨2, true, [.int .i64 n]⟩) (hy : Rd 1 H y l.length l) (hl : l.length ≤ 4194304) :
    ACalls Tryz.prog 57 [y, .pointer (some ⟨c0, 0, none⟩)] H (is (.bool (!patRB n l)) H) := by
  refine za3 [.tmp 3] Tryz.func57 (by kernel_rfl) rfl rfl (Nat.le_of_ble_eq_true rfl) (by kernel_rfl) ?_
  have wn : IntKind.i64.wrap ((n : Int) - 1) = ((n - 1 : Nat) : Int) := by rw [show (n : Int) - 1 = ((n - 1 : Nat) : Int) by omega]; exact w64 ⟨by omega, by omega⟩
  try simp (disch := first | omega | (simp only [L3] <;> omega)) only [Sall,evalOp,init,binA_s,binE,binI,unE,convE,okNil,builtE,gv,TD.isAgg,resV,↓reduceIte,Nat.reduceEqDiff,reduceCtorEq,Nat.reduceAdd,Nat.reduceMul,Nat.reduceLeDiff,za0,za2,Int.reduceEq,Int.reduceLT,Int.reduceLE,Nat.reduceLT,tiA,tiXA, true_and]
  refine zhI [0, 2, 3, 1, 4, 5, 6, 7, 8, 9] (by kernel_rfl) (by kernel_rfl) rfl ?_
  try simp (disch := first | omega | (simp only [L3] <;> omega)) only [Sall,evalOp,init,binA_s,binE,binI,unE,convE,okNil,builtE,gv,TD.isAgg,resV,↓reduceIte,Nat.reduceEqDiff,reduceCtorEq,Nat.reduceAdd,Nat.reduceMul,Nat.reduceLeDiff,za0,za2,Int.reduceEq,Int.reduceLT,Int.reduceLE,Nat.reduceLT,tiA,tiXA, zbV, zbM, zbX, h0, wn]
  refine (sizeT_c y l H hy (by omega)).to ?_
  refine ⟨.inr (.inr (LE.refl _)), ?_⟩
  by_cases e : l.length = n - 1
  · have e1 : ((l.length : Int) != ((n - 1 : Nat) : Int)) = false := by rw [e]; exact bne_self_eq_false _
    try simp (disch := first | omega | (simp only [L3] <;> omega)) only [Sall,evalOp,init,binA_s,binE,binI,unE,convE,okNil,builtE,gv,TD.isAgg,resV,↓reduceIte,Nat.reduceEqDiff,reduceCtorEq,Nat.reduceAdd,Nat.reduceMul,Nat.reduceLeDiff,za0,za2,Int.reduceEq,Int.reduceLT,Int.reduceLE,Nat.reduceLT,tiA,tiXA, zbV, zbM, zbX, e1, wn]
    refine (zd5 60 [] (fun x => !decide (0 ≤ x ∧ x ≤ 1)) y _ l H hy (by omega) fun x _ => ScheduleFor2_c x H).to ?_
    refine ⟨.inr (.inr (LE.refl _)), ?_⟩
    try simp (disch := first | omega | (simp only [L3] <;> omega)) only [Sall,evalOp,init,binA_s,binE,binI,unE,convE,okNil,builtE,gv,TD.isAgg,resV,↓reduceIte,Nat.reduceEqDiff,reduceCtorEq,Nat.reduceAdd,Nat.reduceMul,Nat.reduceLeDiff,za0,za2,Int.reduceEq,Int.reduceLT,Int.reduceLE,Nat.reduceLT,tiA,tiXA, zbV, zbM, zbX, is]
    have e2 : patRB n l = !(l.any fun x => !decide (0 ≤ x ∧ x ≤ 1)) := by
      unfold patRB
      rw [decide_eq_true e, Bool.true_and, List.not_any_eq_all_not]
      simp only [Bool.not_not]
    rw [e2, Bool.not_not]
  · have e1 : ((l.length : Int) != ((n - 1 : Nat) : Int)) = true := bne_iff_ne.2 (by omega)
    have e2 : patRB n l = false := by unfold patRB; rw [decide_eq_false e]; rfl
    try simp (disch := first | omega | (simp only [L3] <;> omega)) only [Sall,evalOp,init,binA_s,binE,binI,unE,convE,okNil,builtE,gv,TD.isAgg,resV,↓reduceIte,Nat.reduceEqDiff,reduceCtorEq,Nat.reduceAdd,Nat.reduceMul,Nat.reduceLeDiff,za0,za2,Int.reduceEq,Int.reduceLT,Int.reduceLE,Nat.reduceLT,tiA,tiXA, zbV, zbM, zbX, e1, is, e2, Bool.not_false, wn]
end Go.Proofs.YtemgclojolmhbaaGreat.A
end

section
set_option maxRecDepth 100000
set_option maxHeartbeats 4000000
namespace Go.Proofs.YtemgclojolmhbaaGreat.A
open Go Go.Abs Go.RowKit
def sfOk (P : List (List Int)) : Bool := decide (2 ≤ P.length ∧ P.length ≤ 6 ∧ P.length % 2 = 0) && patB P.length P
def sfX (P : List (List Int)) : Option (List (List Int)) := fitI P.length (rowsP P.length P) (P.length - 1) []
def sfC (P : List (List Int)) : Int := if sfOk P = true then if (sfX P).isSome = true then 0 else 4 else 2
def sfQ (P : List (List Int)) : Int := if sfC P = 0 then P.length else 0
def sfR (P : List (List Int)) : List (List Int) := if sfC P = 0 then (sfX P).getD [] else []
theorem patB_any (P : List (List Int)) : ((List.range P.length).any fun i => !patRB P.length (P.getD i [])) = !patB P.length P := by
  have e : patB P.length P = (P.all fun y => patRB P.length y) := by
    unfold patB
    rw [decide_eq_true rfl, Bool.true_and]
    rfl
  rw [e]
  rw [Bool.eq_iff_iff, List.any_eq_true]
  constructor
  · rintro ⟨i, hi, h⟩
    have hi := List.mem_range.1 hi
    have hm : P.getD i [] ∈ P := zb1 hi
    rw [Bool.not_eq_true', ← Bool.not_eq_true, List.all_eq_true]
    intro h2
    rw [h2 _ hm] at h
    cases h
  · intro h
    rw [Bool.not_eq_true', ← Bool.not_eq_true, List.all_eq_true] at h
    simp only [Classical.not_forall] at h
    obtain ⟨y, hy, h2⟩ := h
    obtain ⟨i, hi, rfl⟩ := List.mem_iff_getElem.1 hy
    refine ⟨i, List.mem_range.2 hi, ?_⟩
    rw [List.getD_eq_getElem?_getD, List.getElem?_eq_getElem hi]
    simpa using h2
theorem ScheduleFor_c (pv : Value) (P : List (List Int)) (H : AH) (hx : Rd2 1 H pv P) (hl : P.length ≤ 4194304) (hl2 : ∀ y ∈ P, y.length ≤ 4194304) :
    ACalls Tryz.prog 17 [pv] H (fun r H' => ∃ w, r = .tuple #[.agg #[.int .i64 (sfQ P), w], .int .i64 (sfC P)] ∧ Ow H H' [.sl 14 67 w (sfR P).length (ints (sfR P).flatten)]) := by
  refine ACalls.wf (by kernel_rfl) fun hs => za3 [.cell 2 26, .tmp 3] Tryz.func17 (by kernel_rfl) rfl rfl (Nat.le_of_ble_eq_true rfl) (by kernel_rfl) ?_
  have hone := hx.one
  have o1 := (Ow.refl hs).push ⟨26, true, [.int .i64 0, .slice none 0 0]⟩
  have h20 : ¬ (2 : Int) = 0 := by decide
  try simp (disch := first | omega | (simp only [L3] <;> omega)) only [Sall,evalOp,init,binA_s,binE,binI,unE,convE,okNil,builtE,gv,TD.isAgg,resV,↓reduceIte,Nat.reduceEqDiff,reduceCtorEq,Nat.reduceAdd,Nat.reduceMul,Nat.reduceLeDiff,za0,za2,Int.reduceEq,Int.reduceLT,Int.reduceLE,Nat.reduceLT,tiA,tiXA, true_and]
  have hx1 := hx.same (o1.old hs)
  obtain ⟨pi, epi⟩ : ∃ pi, pi = H.next := ⟨_, rfl⟩
  rw [← epi] at o1 ⊢
  revert o1 hx1
  generalize H.push ⟨26, true, [.int .i64 0, .slice none 0 0]⟩ = H1
  intro hx1 o1
  refine (sizeLL_c pv P H1 hx1 (by omega)).to ?_
  refine Holds.mp ?_
  have o2 := (o1.push ⟨2, true, [.int .i64 0]⟩).putRow 1 rfl (cs' := [.int .i64 P.length])
  have np : ¬ pi = H1.next := by have := (o1.rowAt 0 rfl).2.2; omega
  have o2 : Ow H ((H1.push ⟨2, true, [.int .i64 0]⟩).setCells H1.next [.int .i64 P.length]) [.row pi ⟨26, true, [.int .i64 0, .slice none 0 0]⟩, .row H1.next ⟨2, true, [.int .i64 P.length]⟩] := o2
  have hx2 := hx.same (o2.old hs)
  try simp (disch := first | omega | (simp only [L3] <;> omega)) only [Sall,evalOp,init,binA_s,binE,binI,unE,convE,okNil,builtE,gv,TD.isAgg,resV,↓reduceIte,Nat.reduceEqDiff,reduceCtorEq,Nat.reduceAdd,Nat.reduceMul,Nat.reduceLeDiff,za0,za2,Int.reduceEq,Int.reduceLT,Int.reduceLE,Nat.reduceLT,tiA,tiXA, true_and]
  obtain ⟨ni, eni⟩ : ∃ ni, ni = H1.next := ⟨_, rfl⟩
  rw [← eni] at o2 np hx2 ⊢
  revert o2 hx2
  generalize (H1.push ⟨2, true, [.int .i64 0]⟩).setCells ni [.int .i64 P.length] = H2
  intro hx2 o2
  have e1 := (o2.rowAt 0 rfl).1
  have e2 := (o2.rowAt 1 rfl).1
  have r2 : ((P.length : Int)).tmod 2 = ((P.length % 2 : Nat) : Int) := rfl
  try simp (disch := first | omega | (simp only [L3] <;> omega)) only [Sall,evalOp,init,binA_s,binE,binI,unE,convE,okNil,builtE,gv,TD.isAgg,resV,↓reduceIte,Nat.reduceEqDiff,reduceCtorEq,Nat.reduceAdd,Nat.reduceMul,Nat.reduceLeDiff,za0,za2,Int.reduceEq,Int.reduceLT,Int.reduceLE,Nat.reduceLT,tiA,tiXA, e2]
  refine (zc2 _ _ _ _).to ?_
  refine Holds.mp ?_
  unfold sfQ sfR
  have bad : sfOk P = false → ∃ w, (.tuple #[.agg #[.int .i64 0, .slice none 0 0], .int .i64 2] : Value) = .tuple #[.agg #[.int .i64 (if sfC P = 0 then (P.length : Int) else 0), w], .int .i64 (sfC P)] ∧ Ow H (H2.setCells pi [.int .i64 0, .slice none 0 0]) [.sl 14 67 w (if sfC P = 0 then (sfX P).getD [] else []).length (ints (if sfC P = 0 then (sfX P).getD [] else []).flatten)] := by
    intro h
    have hc : sfC P = 2 := by unfold sfC; rw [h, if_neg (by simp)]
    rw [hc]
    exact ⟨_, rfl, ((o2.putRow 0 rfl (cs' := [.int .i64 0, .slice none 0 0])).addNil 14 67).only 2 rfl⟩
  by_cases h : 2 ≤ (P.length : Int) ∧ (P.length : Int) ≤ 6
  rotate_left
  · have hno : sfOk P = false := by unfold sfOk; rw [decide_eq_false (fun e => h ⟨by omega, by omega⟩)]; rfl
    rw [decide_eq_false h]
    try simp (disch := first | omega | (simp only [L3] <;> omega)) only [Sall,evalOp,init,binA_s,binE,binI,unE,convE,okNil,builtE,gv,TD.isAgg,resV,↓reduceIte,Nat.reduceEqDiff,reduceCtorEq,Nat.reduceAdd,Nat.reduceMul,Nat.reduceLeDiff,za0,za2,Int.reduceEq,Int.reduceLT,Int.reduceLE,Nat.reduceLT,tiA,tiXA, Bool.not_false, e1]
    exact bad hno
  rw [decide_eq_true h]
  by_cases he : P.length % 2 = 0
  rotate_left
  · have hno : sfOk P = false := by unfold sfOk; rw [decide_eq_false (fun e => he e.2.2)]; rfl
    have d1 : (((P.length % 2 : Nat) : Int) == 1) = true := beq_iff_eq.2 (by omega)
    try simp (disch := first | omega | (simp only [L3] <;> omega)) only [Sall,evalOp,init,binA_s,binE,binI,unE,convE,okNil,builtE,gv,TD.isAgg,resV,↓reduceIte,Nat.reduceEqDiff,reduceCtorEq,Nat.reduceAdd,Nat.reduceMul,Nat.reduceLeDiff,za0,za2,Int.reduceEq,Int.reduceLT,Int.reduceLE,Nat.reduceLT,tiA,tiXA, Bool.not_true, e2, r2, d1, h20, e1]
    exact bad hno
  have d1 : (((P.length % 2 : Nat) : Int) == 1) = false := beq_eq_false_iff_ne.2 (by omega)
  have hmem : ∀ v ∈ [Value.pointer (some ⟨ni, 0, none⟩)], v.oneCell' = true := by simp [Value.oneCell']
  try simp (disch := first | omega | (simp only [L3] <;> omega)) only [Sall,evalOp,init,binA_s,binE,binI,unE,convE,okNil,builtE,gv,TD.isAgg,resV,↓reduceIte,Nat.reduceEqDiff,reduceCtorEq,Nat.reduceAdd,Nat.reduceMul,Nat.reduceLeDiff,za0,za2,Int.reduceEq,Int.reduceLT,Int.reduceLE,Nat.reduceLT,tiA,tiXA, Bool.not_true, e2, r2, d1, h20]
  refine ⟨hmem, (zcS 57 [.pointer (some ⟨ni, 0, none⟩)] (fun r => !patRB P.length r) pv P H2 hx2 (by omega) fun y r hr hy => ScheduleFor1_c P.length ⟨by omega, by omega⟩ y r ni H2 e2 hy (hl2 r hr)).to ?_⟩
  refine Holds.mp ?_
  rw [patB_any]
  cases hP : patB P.length P with
  | false =>
    have hno : sfOk P = false := by unfold sfOk; rw [hP, Bool.and_false]
    try simp (disch := first | omega | (simp only [L3] <;> omega)) only [Sall,evalOp,init,binA_s,binE,binI,unE,convE,okNil,builtE,gv,TD.isAgg,resV,↓reduceIte,Nat.reduceEqDiff,reduceCtorEq,Nat.reduceAdd,Nat.reduceMul,Nat.reduceLeDiff,za0,za2,Int.reduceEq,Int.reduceLT,Int.reduceLE,Nat.reduceLT,tiA,tiXA, Bool.not_false, e1]
    exact bad hno
  | true =>
    have hyes : sfOk P = true := by unfold sfOk; rw [hP, Bool.and_true]; exact decide_eq_true ⟨by omega, by omega, he⟩
    have hpl := zgK hP
    try simp (disch := first | omega | (simp only [L3] <;> omega)) only [Sall,evalOp,init,binA_s,binE,binI,unE,convE,okNil,builtE,gv,TD.isAgg,resV,↓reduceIte,Nat.reduceEqDiff,reduceCtorEq,Nat.reduceAdd,Nat.reduceMul,Nat.reduceLeDiff,za0,za2,Int.reduceEq,Int.reduceLT,Int.reduceLE,Nat.reduceLT,tiA,tiXA, Bool.not_true]
    refine zb2 (by kernel_rfl) (by kernel_rfl) ?_
    try simp (disch := first | omega | (simp only [L3] <;> omega)) only [Sall,evalOp,init,binA_s,binE,binI,unE,convE,okNil,builtE,gv,TD.isAgg,resV,↓reduceIte,Nat.reduceEqDiff,reduceCtorEq,Nat.reduceAdd,Nat.reduceMul,Nat.reduceLeDiff,za0,za2,Int.reduceEq,Int.reduceLT,Int.reduceLE,Nat.reduceLT,tiA,tiXA, e2, hone]
    refine ACalls.mono (square_c P.length (by omega) H2).sc ?_
    rintro sv H3 ⟨⟨up3, fr3⟩, s3⟩
    refine ⟨.inr (.inr (up3.le o2.sc)), ?_⟩
    have hso := fr3.rd.one
    have o3 := o2.call (Ow.of_up up3 s3)
    have hx3 := hx.same (o3.old hs)
    have e13 := (o3.rowAt 0 rfl).1
    have e23 := (o3.rowAt 1 rfl).1
    obtain ⟨mi, vs, q, hM, m1, m2, m3⟩ := Mx.of_fr2 (n := P.length) (by omega) (by simp [zeroM]) (fun a ha => by have := (zeroM_sq P.length).2; simp [zeroM, List.getD_eq_getElem?_getD, List.getElem?_replicate, ha]) fr3
    rw [← cntD_nil] at hM
    have hPO : PO P.length q H3 pv P := fun H' h => hx.same fun i r hr => h i r (o3.old hs i r hr) fun a ha => by have := m3 a ha; have := o2.next; have := hs i r hr; omega
    have hfit := fitting_c P.length ⟨by omega, by omega⟩ P hP pv hone (P.length - 1) [] mi vs q sv H3 (by rw [List.length_nil]; omega) hPO hM
    have eX : sfX P = fitI P.length (rowsP P.length P) (P.length - 1) [] := rfl
    rw [← eX] at hfit
    try simp (disch := first | omega | (simp only [L3] <;> omega)) only [Sall,evalOp,init,binA_s,binE,binI,unE,convE,okNil,builtE,gv,TD.isAgg,resV,↓reduceIte,Nat.reduceEqDiff,reduceCtorEq,Nat.reduceAdd,Nat.reduceMul,Nat.reduceLeDiff,za0,za2,Int.reduceEq,Int.reduceLT,Int.reduceLE,Nat.reduceLT,tiA,tiXA, zbV, zbM, zbX, e23, hone, hso]
    refine ACalls.mono hfit ?_
    rintro v4 H4 ⟨w, ev4, up4, s4, fr4⟩
    have hw := fr4.rd.one
    have o4 := o3.call (Ow.of_fr up4 s4 fr4)
    have e14 := (o4.rowAt 0 rfl).1
    have e24 := (o4.rowAt 1 rfl).1
    refine ⟨.inr (.inr (up4.le s3)), ?_⟩
    cases hX : sfX P with
    | none =>
      have hc : sfC P = 4 := by unfold sfC; rw [hyes, hX]; rfl
      rw [hX] at ev4
      try simp (disch := first | omega | (simp only [L3] <;> omega)) only [Sall,evalOp,init,binA_s,binE,binI,unE,convE,okNil,builtE,gv,TD.isAgg,resV,↓reduceIte,Nat.reduceEqDiff,reduceCtorEq,Nat.reduceAdd,Nat.reduceMul,Nat.reduceLeDiff,za0,za2,Int.reduceEq,Int.reduceLT,Int.reduceLE,Nat.reduceLT,tiA,tiXA, zbV, zbM, zbX, ev4, hw, Option.isSome_none, Bool.not_false, e14]
      rw [hc]
      exact ⟨_, rfl, ((o4.putRow 0 rfl (cs' := [.int .i64 0, .slice none 0 0])).addNil 14 67).only 3 rfl⟩
    | some X =>
      have hc : sfC P = 0 := by unfold sfC; rw [hyes, hX]; rfl
      rw [hX] at ev4 o4
      try simp (disch := first | omega | (simp only [L3] <;> omega)) only [Sall,evalOp,init,binA_s,binE,binI,unE,convE,okNil,builtE,gv,TD.isAgg,resV,↓reduceIte,Nat.reduceEqDiff,reduceCtorEq,Nat.reduceAdd,Nat.reduceMul,Nat.reduceLeDiff,za0,za2,Int.reduceEq,Int.reduceLT,Int.reduceLE,Nat.reduceLT,tiA,tiXA, zbV, zbM, zbX, ev4, hw, zbB hw, zb0 hw, zb9 hw, Option.isSome_some, Bool.not_true, e14, e24]
      rw [hc]
      exact ⟨_, rfl, (o4.putRow 0 rfl (cs' := [.int .i64 P.length, w])).only 2 rfl⟩
end Go.Proofs.YtemgclojolmhbaaGreat.A
end

section
set_option maxRecDepth 100000
set_option maxHeartbeats 2000000
namespace Go.Proofs.YtemgclojolmhbaaGreat.A
open Go Go.Abs Go.RowKit
end Go.Proofs.YtemgclojolmhbaaGreat.A
end

section
set_option maxRecDepth 100000
set_option maxHeartbeats 2000000
namespace Go.Proofs.YtemgclojolmhbaaGreat.A
open Go Go.Abs Go.RowKit
def RdB (H : AH) (v : Value) (n : Nat) (mt : Nat → Nat → Bool) : Prop :=
  ∃ i o u c r, v = .slice (some ⟨i, o, u⟩) n c ∧ H.row i = some r ∧ ∀ a, a < n → ∃ qi qo qu qc qr, r.cells[o + a]? = some (.slice (some ⟨qi, qo, qu⟩) n qc) ∧ H.row qi = some qr ∧ ∀ b, b < n → qr.cells[qo + b]? = some (.bool (mt a b))
theorem RdB.same {H H' : AH} {v : Value} {n : Nat} {mt : Nat → Nat → Bool} (h : RdB H v n mt) (hs : ∀ i r, H.row i = some r → H'.row i = some r) : RdB H' v n mt := by
  obtain ⟨i, o, u, c, r, hv, hr, ha⟩ := h
  refine ⟨i, o, u, c, r, hv, hs _ _ hr, fun a han => ?_⟩
  obtain ⟨qi, qo, qu, qc, qr, h1, h2, h3⟩ := ha a han
  exact ⟨qi, qo, qu, qc, qr, h1, hs _ _ h2, h3⟩
theorem RdB.one {H : AH} {v : Value} {n : Nat} {mt : Nat → Nat → Bool} (h : RdB H v n mt) : v.oneCell' = true := by
  obtain ⟨i, o, u, c, r, rfl, _⟩ := h; rfl
end Go.Proofs.YtemgclojolmhbaaGreat.A
end

section
set_option maxRecDepth 100000
set_option maxHeartbeats 4000000
namespace Go.Proofs.YtemgclojolmhbaaGreat.A
open Go Go.Abs Go.RowKit
theorem ze5 {n : Nat} (hn : 1 ≤ n) (mt : Nat → Nat → Bool) (row : List Int) : ∀ (f : Nat) (r : List Int) (a : Nat), (fillF n mt row f r a).length ≤ n ^ f
  | 0, r, a => by simp [fillF]
  | f + 1, r, a => by
    unfold fillF
    split
    · exact Nat.one_le_pow _ _ hn
    · rw [List.length_flatMap]
      have hb : ∀ L : List Nat, (∀ x ∈ L, x ≤ n ^ f) → L.sum ≤ L.length * n ^ f := by
        intro L
        induction L with
        | nil => intro _; simp
        | cons x L ih =>
          intro h
          have h1 := h x (List.mem_cons_self)
          have h2 := ih fun y hy => h y (List.mem_cons_of_mem _ hy)
          rw [List.sum_cons, List.length_cons, Nat.add_mul, Nat.one_mul]
          omega
      refine Nat.le_trans (hb _ ?_) ?_
      · intro x hx
        rw [List.mem_map] at hx
        obtain ⟨b, _, rfl⟩ := hx
        split
        · simp
        · exact ze5 hn mt row f _ _
      · rw [List.length_map, List.length_range', Nat.pow_succ, Nat.mul_comm]
        exact Nat.mul_le_mul_left _ (by omega)
def fllB (n : Nat) (mt : Nat → Nat → Bool) (row : List Int) (f : Nat) (r : List Int) (c b : Nat) : List (List Int) :=
  if 0 ≤ r.getD b 0 ∨ mt c b = true ∨ row.getD c 0 + row.getD b 0 ≠ 1 then [] else fillF n mt row f (meetN r c b) (c + 1)
def fllP (n : Nat) (mt : Nat → Nat → Bool) (row : List Int) (f : Nat) (r : List Int) (c b : Nat) : List (List Int) :=
  (List.range' (c + 1) (b - (c + 1))).flatMap (fllB n mt row f r c)
theorem zh4 (n : Nat) (mt : Nat → Nat → Bool) (row : List Int) (f : Nat) (r : List Int) (c : Nat) : fllP n mt row f r c (c + 1) = [] := by simp [fllP]
theorem zfA (n : Nat) (mt : Nat → Nat → Bool) (row : List Int) (f : Nat) (r : List Int) {c b : Nat} (h : c < b) : fllP n mt row f r c (b + 1) = fllP n mt row f r c b ++ fllB n mt row f r c b := by
  unfold fllP
  rw [show b + 1 - (c + 1) = (b - (c + 1)) + 1 by omega, List.range'_concat, List.flatMap_append, List.flatMap_singleton]
  congr 2
  omega
theorem fllP_len {n : Nat} (hn : 1 ≤ n) (mt : Nat → Nat → Bool) (row : List Int) (f : Nat) (r : List Int) {c b : Nat} (h : c < b) (hb : b ≤ n) : (fllP n mt row f r c b).length ≤ n * n ^ f := by
  have : ∀ d, c + 1 + d ≤ n → (fllP n mt row f r c (c + 1 + d)).length ≤ d * n ^ f := by
    intro d
    induction d with
    | zero => intro _; rw [Nat.add_zero, zh4]; simp
    | succ d ih =>
      intro hd
      rw [← Nat.add_assoc, zfA _ _ _ _ _ (by omega), List.length_append, Nat.add_mul, Nat.one_mul]
      have h1 := ih (by omega)
      have h2 : (fllB n mt row f r c (c + 1 + d)).length ≤ n ^ f := by
        unfold fllB; split
        · simp
        · exact ze5 hn mt row f _ _
      omega
  have h1 := this (b - (c + 1)) (by omega)
  rw [show c + 1 + (b - (c + 1)) = b by omega] at h1
  exact Nat.le_trans h1 (Nat.mul_le_mul_right _ (by omega))
theorem pow6 {n f : Nat} (hn : n ≤ 6) (hf : f ≤ 7) : n ^ f ≤ 279936 :=
  Nat.le_trans (Nat.pow_le_pow_left hn f) (Nat.le_trans (Nat.pow_le_pow_right (by decide) hf) (by decide))
theorem frF_stop {r : List Int} {d a : Nat} (hd : 0 < d) (h : r.getD a 0 < 0) : frF r d a = a := by
  obtain ⟨e, rfl⟩ : ∃ e, d = e + 1 := ⟨d - 1, by omega⟩
  unfold frF; rw [if_pos h]
theorem frF_go {r : List Int} {n a : Nat} (hd : a < n) (h : ¬ r.getD a 0 < 0) : frF r (n - a) a = frF r (n - (a + 1)) (a + 1) := by
  obtain ⟨e, he⟩ : ∃ e, n - a = e + 1 := ⟨n - a - 1, by omega⟩
  rw [he, show n - (a + 1) = e by omega]
  show (if r.getD a 0 < 0 then a else frF r e (a + 1)) = _
  rw [if_neg h]
theorem Ow.capRow2 {B H : AH} {L : List Th} (h : Ow B H L) (k : Nat) {z n : Nat} {ty : TypeId} {v : Value} {vs : List Value} (hk : L[k]? = some (.cap z ty v n vs)) : ∀ i o u m c, v = .slice (some ⟨i, o, u⟩) m c → ∃ r, H.row i = some r ∧ o ≤ r.cells.length := by
  intro i o u m c e
  obtain ⟨S, _, hp⟩ := h.at hk
  rcases hp.2 with ⟨_, e2⟩ | ⟨i', rest, _, e2, hr⟩
  · rw [e2] at e; cases e
  · rw [e2] at e
    simp only [Value.slice.injEq, Option.some.injEq, Addr.mk.injEq] at e
    obtain ⟨⟨rfl, rfl, _⟩, _⟩ := e
    exact ⟨_, hr, Nat.zero_le _⟩
theorem l05Fill_c (n : Nat) (hn : 2 ≤ n ∧ n ≤ 6) (mt : Nat → Nat → Bool) (bv mv : Value) (row : List Int) (hrb : ∀ x, x < n → -1 ≤ row.getD x 0 ∧ row.getD x 0 ≤ 1) :
    ∀ (f : Nat) (r : List Int) (a : Nat) (H : AH), r.length = 14 → (∀ x, x < n → -1 ≤ r.getD x 0 ∧ r.getD x 0 ≤ 14) → a ≤ n → n < f + a → f ≤ 7 → Rd 1 H bv n row → RdB H mv n mt →
    ACalls Tryz.prog 89 [.int .i64 n, bv, mv, .agg (ints r).toArray, .int .i64 a] H (fun v H' => Ow H H' [.cap 14 67 v (fillF n mt row f r a).length (ints (fillF n mt row f r a).flatten)]) := by
  intro f
  induction f with
  | zero => intro r a H _ _ h1 h2; omega
  | succ f ih =>
    intro r a H hr14 hrr ha hf hf7 hbv hmv
    refine ACalls.wf (by kernel_rfl) fun hs => za3 [.tmp 10] Tryz.func89 (by kernel_rfl) rfl rfl (Nat.le_of_ble_eq_true rfl) (by kernel_rfl) ?_
    have hbo := hbv.one
    have hmo := hmv.one
    have o1 := (Ow.refl hs).push ⟨67, true, ints r⟩
    try simp (disch := first | omega | (simp only [L3] <;> omega)) only [Sall,evalOp,init,binA_s,binE,binI,unE,convE,okNil,builtE,gv,TD.isAgg,resV,↓reduceIte,Nat.reduceEqDiff,reduceCtorEq,Nat.reduceAdd,Nat.reduceMul,Nat.reduceLeDiff,za0,za2,Int.reduceEq,Int.reduceLT,Int.reduceLE,Nat.reduceLT,tiA,tiXA, hr14]
    revert o1
    generalize e1 : H.push ⟨67, true, ints r⟩ = H1
    intro o1
    have n1 : H1.next = H.next + 1 := by rw [← e1]; rfl
    clear e1
    have r1 := (o1.rowAt 0 rfl).1
    refine za5 (fun m t H' => H' = H1 ∧ ∃ c : Nat, m = n - c ∧ a ≤ c ∧ c ≤ n ∧ t 11 = .int .i64 c ∧ t 0 = .int .i64 n ∧ t 1 = bv ∧ t 2 = mv ∧ t 8 = .pointer (some ⟨H.next, 0, none⟩) ∧ frF r (n - a) a = frF r (n - c) c) (n - a) ?_ ?_
    · refine ⟨rfl, a, by omega, by omega, by omega, ?_⟩
      try simp (disch := first | omega | (simp only [L3] <;> omega)) only [Sall,evalOp,init,binA_s,binE,binI,unE,convE,okNil,builtE,gv,TD.isAgg,resV,↓reduceIte,Nat.reduceEqDiff,reduceCtorEq,Nat.reduceAdd,Nat.reduceMul,Nat.reduceLeDiff,za0,za2,Int.reduceEq,Int.reduceLT,Int.reduceLE,Nat.reduceLT,tiA,tiXA, true_and]
    · rintro m t H' ⟨rfl, c, hm, hac, hcn, h11, h0, h1, h2, h8, hfr⟩
      by_cases hc : c < n
      · have c1 : decide ((c : Int) < (n : Int)) = true := decide_eq_true (by omega)
        have k1 := ints_get? r c (by omega)
        have gc : (0 : Int) ≤ (c : Int) := by omega
        have gc2 : (c : Int) < ((14 : Nat) : Int) := by omega
        have wc : IntKind.i64.wrap ((c : Int) + 1) = ((c + 1 : Nat) : Int) := w64 ⟨by omega, by omega⟩
        by_cases hneg : r.getD c 0 < 0
        · have c2 : decide ((0 : Int) ≤ r.getD c 0) = false := decide_eq_false (by omega)
          have hfc : frF r (n - a) a = c := hfr.trans (frF_stop (by omega) hneg)
          have hne : ((c : Int) == (n : Int)) = false := beq_eq_false_iff_ne.2 (by omega)
          have eF : fillF n mt row (f + 1) r a = fllP n mt row f r c n := by
            show (if frF r (n - a) a = n then [r] else _) = _
            rw [hfc, if_neg (by omega)]
            rfl
          rw [eF]
          try simp (disch := first | omega | (simp only [L3] <;> omega)) only [Sall,evalOp,init,binA_s,binE,binI,unE,convE,okNil,builtE,gv,TD.isAgg,resV,↓reduceIte,Nat.reduceEqDiff,reduceCtorEq,Nat.reduceAdd,Nat.reduceMul,Nat.reduceLeDiff,za0,za2,Int.reduceEq,Int.reduceLT,Int.reduceLE,Nat.reduceLT,tiA,tiXA, h11, h0, c1, h8, r1, k1, c2, hr14, gc, gc2, hne, wc]
          have o2 := o1.pushSl (k := 14) (n := 0) (ty := 67) (vs := []) rfl
          refine za5 (fun m t H' => ∃ (b : Nat) (u : Value), m = n - b ∧ c + 1 ≤ b ∧ b ≤ n ∧ t 13 = .int .i64 b ∧ t 12 = u ∧ t 11 = .int .i64 c ∧ t 0 = .int .i64 n ∧ t 1 = bv ∧ t 2 = mv ∧ t 8 = .pointer (some ⟨H.next, 0, none⟩) ∧ Ow H H' [.row H.next ⟨67, true, ints r⟩, .cap 14 67 u (fllP n mt row f r c b).length (ints (fllP n mt row f r c b).flatten)]) (n - (c + 1)) ?_ ?_
          · refine ⟨c + 1, .slice (some ⟨H'.next, 0, some 14⟩) 0 0, by omega, by omega, by omega, ?_⟩
            try simp (disch := first | omega | (simp only [L3] <;> omega)) only [Sall,evalOp,init,binA_s,binE,binI,unE,convE,okNil,builtE,gv,TD.isAgg,resV,↓reduceIte,Nat.reduceEqDiff,reduceCtorEq,Nat.reduceAdd,Nat.reduceMul,Nat.reduceLeDiff,za0,za2,Int.reduceEq,Int.reduceLT,Int.reduceLE,Nat.reduceLT,tiA,tiXA, h11, h0, h1, h2, h8, wc]
            rw [zh4]
            exact o2.toCap 1 rfl
          · rintro m t H2 ⟨b, u, hm, hcb, hbn, h13, h12, h11, h0, h1, h2, h8, o3⟩
            try simp (disch := first | omega | (simp only [L3] <;> omega)) only [Sall,evalOp,init,binA_s,binE,binI,unE,convE,okNil,builtE,gv,TD.isAgg,resV,↓reduceIte,Nat.reduceEqDiff,reduceCtorEq,Nat.reduceAdd,Nat.reduceMul,Nat.reduceLeDiff,za0,za2,Int.reduceEq,Int.reduceLT,Int.reduceLE,Nat.reduceLT,tiA,tiXA, h13, h0]
            refine za4 (fun hh => ?_) (fun hh => ?_)
            · have hb : b < n := by omega
              have r2 := (o3.rowAt 0 rfl).1
              have k2 := ints_get? r b (by omega)
              obtain ⟨bi, bo, bu, bc, br, eb, b1, b2, b3, _⟩ := (hbv.same (o3.old hs)).get (by omega)
              have b4 := b3 c (by omega)
              have b5 := b3 b (by omega)
              obtain ⟨mi, mo, mu, mc, mr, em, m1, m2⟩ := hmv.same (o3.old hs)
              obtain ⟨qi, qo, qu, qc, qr, q1, q2, q3⟩ := m2 c (by omega)
              have q4 := q3 b (by omega)
              have gb : (0 : Int) ≤ (b : Int) := by omega
              have gb2 : (b : Int) < ((14 : Nat) : Int) := by omega
              have gb3 : (b : Int) < (n : Int) := by omega
              have gc3 : (c : Int) < (n : Int) := by omega
              have wb : IntKind.i64.wrap ((b : Int) + 1) = ((b + 1 : Nat) : Int) := w64 ⟨by omega, by omega⟩
              have hs1 := hrb c hc
              have hs2 := hrb b hb
              have ws : IntKind.i64.wrap (row.getD c 0 + row.getD b 0) = row.getD c 0 + row.getD b 0 := w64 ⟨by omega, by omega⟩
              have skip : fllB n mt row f r c b = [] → Ow H H2 [.row H.next ⟨67, true, ints r⟩, .cap 14 67 u (fllP n mt row f r c (b + 1)).length (ints (fllP n mt row f r c (b + 1)).flatten)] := fun h => by
                rw [zfA _ _ _ _ _ (by omega), h, List.append_nil]; exact o3
              by_cases s1 : 0 ≤ r.getD b 0
              · have d1 : decide ((0 : Int) ≤ r.getD b 0) = true := decide_eq_true s1
                have hsk := skip (by unfold fllB; rw [if_pos (.inl s1)])
                try simp (disch := first | omega | (simp only [L3] <;> omega)) only [Sall,evalOp,init,binA_s,binE,binI,unE,convE,okNil,builtE,gv,TD.isAgg,resV,↓reduceIte,Nat.reduceEqDiff,reduceCtorEq,Nat.reduceAdd,Nat.reduceMul,Nat.reduceLeDiff,za0,za2,Int.reduceEq,Int.reduceLT,Int.reduceLE,Nat.reduceLT,tiA,tiXA, h13, h11, h1, h2, h8]
                refine zb2 (by kernel_rfl) (by kernel_rfl) ?_
                try simp (disch := first | omega | (simp only [L3] <;> omega)) only [Sall,evalOp,init,binA_s,binE,binI,unE,convE,okNil,builtE,gv,TD.isAgg,resV,↓reduceIte,Nat.reduceEqDiff,reduceCtorEq,Nat.reduceAdd,Nat.reduceMul,Nat.reduceLeDiff,za0,za2,Int.reduceEq,Int.reduceLT,Int.reduceLE,Nat.reduceLT,tiA,tiXA, h13, h11, h1, h2, h8, r2, k2, hr14, gb, gb2, d1, wb]
                exact ⟨n - (b + 1), by omega, b + 1, u, rfl, by omega, by omega, rfl, h12, h0, hsk⟩
              have d1 : decide ((0 : Int) ≤ r.getD b 0) = false := decide_eq_false s1
              by_cases s2 : mt c b = true
              · have hsk := skip (by unfold fllB; rw [if_pos (.inr (.inl s2))])
                rw [s2] at q4
                try simp (disch := first | omega | (simp only [L3] <;> omega)) only [Sall,evalOp,init,binA_s,binE,binI,unE,convE,okNil,builtE,gv,TD.isAgg,resV,↓reduceIte,Nat.reduceEqDiff,reduceCtorEq,Nat.reduceAdd,Nat.reduceMul,Nat.reduceLeDiff,za0,za2,Int.reduceEq,Int.reduceLT,Int.reduceLE,Nat.reduceLT,tiA,tiXA, h13, h11, h1, h2, h8]
                refine zb2 (by kernel_rfl) (by kernel_rfl) ?_
                try simp (disch := first | omega | (simp only [L3] <;> omega)) only [Sall,evalOp,init,binA_s,binE,binI,unE,convE,okNil,builtE,gv,TD.isAgg,resV,↓reduceIte,Nat.reduceEqDiff,reduceCtorEq,Nat.reduceAdd,Nat.reduceMul,Nat.reduceLeDiff,za0,za2,Int.reduceEq,Int.reduceLT,Int.reduceLE,Nat.reduceLT,tiA,tiXA, h13, h11, h1, h2, h8, r2, k2, hr14, gb, gb2, gc, gb3, gc3, em, m1, q1, q2, q4, d1, wb]
                exact ⟨n - (b + 1), by omega, b + 1, u, rfl, by omega, by omega, rfl, h12, h0, hsk⟩
              have s2 : mt c b = false := by simpa using s2
              rw [s2] at q4
              by_cases s3 : row.getD c 0 + row.getD b 0 = 1
              rotate_left
              · have hsk := skip (by unfold fllB; rw [if_pos (.inr (.inr s3))])
                have d3 : (row.getD c 0 + row.getD b 0 != 1) = true := bne_iff_ne.2 s3
                try simp (disch := first | omega | (simp only [L3] <;> omega)) only [Sall,evalOp,init,binA_s,binE,binI,unE,convE,okNil,builtE,gv,TD.isAgg,resV,↓reduceIte,Nat.reduceEqDiff,reduceCtorEq,Nat.reduceAdd,Nat.reduceMul,Nat.reduceLeDiff,za0,za2,Int.reduceEq,Int.reduceLT,Int.reduceLE,Nat.reduceLT,tiA,tiXA, h13, h11, h1, h2, h8]
                refine zb2 (by kernel_rfl) (by kernel_rfl) ?_
                try simp (disch := first | omega | (simp only [L3] <;> omega)) only [Sall,evalOp,init,binA_s,binE,binI,unE,convE,okNil,builtE,gv,TD.isAgg,resV,↓reduceIte,Nat.reduceEqDiff,reduceCtorEq,Nat.reduceAdd,Nat.reduceMul,Nat.reduceLeDiff,za0,za2,Int.reduceEq,Int.reduceLT,Int.reduceLE,Nat.reduceLT,tiA,tiXA, h13, h11, h1, h2, h8, r2, k2, hr14, gb, gb2, gc, gb3, gc3, em, m1, q1, q2, q4, eb, b1, b4, b5, ws, d1, d3, wb]
                exact ⟨n - (b + 1), by omega, b + 1, u, rfl, by omega, by omega, rfl, h12, h0, hsk⟩
              have d3 : (row.getD c 0 + row.getD b 0 != 1) = false := by rw [s3]; rfl
              have hgo : fllB n mt row f r c b = fillF n mt row f (meetN r c b) (c + 1) := by
                unfold fllB
                rw [if_neg]
                rintro (h | h | h)
                · exact s1 h
                · rw [s2] at h; cases h
                · exact h s3
              try simp (disch := first | omega | (simp only [L3] <;> omega)) only [Sall,evalOp,init,binA_s,binE,binI,unE,convE,okNil,builtE,gv,TD.isAgg,resV,↓reduceIte,Nat.reduceEqDiff,reduceCtorEq,Nat.reduceAdd,Nat.reduceMul,Nat.reduceLeDiff,za0,za2,Int.reduceEq,Int.reduceLT,Int.reduceLE,Nat.reduceLT,tiA,tiXA, h13, h11, h1, h2, h8]
              refine zb2 (by kernel_rfl) (by kernel_rfl) ?_
              try simp (disch := first | omega | (simp only [L3] <;> omega)) only [Sall,evalOp,init,binA_s,binE,binI,unE,convE,okNil,builtE,gv,TD.isAgg,resV,↓reduceIte,Nat.reduceEqDiff,reduceCtorEq,Nat.reduceAdd,Nat.reduceMul,Nat.reduceLeDiff,za0,za2,Int.reduceEq,Int.reduceLT,Int.reduceLE,Nat.reduceLT,tiA,tiXA, h13, h11, h1, h2, h8, r2, k2, hr14, gb, gb2, gc, gb3, gc3, em, m1, q1, q2, q4, eb, b1, b4, b5, ws, d1, d3, gc2, wc, h0, h12]
              have hm14 : (meetN r c b).length = 14 := by rw [zb8, hr14]
              have hset : ((ints r).set c (.int .i64 b)).set b (.int .i64 c) = ints (meetN r c b) := by unfold meetN; rw [zaR, zaR]
              have hseg : seg (ints (meetN r c b)) 0 14 = ints (meetN r c b) := by
                unfold seg
                rw [List.drop_zero, List.take_of_length_le (by rw [za1, hm14]; omega)]
              have o4 := (((o3.push ⟨67, true, ints (List.replicate 14 0)⟩).putRow 2 rfl (cs' := ints r)).putRow 2 rfl (cs' := (ints r).set c (.int .i64 b))).putRow 2 rfl (cs' := ((ints r).set c (.int .i64 b)).set b (.int .i64 c))
              refine ⟨by omega, by rw [List.length_set, za1, hr14]; omega, by rw [List.length_set, List.length_set, za1, hr14]; omega, ?_⟩
              rw [hset] at o4 ⊢
              rw [hseg]
              revert o4
              generalize (((H2.push ⟨67, true, ints (List.replicate 14 0)⟩).setCells H2.next (ints r)).setCells H2.next ((ints r).set c (.int .i64 b))).setCells H2.next (ints (meetN r c b)) = H5
              intro o4
              have o4 : Ow H H5 [.row H.next ⟨67, true, ints r⟩, .cap 14 67 u (fllP n mt row f r c b).length (ints (fllP n mt row f r c b).flatten), .row H2.next ⟨67, true, ints (meetN r c b)⟩] := o4
              have hmr : ∀ x, x < n → -1 ≤ (meetN r c b).getD x 0 ∧ (meetN r c b).getD x 0 ≤ 14 := fun x hx => by
                have hg := zcL hr14 (a := c) (b := b) (by omega) (by omega) x
                have := hrr x hx
                rw [hg]
                split
                · omega
                · split <;> omega
              have hih := ih (meetN r c b) (c + 1) H5 hm14 hmr (by omega) (by omega) (by omega) (hbv.same (o4.old hs)) (hmv.same (o4.old hs))
              rw [← hgo] at hih
              rw [eb, em] at hih
              have hl1 := fllP_len (by omega) mt row f r hcb hbn
              have hl2 : (fllB n mt row f r c b).length ≤ n ^ f := by rw [hgo]; exact ze5 (by omega) mt row f _ _
              have hpw := pow6 hn.2 (show f ≤ 7 by omega)
              have hl3 : n * n ^ f ≤ 6 * 279936 := Nat.mul_le_mul hn.2 hpw
              refine ACalls.mono hih ?_
              intro w H6 o6
              have o7 := o4.call o6
              have hw := o6.capOne 0 rfl
              refine Holds.mp ?_
              try simp (disch := first | omega | (simp only [L3] <;> omega)) only [Sall,evalOp,init,binA_s,binE,binI,unE,convE,okNil,builtE,gv,TD.isAgg,resV,↓reduceIte,Nat.reduceEqDiff,reduceCtorEq,Nat.reduceAdd,Nat.reduceMul,Nat.reduceLeDiff,za0,za2,Int.reduceEq,Int.reduceLT,Int.reduceLE,Nat.reduceLT,tiA,tiXA, h12, hw]
              refine o7.appR 1 (c := (fllB n mt row f r c b).length) (l := (fllB n mt row f r c b).flatten) rfl (o7.capRs 3 rfl).rd (Ow.capRow2 o7 3 rfl) rfl (by omega) (by decide) (by omega) ?_
              intro v' H7 n7 o8
              try simp (disch := first | omega | (simp only [L3] <;> omega)) only [Sall,evalOp,init,binA_s,binE,binI,unE,convE,okNil,builtE,gv,TD.isAgg,resV,↓reduceIte,Nat.reduceEqDiff,reduceCtorEq,Nat.reduceAdd,Nat.reduceMul,Nat.reduceLeDiff,za0,za2,Int.reduceEq,Int.reduceLT,Int.reduceLE,Nat.reduceLT,tiA,tiXA, h13, h0, h11, h1, h2, h8, wb]
              refine ⟨n - (b + 1), by omega, b + 1, v', rfl, by omega, by omega, rfl, rfl, ?_⟩
              rw [zfA _ _ _ _ _ (by omega), List.length_append, List.flatten_append, ← zaK]
              exact o8.pick2 0 1 rfl rfl (by omega)
            · have hbe : b = n := by omega
              subst hbe
              try simp (disch := first | omega | (simp only [L3] <;> omega)) only [Sall,evalOp,init,binA_s,binE,binI,unE,convE,okNil,builtE,gv,TD.isAgg,resV,↓reduceIte,Nat.reduceEqDiff,reduceCtorEq,Nat.reduceAdd,Nat.reduceMul,Nat.reduceLeDiff,za0,za2,Int.reduceEq,Int.reduceLT,Int.reduceLE,Nat.reduceLT,tiA,tiXA, h12]
              exact o3.only 1 rfl
        · have c2 : decide ((0 : Int) ≤ r.getD c 0) = true := decide_eq_true (by omega)
          try simp (disch := first | omega | (simp only [L3] <;> omega)) only [Sall,evalOp,init,binA_s,binE,binI,unE,convE,okNil,builtE,gv,TD.isAgg,resV,↓reduceIte,Nat.reduceEqDiff,reduceCtorEq,Nat.reduceAdd,Nat.reduceMul,Nat.reduceLeDiff,za0,za2,Int.reduceEq,Int.reduceLT,Int.reduceLE,Nat.reduceLT,tiA,tiXA, h11, h0, c1, h8, r1, k1, c2, hr14, gc, gc2, wc]
          exact ⟨n - (c + 1), by omega, c + 1, rfl, by omega, by omega, rfl, h1, h2, hfr.trans (frF_go hc hneg)⟩
      · have hcn : c = n := by omega
        have c1 : decide ((c : Int) < (n : Int)) = false := decide_eq_false (by omega)
        have hfc : frF r (n - a) a = n := by rw [hfr, hcn, Nat.sub_self]; rfl
        have he : ((c : Int) == (n : Int)) = true := by rw [hcn]; exact beq_self_eq_true _
        have eF : fillF n mt row (f + 1) r a = [r] := by
          show (if frF r (n - a) a = n then [r] else _) = _
          rw [if_pos hfc]
        rw [eF]
        have z14 : zeros 1 (ints (List.replicate 14 0)) = ints (List.replicate 14 0) := by simp [zeros]
        have hsp : splice (ints (List.replicate 14 0)) 0 (ints r) = ints r := by
          unfold splice
          rw [List.take_zero, List.nil_append, List.drop_eq_nil_of_le (by simp [za1, hr14]), List.append_nil]
        have h14 : 14 ≤ (ints (List.replicate 14 0)).length := by simp [ints]
        have o2 := (o1.pushSl (k := 14) (n := 1) (ty := 67) (vs := ints r) (by rw [za1, hr14])).toCap 1 rfl
        try simp (disch := first | omega | (simp only [L3] <;> omega)) only [Sall,evalOp,init,binA_s,binE,binI,unE,convE,okNil,builtE,gv,TD.isAgg,resV,↓reduceIte,Nat.reduceEqDiff,reduceCtorEq,Nat.reduceAdd,Nat.reduceMul,Nat.reduceLeDiff,za0,za2,Int.reduceEq,Int.reduceLT,Int.reduceLE,Nat.reduceLT,tiA,tiXA, h11, h0, c1, h8, r1, he, hr14, z14, hsp, h14]
        have e1 : [r].flatten = r := by simp
        rw [e1]
        exact o2.only 1 rfl
end Go.Proofs.YtemgclojolmhbaaGreat.A
end

section
namespace Go.Abs
open Go Go.RowKit
def headIs (cs : List Nat) (i : Nat) : Bool := match cs with | c :: _ => i == c | [] => false
def okPool (ops : Array Oper) (post : OT) : Nat → List Nat → List Nat → Array Bool → Bool
  | 0, cs, fs, listed => cs.isEmpty && fs.isEmpty && okOT ops post listed
  | n + 1, cs, fs, listed =>
    if cs.isEmpty && fs.isEmpty then okOT ops post listed else
    !(Region.ready .any ops listed).isEmpty && (Region.ready .any ops listed).all (fun i => headIs cs i || fs.contains i) &&
    (match cs with | c :: cs' => (!(Region.ready .any ops listed).contains c) || okPool ops post n cs' fs (listed.setIfInBounds c true) | [] => true) &&
    fs.all fun a => (!(Region.ready .any ops listed).contains a) || okPool ops post n cs (fs.erase a) (listed.setIfInBounds a true)
def okPre (ops : Array Oper) (post : OT) (cs fs : List Nat) : List Nat → Array Bool → Bool
  | [], listed => okPool ops post (cs.length + fs.length) cs fs listed
  | i :: is, listed =>
    (match ops[i]? with
     | some o => if za0 o.op = true then (Region.ready .any ops listed).contains i && Region.free .any ops listed i else Region.ready .any ops listed == [i]
     | none => false) && okPre ops post cs fs is (listed.setIfInBounds i true)
structure PoolJ (P : Program) (ops : Array Oper) (Q : T → AH → Prop) (post : OT) (J : List Nat → List Nat → T → AH → Prop) : Prop where
  call : ∀ c cs fs t H, J (c :: cs) fs t H → stepI P ops (J cs fs) c (ops.toList[c]?) t H
  free : ∀ a cs fs t H, a ∈ fs → J cs fs t H → stepI P ops (J cs (fs.erase a)) a (ops.toList[a]?) t H
  done : ∀ t H, J [] [] t H → awpT P ops Q post t H
end Go.Abs
end

section
namespace Go.Abs
open Go Go.RowKit
structure PoolK (P : Program) (ops : Array Oper) (Q : T → AH → Prop) (post : OT) (qs : List Nat) (J : List Nat → List Nat → T → AH → Prop) (K : List Nat → T → AH → Prop) : Prop where
  call : ∀ c cs fs t H, J (c :: cs) fs t H → stepI P ops (J cs fs) c (ops.toList[c]?) t H
  free : ∀ a cs fs t H, a ∈ fs → J cs fs t H → stepI P ops (J cs (fs.erase a)) a (ops.toList[a]?) t H
  quiet : ∀ fs t H, J [] fs t H → awpI P ops (K fs) qs t H
  free2 : ∀ a fs t H, a ∈ fs → K fs t H → stepI P ops (K (fs.erase a)) a (ops.toList[a]?) t H
  done : ∀ t H, K [] t H → awpT P ops Q post t H
end Go.Abs
end

section
namespace Go.Abs
open Go Go.RowKit
structure PoolS (P : Program) (ops : Array Oper) (S : Nat → Prop) (Q : T → AH → Prop) (post : OT) (J : List Nat → List Nat → T → AH → Prop) : Prop where
  call : ∀ c cs fs t H, J (c :: cs) fs t H → stepIS P ops S (J cs fs) c (ops.toList[c]?) t H
  free : ∀ a cs fs t H, a ∈ fs → J cs fs t H → stepIS P ops S (J cs (fs.erase a)) a (ops.toList[a]?) t H
  done : ∀ t H, J [] [] t H → awpTS P ops S Q post t H
theorem zeN {P : Program} {ops : Array Oper} {S : Nat → Prop} {Q : T → AH → Prop} {post : OT} {J : List Nat → List Nat → T → AH → Prop} (hJ : PoolS P ops S Q post J) : ∀ (n : Nat) (cs fs : List Nat) (listed : Array Bool) (t : T) (H : AH) (f : Nat), n + post.depth ≤ f → Closed ops listed → okPool ops post n cs fs listed = true → J cs fs t H → AAnyS P ops S Q f listed t H
  | 0, cs, fs, listed, t, H, f, hf, hc, hok, h => by
    simp only [okPool, Bool.and_eq_true, List.isEmpty_iff] at hok
    obtain ⟨⟨rfl, rfl⟩, h3⟩ := hok
    exact zbN post listed t H f (by omega) hc h3 (hJ.done t H h)
  | n + 1, cs, fs, listed, t, H, 0, hf, hc, hok, h => by omega
  | n + 1, cs, fs, listed, t, H, f + 1, hf, hc, hok, h => by
    unfold okPool at hok
    split at hok
    · rename_i he
      simp only [Bool.and_eq_true, List.isEmpty_iff] at he
      obtain ⟨rfl, rfl⟩ := he
      exact zbN post listed t H (f + 1) (by omega) hc hok (hJ.done t H h)
    · simp only [Bool.and_eq_true] at hok
      obtain ⟨⟨⟨h1, h2⟩, h3⟩, h4⟩ := hok
      refine ⟨fun h0 => (by rw [h0] at h1; simp at h1), fun i hi => ?_⟩
      have hci : (Region.ready .any ops listed).contains i = true := by simpa using hi
      have h5 := List.all_eq_true.1 h2 i hi
      rw [Bool.or_eq_true] at h5
      rcases h5 with h5 | h5
      · cases cs with
        | nil => simp [headIs] at h5
        | cons c cs' =>
          have e : i = c := by simpa [headIs] using h5
          subst e
          simp only [hci, Bool.not_true, Bool.false_or] at h3
          exact zaU (zc6 (hJ.call i cs' fs t H h)) fun t' H' hk => ⟨hk.1, zeN hJ n cs' fs _ t' H' f (by omega) (hc.set hi) h3 hk.2⟩
      · have hm : i ∈ fs := List.contains_iff_mem.1 h5
        have h6 := List.all_eq_true.1 h4 i hm
        simp only [hci, Bool.not_true, Bool.false_or] at h6
        exact zaU (zc6 (hJ.free i cs fs t H hm h)) fun t' H' hk => ⟨hk.1, zeN hJ n cs (fs.erase i) _ t' H' f (by omega) (hc.set hi) h6 hk.2⟩
theorem zfP {P : Program} {ops : Array Oper} {S : Nat → Prop} {Q : T → AH → Prop} {post : OT} {J : List Nat → List Nat → T → AH → Prop} (hJ : PoolS P ops S Q post J) (cs fs : List Nat) : ∀ (is : List Nat) (listed : Array Bool) (t : T) (H : AH) (f : Nat), is.length + (cs.length + fs.length + post.depth) ≤ f → Closed ops listed → okPre ops post cs fs is listed = true → awpIS P ops S (J cs fs) is t H → AAnyS P ops S Q f listed t H
  | [], listed, t, H, f, hf, hc, hok, h => zeN hJ _ cs fs listed t H f (by simpa using hf) hc hok h
  | i :: is, listed, t, H, 0, hf, hc, hok, h => by simp at hf
  | i :: is, listed, t, H, f + 1, hf, hc, hok, h => by
    simp only [okPre, Bool.and_eq_true] at hok
    simp only [List.length_cons] at hf
    obtain ⟨h1, h2⟩ := hok
    unfold awpIS at h
    cases ho : ops[i]? with
    | none => simp [ho] at h1
    | some o =>
      simp only [ho] at h1
      split at h1
      · rename_i hq
        simp only [Bool.and_eq_true] at h1
        obtain ⟨hr, hfr⟩ := h1
        have hr' : i ∈ Region.ready .any ops listed := by simpa using hr
        obtain ⟨v, hy, hk⟩ := zbZ ho hq (zc6 h)
        obtain ⟨⟨o', e', hl'⟩, _⟩ := zfB h
        have eo : o' = o := by
          have e2 : ops.toList[i]? = some o := by simpa using ho
          exact Option.some.inj (e'.symm.trans e2)
        subst eo
        exact zdO ho hq f listed t H hc (Region.free_spec ho hfr) hr' (zi6 hq hl') hy (zfP hJ cs fs is _ _ H f (by omega) (hc.set hr') h2 hk.2)
      · have hr : Region.ready .any ops listed = [i] := by simpa using h1
        refine ⟨fun h0 => (by rw [hr] at h0; cases h0), fun j hj => ?_⟩
        have hji : j = i := by rw [hr] at hj; simpa using hj
        subst hji
        exact zaU (zc6 h) fun t' H' hk => ⟨hk.1, zfP hJ cs fs is _ t' H' f (by omega) (hc.set hj) h2 hk.2⟩
theorem draw_poolS {P : Program} {id : Nat} {ops : Array Oper} {Q : Exit → T → AH → Prop} {t : T} {H : AH} (S : Nat → Prop) (is cs fs : List Nat) (post : OT) (hm : P.follows .mixedOrders = true) (hok : okPre ops post cs fs is (Array.replicate ops.size false) = true) (hl : is.length + (cs.length + fs.length + post.depth) ≤ ops.size)
    (J : List Nat → List Nat → T → AH → Prop) (hJ : PoolS P ops S (Q .normal) post J) (h : awpIS P ops S (J cs fs) is t H) : awp P (.region id ops true) Q t H := by
  intro base ρ w tmps QC hS hd hQ
  have hA := zfP hJ cs fs is _ t H ops.size hl ⟨by simp, fun j oj hj hl => by rw [zb4] at hl; cases hl⟩ hok h
  refine wp_region_any hm (zfG ops.size _ t H ρ w.drew tmps hA ⟨hS.1.drew, hS.2.ext (zc9 (base := base) (H := H) w)⟩ ?_ fun t' H' ρ' w' tmps' hq hs he hz => ?_)
  · intro o ho i hi
    have := List.all_eq_true.1 hd o ho
    simp only [hi, decide_eq_true_eq] at this
    exact this
  · exact hQ .normal t' H' ρ' w' tmps' hq hs ((zc9 (base := base) (H := H) (ρ := ρ) w).trans he) hz
end Go.Abs
end

section
namespace Go.Abs
open Go Go.RowKit
structure PoolN (P : Program) (ops : Array Oper) (S : Nat → Prop) (Q : T → AH → Prop) (post : OT) (need : List (Nat × Nat)) (qs : List Nat) (J : List Nat → List Nat → T → AH → Prop) (K : List Nat → T → AH → Prop) : Prop where
  call : ∀ c cs fs t H, (∀ a, a ∈ fs → ¬ (c, a) ∈ need) → J (c :: cs) fs t H → stepIS P ops S (J cs fs) c (ops.toList[c]?) t H
  free : ∀ a cs fs t H, a ∈ fs → J cs fs t H → stepIS P ops S (J cs (fs.erase a)) a (ops.toList[a]?) t H
  quiet : ∀ fs t H, J [] fs t H → awpIS P ops S (K fs) qs t H
  free2 : ∀ a fs t H, a ∈ fs → K fs t H → stepIS P ops S (K (fs.erase a)) a (ops.toList[a]?) t H
  done : ∀ t H, K [] t H → awpTS P ops S Q post t H
end Go.Abs
end

section
set_option maxRecDepth 100000
set_option maxHeartbeats 4000000
namespace Go.Proofs.YtemgclojolmhbaaGreat.A
open Go Go.Abs Go.RowKit
def mtR (n : Nat) (D : List (List Int)) (i a : Nat) : List Bool := (List.range n).map fun b => metR (D.take i) a b
def mtL (n : Nat) (D : List (List Int)) (a : Nat) : List (List Bool) := (List.range a).map fun x => mtR n D D.length x
theorem zg9 (n : Nat) (D : List (List Int)) (a : Nat) : (mtL n D a).length = a := by simp [mtL]
theorem mtL_succ (n : Nat) (D : List (List Int)) (a : Nat) : mtL n D (a + 1) = mtL n D a ++ [mtR n D D.length a] := by simp [mtL, List.range_succ]
theorem mtR_zero (n : Nat) (D : List (List Int)) (a : Nat) : mtR n D 0 a = List.replicate n false := by
  apply List.ext_getElem (by simp [mtR])
  intro i h1 h2
  simp [mtR, metR]
theorem mtR_succ {n : Nat} {D : List (List Int)} {i a b : Nat} (hi : i < D.length) (hb : b < n) (h : (D.getD i []).getD a 0 = (b : Int)) : (mtR n D i a).set b true = mtR n D (i + 1) a := by
  apply List.ext_getElem (by simp [mtR])
  intro x h1 h2
  have hx : x < n := by simpa [mtR] using h2
  have et : D.take (i + 1) = D.take i ++ [D.getD i []] := by
    rw [List.getD_eq_getElem?_getD, List.getElem?_eq_getElem hi, List.take_add_one, List.getElem?_eq_getElem hi]; rfl
  rw [List.getElem_set]
  simp only [mtR, List.getElem_map, List.getElem_range]
  rw [et]
  unfold metR
  rw [List.any_append, List.any_cons, List.any_nil, Bool.or_false, h]
  by_cases e : b = x
  · rw [if_pos e, e]
    simp
  · rw [if_neg e]
    have : ((b : Int) == (x : Int)) = false := beq_eq_false_iff_ne.2 (by omega)
    rw [this, Bool.or_false]
theorem mtL_at {n : Nat} {D : List (List Int)} {a : Nat} (h : a < n) : (mtL n D n).getD a [] = mtR n D D.length a := by simp [mtL, List.getD_eq_getElem?_getD, h]
def fr1 (a : Nat) : List Int := (List.range 14).map fun x => if x < a then -1 else 0
theorem zeQ (a : Nat) : (fr1 a).length = 14 := by simp [fr1]
theorem fr1_zero : fr1 0 = List.replicate 14 0 := by decide
theorem fr1_at (a x : Nat) : (fr1 a).getD x 0 = if x < a ∧ x < 14 then -1 else 0 := by
  unfold fr1
  rw [List.getD_eq_getElem?_getD, List.getElem?_map]
  by_cases h : x < 14
  · rw [List.getElem?_range h]
    show (if x < a then (-1 : Int) else 0) = _
    by_cases h2 : x < a
    · rw [if_pos h2, if_pos ⟨h2, h⟩]
    · rw [if_neg h2, if_neg (fun e => h2 e.1)]
  · rw [List.getElem?_eq_none (by simpa using h), if_neg (fun e => h e.2)]; rfl
theorem fr1_succ {a : Nat} (h : a < 14) : (fr1 a).set a (-1) = fr1 (a + 1) := by
  apply List.ext_getElem (by simp [fr1])
  intro i h1 h2
  rw [List.getElem_set]
  simp only [fr1, List.getElem_map, List.getElem_range]
  by_cases e : a = i
  · rw [if_pos e, if_pos (by omega)]
  · rw [if_neg e]
    by_cases e2 : i < a
    · rw [if_pos e2, if_pos (by omega)]
    · rw [if_neg e2, if_neg (by omega)]
theorem rel_fr1 {n : Nat} (hn : n ≤ 14) (row : List Int) : RelR n 0 row (fr1 n) (freP n) := by
  refine ⟨zeQ n, zcH n, fun x hx => .inl ⟨?_, ?_⟩, fun x hx => ?_, fun x hx => by omega⟩
  · rw [fr1_at, if_pos ⟨hx, by omega⟩]; decide
  · rw [zg7 n (by omega), if_pos hx]
  · rw [fr1_at, if_neg (by omega)]
    by_cases h : x < 14
    · rw [zg7 n h, if_neg (by omega)]
    · rw [List.getD_eq_getElem?_getD, List.getElem?_eq_none (by rw [zcH]; omega)]; rfl
theorem fill_fitL {n : Nat} (hn : n ≤ 14) (rows D : List (List Int)) : fillF n (metR D) (rows.getD D.length []) (n + 1) (fr1 n) 0 = fitL n rows D :=
  fill_eq hn (n + 1) _ _ 0 (Nat.zero_le _) (rel_fr1 hn _)
theorem Ow.rdBf {B H : AH} {L : List Th} (h : Ow B H L) (k : Nat) {ty ty' : TypeId} {v : Value} {n : Nat} {LL : List (List Bool)} {mt : Nat → Nat → Bool} (hn : 0 < n) (hl : LL.length = n) (hr : ∀ a, a < n → (LL.getD a []) = (List.range n).map fun b => mt a b) (hk : L[k]? = some (.sl2 Value.bool ty ty' v LL)) : RdB H v n mt := by
  obtain ⟨i, vs, x, _, _, hv, hr1, hvl, _⟩ := h.get2 k hk (j := 0) (by omega)
  rw [hl] at hv hvl
  refine ⟨i, 0, some 1, n, _, hv, hr1, fun a ha => ?_⟩
  obtain ⟨i', vs', x', _, _, hv', hr', _, hx, _, hq⟩ := h.get2 k hk (j := a) (by omega)
  rw [hl] at hv'
  rw [hv] at hv'
  cases hv'
  rw [hr1] at hr'
  cases hr'
  have hln : (LL.getD a []).length = n := by rw [hr a ha]; simp
  rw [hln] at hq
  obtain ⟨q, _, _, _, rfl, hqr⟩ := hq hn
  refine ⟨q, 0, some 1, n, _, by rw [Nat.zero_add]; exact hx, hqr, fun b hb => ?_⟩
  rw [Nat.zero_add, hr a ha]
  simp [hb]
def RdsOk (n : Nat) (D : List (List Int)) : Prop := ∀ r ∈ D, r.length = 14 ∧ ∀ a, a < n → 0 ≤ r.getD a 0 ∧ r.getD a 0 < (n : Int)
theorem RdsOk.flat {n : Nat} {D : List (List Int)} (h : RdsOk n D) : D.flatten.length = D.length * 14 := by
  induction D with
  | nil => rfl
  | cons r D ih =>
    rw [List.flatten_cons, List.length_append, (h r (List.mem_cons_self ..)).1, ih fun y hy => h y (List.mem_cons_of_mem _ hy), List.length_cons]
    omega
theorem RdsOk.at {n : Nat} {D : List (List Int)} (h : RdsOk n D) {i a : Nat} (hi : i < D.length) (ha : a < 14) : D.flatten.getD (i * 14 + a) 0 = (D.getD i []).getD a 0 := by
  rw [← zfV (fun r hr => (h r hr).1) i hi]
  unfold rnd
  rw [List.getD_eq_getElem?_getD (l := List.take _ _), List.getElem?_take, if_pos (by omega), List.getElem?_drop, ← List.getD_eq_getElem?_getD]
def SrQ (n : Nat) (rows : List (List Int)) (d : Nat) (D : List (List Int)) (H : AH) (v : Value) (H' : AH) : Prop :=
  ∃ w, v = .tuple #[w, .bool (fitP n rows d D).isSome] ∧ Up H.next H H' ∧ Sc H' ∧ Rd 14 H' w ((fitP n rows d D).getD []).length ((fitP n rows d D).getD []).flatten
structure SrJ (A : AH) (n k : Nat) (wv dv wl : Value) (i : Nat) (l z : List Int) (cs fs : List Nat) (t : T) (H : AH) : Prop where
  hcs : cs = [2, 4] ∨ cs = [4] ∨ cs = []
  hfs : fs = [9] ∨ fs = []
  t0 : t 0 = .int .i64 n
  t1 : t 1 = wv
  t2 : t 2 = dv
  t13 : t 13 = wl
  t14 : t 14 = .int .i64 i
  t68 : t 68 = .int .i64 n
  t69 : t 69 = wv
  t71 : t 71 = dv
  t76 : t 76 = .agg (ints z).toArray
  ow : ∃ a b, Ow A H [a, b] ∧ (cs = [4] → a = .cap 14 67 (t 70) 0 []) ∧ (cs = [] → a = .cap 14 67 (t 72) k (ints l)) ∧ (fs = [] → b = .sl 14 67 (t 77) 1 (ints z))
section
variable {A H H' : AH} {n k i : Nat} {wv dv wl : Value} {l z : List Int} {cs fs : List Nat} {t : T}
theorem SrJ.two (h : SrJ A n k wv dv wl i l z [2, 4] fs t H) : SrJ A n k wv dv wl i l z [4] fs (upd t 70 (.slice (some ⟨H.next, 0, some 14⟩) 0 0)) (H.push ⟨67, true, []⟩) := by
  obtain ⟨a, b, o, h1, h2, h3⟩ := h.ow
  exact ⟨.inr (.inl rfl), h.hfs, h.t0, h.t1, h.t2, h.t13, h.t14, h.t68, h.t69, h.t71, h.t76, _, b, ((o.fillRow 0 rfl ⟨67, true, []⟩).row_sl 0 (n := 0) (z := 14) rfl rfl).toCap 0 rfl, fun _ => rfl, fun e => (by cases e), h3⟩
theorem SrJ.four (h : SrJ A n k wv dv wl i l z [4] fs t H) {w : Value} {b : Th} (o : Ow A H' [.cap 14 67 w k (ints l), b]) (hb : fs = [] → b = .sl 14 67 (t 77) 1 (ints z)) : SrJ A n k wv dv wl i l z [] fs (upd t 72 w) H' :=
  ⟨.inr (.inr rfl), h.hfs, h.t0, h.t1, h.t2, h.t13, h.t14, h.t68, h.t69, h.t71, h.t76, _, b, o, fun e => (by cases e), fun _ => rfl, hb⟩
theorem SrJ.nine (h : SrJ A n k wv dv wl i l z cs fs t H) (hz : z.length = 14) : SrJ A n k wv dv wl i l z cs [] (upd t 77 (.slice (some ⟨H.next, 0, some 14⟩) 1 1)) (H.push ⟨67, true, ints z⟩) := by
  obtain ⟨a, b, o, h1, h2, h3⟩ := h.ow
  exact ⟨h.hcs, .inr rfl, h.t0, h.t1, h.t2, h.t13, h.t14, h.t68, h.t69, h.t71, h.t76, a, _, (o.fillRow 1 rfl ⟨67, true, ints z⟩).row_sl 1 (n := 1) (z := 14) rfl (by rw [za1, hz]), h1, h2, fun _ => rfl⟩
end
theorem l05Search_c (n : Nat) (hn : 2 ≤ n ∧ n ≤ 6) (rows : List (List Int)) (hrl : rows.length = n - 1) (hrr : ∀ i, i < n - 1 → (rows.getD i []).length = n ∧ ∀ x, x < n → -1 ≤ (rows.getD i []).getD x 0 ∧ (rows.getD i []).getD x 0 ≤ 1) (wv : Value) :
    ∀ (d : Nat) (D : List (List Int)) (dv : Value) (H : AH), D.length + d + 1 = n → (∀ r ∈ D, roundB n r = true) → RdsOk n D → Rd2 1 H wv rows → Rd 14 H dv D.length D.flatten → (∀ i o u n c, dv = .slice (some ⟨i, o, u⟩) n c → ∃ r, H.row i = some r ∧ o ≤ r.cells.length) →
    ACalls Tryz.prog 63 [.int .i64 n, wv, dv] H (SrQ n rows d D H) := by
  intro d
  induction d with
  | zero =>
    intro D dv H hD hDB hDR hw hd hdr
    refine ACalls.wf (by kernel_rfl) fun hs => za3 [.tmp 6, .tmp 7] Tryz.func63 (by kernel_rfl) rfl rfl (Nat.le_of_ble_eq_true rfl) (by kernel_rfl) ?_
    have hlw := hw.len
    have hld := hd.len
    have hdo := hd.one
    have e1 : ((D.length : Int) == (rows.length : Int)) = true := beq_iff_eq.2 (by omega)
    try simp (disch := first | omega | (simp only [L3] <;> omega)) only [Sall,evalOp,init,binA_s,binE,binI,unE,convE,okNil,builtE,gv,TD.isAgg,resV,↓reduceIte,Nat.reduceEqDiff,reduceCtorEq,Nat.reduceAdd,Nat.reduceMul,Nat.reduceLeDiff,za0,za2,Int.reduceEq,Int.reduceLT,Int.reduceLE,Nat.reduceLT,tiA,tiXA, builtE, hlw, hld, e1, hdo]
    exact ⟨_, rfl, Up.refl _ _, hs, hd⟩
  | succ d ih =>
    intro D dv H hD hDB hDR hw hd hdr
    refine ACalls.wf (by kernel_rfl) fun hs => za3 [.tmp 6, .tmp 7] Tryz.func63 (by kernel_rfl) rfl rfl (Nat.le_of_ble_eq_true rfl) (by kernel_rfl) ?_
    have hlw := hw.len
    have hld := hd.len
    have hdo := hd.one
    have hwo := hw.one
    have e1 : ((D.length : Int) == (rows.length : Int)) = false := beq_eq_false_iff_ne.2 (by omega)
    have z14 : zeros 1 (ints (List.replicate 14 0)) = ints (List.replicate 14 0) := by simp [zeros]
    have o1 := (((Ow.refl hs).pushSl2 Value.bool 109 4).push ⟨67, true, ints (List.replicate 14 0)⟩).putRow 1 rfl (cs' := ints (List.replicate 14 0))
    try simp (disch := first | omega | (simp only [L3] <;> omega)) only [Sall,evalOp,init,binA_s,binE,binI,unE,convE,okNil,builtE,gv,TD.isAgg,resV,↓reduceIte,Nat.reduceEqDiff,reduceCtorEq,Nat.reduceAdd,Nat.reduceMul,Nat.reduceLeDiff,za0,za2,Int.reduceEq,Int.reduceLT,Int.reduceLE,Nat.reduceLT,tiA,tiXA, builtE, hlw, hld, e1, hdo, z14]
    obtain ⟨fi, efi⟩ : ∃ fi, fi = H.next + 1 := ⟨_, rfl⟩
    rw [← efi]
    have o1 : Ow H (((H.push ⟨109, true, []⟩).push ⟨67, true, ints (List.replicate 14 0)⟩).setCells fi (ints (List.replicate 14 0))) [.sl2 Value.bool 109 4 (.slice (some ⟨H.next, 0, some 1⟩) 0 0) ([] : List (List Bool)), .row fi ⟨67, true, ints (List.replicate 14 0)⟩] := by rw [efi]; exact o1
    refine za5 (fun m t H' => ∃ (a : Nat) (u : Value), m = n - a ∧ a ≤ n ∧ t 10 = .int .i64 a ∧ t 8 = u ∧ t 0 = .int .i64 n ∧ t 1 = wv ∧ t 2 = dv ∧ t 9 = .pointer (some ⟨fi, 0, none⟩) ∧ Ow H H' [.sl2 Value.bool 109 4 u (mtL n D a), .row fi ⟨67, true, ints (fr1 a)⟩]) n ?_ ?_
    · refine ⟨0, .slice (some ⟨H.next, 0, some 1⟩) 0 0, by omega, by omega, ?_⟩
      try simp (disch := first | omega | (simp only [L3] <;> omega)) only [Sall,evalOp,init,binA_s,binE,binI,unE,convE,okNil,builtE,gv,TD.isAgg,resV,↓reduceIte,Nat.reduceEqDiff,reduceCtorEq,Nat.reduceAdd,Nat.reduceMul,Nat.reduceLeDiff,za0,za2,Int.reduceEq,Int.reduceLT,Int.reduceLE,Nat.reduceLT,tiA,tiXA, Int.natCast_zero]
      rw [fr1_zero]
      exact o1
    · rintro m t H' ⟨a, u, hm, ha, h10, h8, h0, h1, h2, h9, o2⟩
      have r1 := (o2.rowAt 1 rfl).1
      try simp (disch := first | omega | (simp only [L3] <;> omega)) only [Sall,evalOp,init,binA_s,binE,binI,unE,convE,okNil,builtE,gv,TD.isAgg,resV,↓reduceIte,Nat.reduceEqDiff,reduceCtorEq,Nat.reduceAdd,Nat.reduceMul,Nat.reduceLeDiff,za0,za2,Int.reduceEq,Int.reduceLT,Int.reduceLE,Nat.reduceLT,tiA,tiXA, h10, h0]
      refine za4 (fun hh => ?_) (fun hh => ?_)
      · have han : a < n := by omega
        have ga : (0 : Int) ≤ (a : Int) := by omega
        have ga2 : (a : Int) < ((14 : Nat) : Int) := by omega
        have ga3 : a < 14 := by omega
        have hf14 := zeQ a
        have wa : IntKind.i64.wrap ((a : Int) + 1) = ((a + 1 : Nat) : Int) := w64 ⟨by omega, by omega⟩
        have zn : zeros n [.bool false] = bools (List.replicate n false) := by simp [zeros, bools]
        have o3 := (o2.putRow 1 rfl (cs' := (ints (fr1 a)).set a (.int .i64 (-1)))).pushSl (k := 1) (n := n) (ty := 4) (vs := bools (List.replicate n false)) (by simp [bools])
        try simp (disch := first | omega | (simp only [L3] <;> omega)) only [Sall,evalOp,init,binA_s,binE,binI,unE,convE,okNil,builtE,gv,TD.isAgg,resV,↓reduceIte,Nat.reduceEqDiff,reduceCtorEq,Nat.reduceAdd,Nat.reduceMul,Nat.reduceLeDiff,za0,za2,Int.reduceEq,Int.reduceLT,Int.reduceLE,Nat.reduceLT,tiA,tiXA, h10, h0, h1, h2, h8, h9, r1, ga, ga2, ga3, hf14, zn]
        refine ⟨⟨by omega, by omega, by omega⟩, ?_⟩
        rw [zaR, fr1_succ ga3] at o3 ⊢
        obtain ⟨bi, ebi⟩ : ∃ bi, bi = H'.next := ⟨_, rfl⟩
        rw [← mtR_zero n D a] at o3 ⊢
        rw [← ebi]
        have o3 : Ow H ((H'.setCells fi (ints (fr1 (a + 1)))).push ⟨4, true, bools (mtR n D 0 a)⟩) [.sl2 Value.bool 109 4 u (mtL n D a), .row fi ⟨67, true, ints (fr1 (a + 1))⟩, .sl 1 4 (.slice (some ⟨bi, 0, some 1⟩) n n) n (bools (mtR n D 0 a))] := by rw [ebi]; exact o3
        revert o3
        generalize (H'.setCells fi (ints (fr1 (a + 1)))).push ⟨4, true, bools (mtR n D 0 a)⟩ = H3
        intro o3
        refine za5 (fun m' t Hx => ∃ i : Nat, m' = D.length - i ∧ i ≤ D.length ∧ t 12 = .int .i64 i ∧ t 11 = .slice (some ⟨bi, 0, some 1⟩) n n ∧ t 10 = .int .i64 a ∧ t 8 = u ∧ t 0 = .int .i64 n ∧ t 1 = wv ∧ t 2 = dv ∧ t 9 = .pointer (some ⟨fi, 0, none⟩) ∧ Ow H Hx [.sl2 Value.bool 109 4 u (mtL n D a), .row fi ⟨67, true, ints (fr1 (a + 1))⟩, .sl 1 4 (.slice (some ⟨bi, 0, some 1⟩) n n) n (bools (mtR n D i a))]) D.length ?_ ?_
        · refine ⟨0, by omega, by omega, ?_⟩
          try simp (disch := first | omega | (simp only [L3] <;> omega)) only [Sall,evalOp,init,binA_s,binE,binI,unE,convE,okNil,builtE,gv,TD.isAgg,resV,↓reduceIte,Nat.reduceEqDiff,reduceCtorEq,Nat.reduceAdd,Nat.reduceMul,Nat.reduceLeDiff,za0,za2,Int.reduceEq,Int.reduceLT,Int.reduceLE,Nat.reduceLT,tiA,tiXA, Int.natCast_zero, h10, h0, h1, h2, h8, h9]
          exact o3
        · rintro m' t Hx ⟨i, hm', hi, h12, h11, h10, h8, h0, h1, h2, h9, o4⟩
          have hld2 := hld
          try simp (disch := first | omega | (simp only [L3] <;> omega)) only [Sall,evalOp,init,binA_s,binE,binI,unE,convE,okNil,builtE,gv,TD.isAgg,resV,↓reduceIte,Nat.reduceEqDiff,reduceCtorEq,Nat.reduceAdd,Nat.reduceMul,Nat.reduceLeDiff,za0,za2,Int.reduceEq,Int.reduceLT,Int.reduceLE,Nat.reduceLT,tiA,tiXA, h12, h2, builtE, hld]
          refine za4 (fun hh2 => ?_) (fun hh2 => ?_)
          · have hiD : i < D.length := by omega
            obtain ⟨qi, qo, qu, qc, qr, ev, q1, q2, q3, q4⟩ := (hd.same (o4.old hs)).get (by omega)
            have hmem : D.getD i [] ∈ D := zb1 hiD
            obtain ⟨b, eb⟩ : ∃ b : Nat, (D.getD i []).getD a 0 = b := ⟨((D.getD i []).getD a 0).toNat, by have := (hDR _ hmem).2 a han; omega⟩
            have hbn : b < n := by have := (hDR _ hmem).2 a han; omega
            have ka : qr.cells[qo + i * 14 + a]? = some (.int .i64 (b : Int)) := by
              rw [Nat.add_assoc, q3 (i * 14 + a) (by omega), hDR.at hiD (by omega), eb]
            have gi : (0 : Int) ≤ (i : Int) := by omega
            have gi2 : (i : Int) < (D.length : Int) := by omega
            have gb : (0 : Int) ≤ (b : Int) := by omega
            have gb2 : (b : Int) < (n : Int) := by omega
            have rb := (o4.getV 2 rfl).2.2
            have hbl : b < (bools (mtR n D i a)).length := by simp [bools, mtR, hbn]
            have wi : IntKind.i64.wrap ((i : Int) + 1) = ((i + 1 : Nat) : Int) := w64 ⟨by omega, by omega⟩
            have o5 := o4.put 2 rfl (vs' := (bools (mtR n D i a)).set b (.bool true)) (by simp)
            have e5 : (bools (mtR n D i a)).set b (.bool true) = bools (mtR n D (i + 1) a) := by rw [← mtR_succ hiD hbn eb]; simp [bools, List.map_set]
            rw [e5] at o5
            try simp (disch := first | omega | (simp only [L3] <;> omega)) only [Sall,evalOp,init,binA_s,binE,binI,unE,convE,okNil,builtE,gv,TD.isAgg,resV,↓reduceIte,Nat.reduceEqDiff,reduceCtorEq,Nat.reduceAdd,Nat.reduceMul,Nat.reduceLeDiff,za0,za2,Int.reduceEq,Int.reduceLT,Int.reduceLE,Nat.reduceLT,tiA,tiXA, h12, h11, h10, h2, ev, q1, ka, gi, gi2, ga, ga2, gb, gb2, rb, hbl, wi, e5]
            exact ⟨D.length - (i + 1), by omega, i + 1, rfl, by omega, rfl, h8, h0, h1, h9, o5⟩
          · have hie : i = D.length := by omega
            subst hie
            have hw1 := o4.one 2 rfl
            have zz : zeros 1 [.slice none 0 0] = [.slice none 0 0] := rfl
            have hml := zg9 n D a
            try simp (disch := first | omega | (simp only [L3] <;> omega)) only [Sall,evalOp,init,binA_s,binE,binI,unE,convE,okNil,builtE,gv,TD.isAgg,resV,↓reduceIte,Nat.reduceEqDiff,reduceCtorEq,Nat.reduceAdd,Nat.reduceMul,Nat.reduceLeDiff,za0,za2,Int.reduceEq,Int.reduceLT,Int.reduceLE,Nat.reduceLT,tiA,tiXA, h8, h11, h10, zz, zaL]
            refine (o4.tmp ⟨109, true, [.slice (some ⟨bi, 0, some 1⟩) n n]⟩).app2 (l := mtR n D D.length a) 0 2 rfl rfl (by omega) rfl (by decide) (by omega) ?_
            intro v' H6 n6 o7
            try simp (disch := first | omega | (simp only [L3] <;> omega)) only [Sall,evalOp,init,binA_s,binE,binI,unE,convE,okNil,builtE,gv,TD.isAgg,resV,↓reduceIte,Nat.reduceEqDiff,reduceCtorEq,Nat.reduceAdd,Nat.reduceMul,Nat.reduceLeDiff,za0,za2,Int.reduceEq,Int.reduceLT,Int.reduceLE,Nat.reduceLT,tiA,tiXA, h10, h0, h1, h2, h9, wa]
            exact ⟨n - (a + 1), by omega, a + 1, v', rfl, by omega, by omega, rfl, by rw [mtL_succ]; exact (o7.pick2 0 1 rfl rfl (by omega))⟩
      · have hae : n = a := by omega
        subst hae
        obtain ⟨xi, xo, xu, xc, xr, y, my, ex, x1, x2, x3, x4⟩ := (hw.same (o2.old hs)).get (j := D.length) (by omega)
        have hmy := x3.lenK1
        rw [(hrr D.length (by omega)).1] at hmy
        have hmy := hmy.symm
        subst hmy
        have hyo := x3.one
        have hf14 := zeQ n
        have hsg : seg (ints (fr1 n)) 0 14 = ints (fr1 n) := by
          unfold seg
          rw [List.drop_zero, List.take_of_length_le (by rw [za1, hf14]; omega)]
        have gD : (0 : Int) ≤ (D.length : Int) := by omega
        have gD2 : (D.length : Int) < (rows.length : Int) := by omega
        have hM := Ow.rdBf o2 0 (n := n) (mt := metR D) (by omega) (zg9 n D n) (fun x hx => by rw [mtL_at hx]; unfold mtR; rw [List.take_length]) rfl
        have hfill := l05Fill_c n hn (metR D) y u (rows.getD D.length []) (hrr D.length (by omega)).2 (n + 1) (fr1 n) 0 H' hf14 (fun x hx => by rw [fr1_at]; split <;> omega) (by omega) (by omega) (by omega) x3 hM
        have hlenL := ze5 (show 1 ≤ n by omega) (metR D) (rows.getD D.length []) (n + 1) (fr1 n) 0
        have hpw := pow6 hn.2 (show n + 1 ≤ 7 by omega)
        rw [fill_fitL (by omega)] at hfill hlenL
        have hLm : ∀ z ∈ fitL n rows D, roundB n z = true ∧ z.length = 14 := fun z hz => ⟨(fitL_mem ⟨by omega, by omega⟩ hDB hz).1, (zdZ (show n ≤ 14 by omega) _ _ _ (zcH n) z (by unfold fitL at hz; exact (List.mem_filter.1 hz).1)).1⟩
        have hLR : RdsOk n (fitL n rows D) := fun z hz => ⟨(hLm z hz).2, fun x hx => by obtain ⟨_, g1, g2, _⟩ := zbR (n := (n : Int)) (hLm z hz).1 (a := x) (by omega); exact ⟨g1, g2⟩⟩
        have hP : fitP n rows (d + 1) D = (fitL n rows D).findSome? fun r => fitP n rows d (D ++ [r]) := rfl
        revert hP hLR hLm hlenL hfill
        generalize fitL n rows D = L
        intro hfill hlenL hLm hLR hP
        try simp (disch := first | omega | (simp only [L3] <;> omega)) only [Sall,evalOp,init,binA_s,binE,binI,unE,convE,okNil,builtE,gv,TD.isAgg,resV,↓reduceIte,Nat.reduceEqDiff,reduceCtorEq,Nat.reduceAdd,Nat.reduceMul,Nat.reduceLeDiff,za0,za2,Int.reduceEq,Int.reduceLT,Int.reduceLE,Nat.reduceLT,tiA,tiXA, h8, h1, h2, h9, h0]
        refine zb2 (by kernel_rfl) (by kernel_rfl) ?_
        try simp (disch := first | omega | (simp only [L3] <;> omega)) only [Sall,evalOp,init,binA_s,binE,binI,unE,convE,okNil,builtE,gv,TD.isAgg,resV,↓reduceIte,Nat.reduceEqDiff,reduceCtorEq,Nat.reduceAdd,Nat.reduceMul,Nat.reduceLeDiff,za0,za2,Int.reduceEq,Int.reduceLT,Int.reduceLE,Nat.reduceLT,tiA,tiXA, h0, h1, h2, h8, h9, builtE, hld, ex, x1, x2, x4, r1, hf14, hsg, gD, gD2]
        refine ACalls.mono hfill ?_
        intro wl H5 o5
        refine ⟨.inr (.inr (o5.up.le o2.sc)), ?_⟩
        have hL5 := (o5.capRs 0 rfl).rd
        have hlo := hL5.one
        have hln5 := hL5.len
        have U5 : Up H.next H H5 := o2.up.trans o5.up (by have := o2.next; omega)
        try simp (disch := first | omega | (simp only [L3] <;> omega)) only [Sall,evalOp,init,binA_s,binE,binI,unE,convE,okNil,builtE,gv,TD.isAgg,resV,↓reduceIte,Nat.reduceEqDiff,reduceCtorEq,Nat.reduceAdd,Nat.reduceMul,Nat.reduceLeDiff,za0,za2,Int.reduceEq,Int.reduceLT,Int.reduceLE,Nat.reduceLT,tiA,tiXA, zbV, zbM, zbX, hlo, h0, h1, h2, ← ex]
        refine za5 (fun m' t Hx => ∃ i : Nat, m' = L.length - i ∧ i ≤ L.length ∧ t 14 = .int .i64 i ∧ t 13 = wl ∧ t 0 = .int .i64 n ∧ t 1 = wv ∧ t 2 = dv ∧ Up H5.next H5 Hx ∧ Sc Hx ∧ ∀ j, j < i → fitP n rows d (D ++ [L.getD j []]) = none) L.length ?_ ?_
        · refine ⟨0, by omega, by omega, ?_⟩
          try simp (disch := first | omega | (simp only [L3] <;> omega)) only [Sall,evalOp,init,binA_s,binE,binI,unE,convE,okNil,builtE,gv,TD.isAgg,resV,↓reduceIte,Nat.reduceEqDiff,reduceCtorEq,Nat.reduceAdd,Nat.reduceMul,Nat.reduceLeDiff,za0,za2,Int.reduceEq,Int.reduceLT,Int.reduceLE,Nat.reduceLT,tiA,tiXA, Int.natCast_zero, h0, h1, h2, ← ex]
          exact ⟨Up.refl _ _, o5.sc, fun j hj => by omega⟩
        · rintro m' t Hx ⟨i, hm', hi, h14, h13, h0, h1, h2, U6, s6, hno⟩
          try simp (disch := first | omega | (simp only [L3] <;> omega)) only [Sall,evalOp,init,binA_s,binE,binI,unE,convE,okNil,builtE,gv,TD.isAgg,resV,↓reduceIte,Nat.reduceEqDiff,reduceCtorEq,Nat.reduceAdd,Nat.reduceMul,Nat.reduceLeDiff,za0,za2,Int.reduceEq,Int.reduceLT,Int.reduceLE,Nat.reduceLT,tiA,tiXA, h14, h13, builtE, hln5]
          refine za4 (fun hh => ?_) (fun hh => ?_)
          · have hiL : i < L.length := by omega
            obtain ⟨z, ez⟩ : ∃ z, z = L.getD i [] := ⟨_, rfl⟩
            have hzm : z ∈ L := by rw [ez]; exact zb1 hiL
            obtain ⟨hz1, hz14⟩ := hLm z hzm
            have hL6 : Rd 14 Hx wl L.length L.flatten := hL5.same (fun i r hr => by rw [U6.row i (o5.sc i r hr)]; exact hr)
            have old6 : ∀ i r, H.row i = some r → Hx.row i = some r := fun i r hr => by rw [U6.row i (by have := hs i r hr; have := U5.next; omega), U5.row i (hs i r hr)]; exact hr
            obtain ⟨qi, qo, qu, qc, qr, ev, q1, q2, q3, q4⟩ := hL6.get (by omega)
            have hsz : seg qr.cells (qo + i * 14) 14 = ints z := by
              rw [q4 (i * 14) 14 (by omega), ez, ← zfV (fun r hr => (hLR r hr).1) i hiL]; rfl
            have z14 : zeros 1 (ints (List.replicate 14 0)) = ints (List.replicate 14 0) := by simp [zeros]
            have hsp : splice (ints (List.replicate 14 0)) 0 (ints z) = ints z := by
              unfold splice
              rw [List.take_zero, List.nil_append, List.drop_eq_nil_of_le (by simp [za1, hz14]), List.append_nil]
            have h14' : 14 ≤ (ints (List.replicate 14 0)).length := by simp [ints]
            have gi : (0 : Int) ≤ (i : Int) := by omega
            have gi2 : (i : Int) < (L.length : Int) := by omega
            try simp (disch := first | omega | (simp only [L3] <;> omega)) only [Sall,evalOp,init,binA_s,binE,binI,unE,convE,okNil,builtE,gv,TD.isAgg,resV,↓reduceIte,Nat.reduceEqDiff,reduceCtorEq,Nat.reduceAdd,Nat.reduceMul,Nat.reduceLeDiff,za0,za2,Int.reduceEq,Int.reduceLT,Int.reduceLE,Nat.reduceLT,tiA,tiXA, h14, h13]
            refine awp_cutQ (fun t H2 => t 14 = .int .i64 i ∧ t 13 = wl ∧ t 0 = .int .i64 n ∧ t 1 = wv ∧ t 2 = dv ∧ Up Hx.next Hx H2 ∧ Sc H2 ∧ t 16 = .bool (fitP n rows d (D ++ [z])).isSome ∧ Rd 14 H2 (t 15) ((fitP n rows d (D ++ [z])).getD []).length ((fitP n rows d (D ++ [z])).getD []).flatten) ?_ ?_
            · refine draw_poolS (fun j => j < Hx.next) [0, 1, 3, 5, 6, 7, 8] [2, 4] [9] (OT.run [10, 11, 12, 13, 14, 15, 16] .nil) (by kernel_rfl) (by kernel_rfl) (Nat.le_of_ble_eq_true rfl) (SrJ Hx n D.length wv dv wl i D.flatten z) ⟨?_, ?_, ?_⟩ ?_
              · intro c cs fs t H2 hJ
                rcases hJ.hcs with e | e | e
                · injection e with e1 e2
                  subst e1; subst e2
                  try simp (disch := first | omega | (simp only [L3] <;> omega)) only [Sall,evalOp,init,binA_s,binE,binI,unE,convE,okNil,builtE,gv,TD.isAgg,resV,↓reduceIte,Nat.reduceEqDiff,reduceCtorEq,Nat.reduceAdd,Nat.reduceMul,Nat.reduceLeDiff,za0,za2,Int.reduceEq,Int.reduceLT,Int.reduceLE,Nat.reduceLT,tiA,tiXA, zaM, zaH, zb5, zb6, zaI, zaD, zaC, loadOk, zaV]
                  obtain ⟨a, b, o, _⟩ := hJ.ow
                  exact ⟨.inr (.inr (LE.les (o.sc.le _))), hJ.two⟩
                · injection e with e1 e2
                  subst e1; subst e2
                  have t71 := hJ.t71
                  try simp (disch := first | omega | (simp only [L3] <;> omega)) only [Sall,evalOp,init,binA_s,binE,binI,unE,convE,okNil,builtE,gv,TD.isAgg,resV,↓reduceIte,Nat.reduceEqDiff,reduceCtorEq,Nat.reduceAdd,Nat.reduceMul,Nat.reduceLeDiff,za0,za2,Int.reduceEq,Int.reduceLT,Int.reduceLE,Nat.reduceLT,tiA,tiXA, zaM, zaH, zb5, zb6, zaI, zaD, zaC, loadOk, t71]
                  obtain ⟨a, b, o, ha, _, hb⟩ := hJ.ow
                  rw [ha rfl] at o
                  refine o.appR 0 (c := D.length) (l := D.flatten) rfl (hd.same fun i r h => o.old s6 i r (old6 i r h)) (fun i o' u n c e => by obtain ⟨r, h3, h4⟩ := hdr i o' u n c e; exact ⟨r, o.old s6 i r (old6 i r h3), h4⟩) rfl (by omega) (by decide) (by omega) ?_
                  intro v' H3 n3 o3
                  rw [Nat.zero_add, List.nil_append] at o3
                  exact ⟨.inr (.inr ⟨n3, fun i r hi hr => by rw [o3.low i hi, ← o.low i hi]; exact hr⟩), hJ.four o3 hb⟩
                · cases e
              · intro a cs fs t H2 ha hJ
                rcases hJ.hfs with e | e
                · subst e
                  obtain rfl : a = 9 := by simpa using ha
                  have t76 := hJ.t76
                  try simp (disch := first | omega | (simp only [L3] <;> omega)) only [Sall,evalOp,init,binA_s,binE,binI,unE,convE,okNil,builtE,gv,TD.isAgg,resV,↓reduceIte,Nat.reduceEqDiff,reduceCtorEq,Nat.reduceAdd,Nat.reduceMul,Nat.reduceLeDiff,za0,za2,Int.reduceEq,Int.reduceLT,Int.reduceLE,Nat.reduceLT,tiA,tiXA, zaM, zaH, zb5, zb6, zaI, zaD, zaC, loadOk, t76, z14, hsp, h14', hz14]
                  obtain ⟨a, b, o, _⟩ := hJ.ow
                  exact ⟨.inr (.inr (LE.les (o.sc.le _))), hJ.nine hz14⟩
                · subst e; cases ha
              · intro t H2 hJ
                obtain ⟨a, b, o, _, ha, hb⟩ := hJ.ow
                rw [ha rfl, hb rfl] at o
                have o' := o.toCap 1 rfl
                have h77 := o'.capOne 1 rfl
                have t68 := hJ.t68
                have t69 := hJ.t69
                try simp (disch := first | omega | (simp only [L3] <;> omega)) only [Sall,evalOp,init,binA_s,binE,binI,unE,convE,okNil,builtE,gv,TD.isAgg,resV,↓reduceIte,Nat.reduceEqDiff,reduceCtorEq,Nat.reduceAdd,Nat.reduceMul,Nat.reduceLeDiff,za0,za2,Int.reduceEq,Int.reduceLT,Int.reduceLE,Nat.reduceLT,tiA,tiXA, zaM, zaH, zb5, zb6, zaI, zaD, zaC, loadOk]
                refine o'.appR 0 (c := 1) (l := z) rfl (o'.capRs 1 rfl).rd (Ow.capRow2 o' 1 rfl) rfl (by omega) (by decide) (by omega) ?_
                intro v' H3 n3 o3
                refine ⟨.inr (.inr ⟨n3, fun i r hi hr => by rw [o3.low i hi, ← o.low i hi]; exact hr⟩), ?_⟩
                rw [zaK] at o3
                have h3o := o3.capOne 0 rfl
                have hDz : (D ++ [z]).flatten = D.flatten ++ z := by simp
                have hlz : (D ++ [z]).length = D.length + 1 := by simp
                have hih := ih (D ++ [z]) v' H3 (by omega) (fun r hr => by rcases List.mem_append.1 hr with h | h; exact hDB r h; rw [List.mem_singleton] at h; rw [h]; exact hz1) (fun r hr => by rcases List.mem_append.1 hr with h | h; exact hDR r h; rw [List.mem_singleton] at h; rw [h]; exact hLR z hzm) (hw.same fun i r h => o3.old s6 i r (old6 i r h)) (by rw [hDz, hlz]; exact (o3.capRs 0 rfl).rd) (Ow.capRow2 o3 0 rfl)
                try simp (disch := first | omega | (simp only [L3] <;> omega)) only [Sall,evalOp,init,binA_s,binE,binI,unE,convE,okNil,builtE,gv,TD.isAgg,resV,↓reduceIte,Nat.reduceEqDiff,reduceCtorEq,Nat.reduceAdd,Nat.reduceMul,Nat.reduceLeDiff,za0,za2,Int.reduceEq,Int.reduceLT,Int.reduceLE,Nat.reduceLT,tiA,tiXA, zaM, zaH, zb5, zb6, zaI, zaD, zaC, loadOk, t68, t69, h3o]
                refine ACalls.mono hih ?_
                rintro v4 H4 ⟨w, ev4, up4, s4, hr4⟩
                have hwo4 := hr4.one
                have t0 := hJ.t0
                have t1 := hJ.t1
                have t2 := hJ.t2
                have t13 := hJ.t13
                have t14 := hJ.t14
                refine ⟨.inr (.inr (LE.les (up4.le o3.sc))), ?_⟩
                try simp (disch := first | omega | (simp only [L3] <;> omega)) only [Sall,evalOp,init,binA_s,binE,binI,unE,convE,okNil,builtE,gv,TD.isAgg,resV,↓reduceIte,Nat.reduceEqDiff,reduceCtorEq,Nat.reduceAdd,Nat.reduceMul,Nat.reduceLeDiff,za0,za2,Int.reduceEq,Int.reduceLT,Int.reduceLE,Nat.reduceLT,tiA,tiXA, zaM, zaH, zb5, zb6, zaI, zaD, zaC, loadOk, ev4, hwo4]
                exact ⟨t14, t13, t0, t1, t2, o3.up.trans up4 (by have := o3.next; omega), s4, hr4⟩
              · try simp (disch := first | omega | (simp only [L3] <;> omega)) only [Sall,evalOp,init,binA_s,binE,binI,unE,convE,okNil,builtE,gv,TD.isAgg,resV,↓reduceIte,Nat.reduceEqDiff,reduceCtorEq,Nat.reduceAdd,Nat.reduceMul,Nat.reduceLeDiff,za0,za2,Int.reduceEq,Int.reduceLT,Int.reduceLE,Nat.reduceLT,tiA,tiXA, zaM, zaH, zb5, zb6, zaI, zaD, zaC, loadOk, h0, h1, h2, h13, h14, ev, q1, hsz, gi, gi2]
                rw [← ev]
                exact ⟨s6 _ _ q1, by omega, ⟨.inl rfl, .inl rfl, h0, h1, h2, h13, h14, rfl, rfl, rfl, rfl, .no, .no, (Ow.refl s6).addNo.addNo, fun e => (by cases e), fun e => (by cases e), fun e => (by cases e)⟩⟩
            · rintro t H2 ⟨h14, h13, h0, h1, h2, U7, s7, h16, hr⟩
              have hro := hr.one
              have U8 : Up H5.next H5 H2 := U6.trans U7 (by have := U6.next; omega)
              cases hF : fitP n rows d (D ++ [z]) with
              | none =>
                rw [hF] at h16
                have wi : IntKind.i64.wrap ((i : Int) + 1) = ((i + 1 : Nat) : Int) := w64 ⟨by omega, by omega⟩
                try simp (disch := first | omega | (simp only [L3] <;> omega)) only [Sall,evalOp,init,binA_s,binE,binI,unE,convE,okNil,builtE,gv,TD.isAgg,resV,↓reduceIte,Nat.reduceEqDiff,reduceCtorEq,Nat.reduceAdd,Nat.reduceMul,Nat.reduceLeDiff,za0,za2,Int.reduceEq,Int.reduceLT,Int.reduceLE,Nat.reduceLT,tiA,tiXA, h16, Option.isSome_none, h14, wi]
                refine ⟨L.length - (i + 1), by omega, i + 1, rfl, by omega, rfl, h13, h0, h1, h2, U8, s7, fun j hj => ?_⟩
                by_cases e : j = i
                · rw [e, ← ez]; exact hF
                · exact hno j (by omega)
              | some X =>
                rw [hF] at h16 hr
                have hsome : fitP n rows (d + 1) D = some X := by
                  rw [hP]
                  have key : ∀ (M : List (List Int)) (i : Nat), i < M.length → (∀ j, j < i → fitP n rows d (D ++ [M.getD j []]) = none) → fitP n rows d (D ++ [M.getD i []]) = some X → (M.findSome? fun r => fitP n rows d (D ++ [r])) = some X := by
                    intro M
                    induction M with
                    | nil => intro i hi; simp at hi
                    | cons y M ihM =>
                      intro i hi h1 h2
                      rw [List.findSome?_cons]
                      cases i with
                      | zero =>
                        have h2 : fitP n rows d (D ++ [y]) = some X := h2
                        rw [h2]
                      | succ i =>
                        have h3 : fitP n rows d (D ++ [y]) = none := h1 0 (by omega)
                        rw [h3]
                        exact ihM i (by simpa using hi) (fun j hj => h1 (j + 1) (by omega)) h2
                  exact key L i hiL hno (by rw [← ez]; exact hF)
                try simp (disch := first | omega | (simp only [L3] <;> omega)) only [Sall,evalOp,init,binA_s,binE,binI,unE,convE,okNil,builtE,gv,TD.isAgg,resV,↓reduceIte,Nat.reduceEqDiff,reduceCtorEq,Nat.reduceAdd,Nat.reduceMul,Nat.reduceLeDiff,za0,za2,Int.reduceEq,Int.reduceLT,Int.reduceLE,Nat.reduceLT,tiA,tiXA, h16, Option.isSome_some, hro]
                refine ⟨t 15, by rw [hsome]; rfl, U5.trans U8 (by have := U5.next; omega), s7, ?_⟩
                rw [hsome]
                exact hr
          · have hie : i = L.length := by omega
            subst hie
            try simp (disch := first | omega | (simp only [L3] <;> omega)) only [Sall,evalOp,init,binA_s,binE,binI,unE,convE,okNil,builtE,gv,TD.isAgg,resV,↓reduceIte,Nat.reduceEqDiff,reduceCtorEq,Nat.reduceAdd,Nat.reduceMul,Nat.reduceLeDiff,za0,za2,Int.reduceEq,Int.reduceLT,Int.reduceLE,Nat.reduceLT,tiA,tiXA, true_and]
            have hnone : fitP n rows (d + 1) D = none := by
              rw [hP, List.findSome?_eq_none_iff]
              intro z hz
              obtain ⟨j, hj, rfl⟩ := List.mem_iff_getElem.1 hz
              have := hno j hj
              rwa [List.getD_eq_getElem?_getD, List.getElem?_eq_getElem hj] at this
            refine ⟨.slice none 0 0, by rw [hnone]; rfl, U5.trans U6 (by have := U5.next; omega), s6, ?_⟩
            rw [hnone]
            exact (fr_nil 14 0 0 Hx).rd
end Go.Proofs.YtemgclojolmhbaaGreat.A
end
