/- Contracts: ScheduleFor, the reference's. And what follows. -/
import Derived.Test.YtemgclojolmhbaaGreatM5
import Derived.Shelf.SlicesG.CompactI
import Derived.Sort.OwnSortedInts
set_option linter.unusedSimpArgs false
set_option linter.unusedVariables false
section
set_option maxRecDepth 100000
set_option maxHeartbeats 4000000
namespace Go.Proofs.YtemgclojolmhbaaGreat.A
open Go Go.Abs Go.RowKit
def rwA (n : Nat) (P : List (List Int)) (a i : Nat) : List (List Int) := (List.range (n - 1)).map fun x => (List.range n).map fun b => if b < a ∨ (b = a ∧ x < i) then (P.getD b []).getD x 0 else 0
theorem rwA_length (n : Nat) (P : List (List Int)) (a i : Nat) : (rwA n P a i).length = n - 1 := by simp [rwA]
theorem rwA_row {n : Nat} {P : List (List Int)} {a i x : Nat} (h : x < n - 1) : (rwA n P a i).getD x [] = (List.range n).map fun b => if b < a ∨ (b = a ∧ x < i) then (P.getD b []).getD x 0 else 0 := by
  unfold rwA
  rw [List.getD_eq_getElem?_getD, List.getElem?_map, List.getElem?_range h]; rfl
theorem rwA_zero (n : Nat) (P : List (List Int)) : rwA n P 0 0 = List.replicate (n - 1) (List.replicate n 0) := by
  apply List.ext_getElem (by simp [rwA])
  intro i h1 h2
  simp only [rwA, List.getElem_map, List.getElem_range, List.getElem_replicate]
  apply List.ext_getElem (by simp)
  intro j h3 h4
  simp
theorem rwA_next (n : Nat) (P : List (List Int)) (a : Nat) : rwA n P a (n - 1) = rwA n P (a + 1) 0 := by
  unfold rwA
  refine List.map_congr_left fun x hx => List.map_congr_left fun b hb => ?_
  rw [List.mem_range] at hx
  by_cases h : b < a
  · rw [if_pos (.inl h), if_pos (.inl (by omega))]
  · by_cases e : b = a
    · rw [if_pos (.inr ⟨e, hx⟩), if_pos (.inl (by omega))]
    · rw [if_neg (by omega), if_neg (by omega)]
theorem rwA_full (n : Nat) (P : List (List Int)) : rwA n P n 0 = rowsP n P := by
  unfold rwA rowsP
  refine List.map_congr_left fun x hx => List.map_congr_left fun b hb => ?_
  rw [List.mem_range] at hb
  rw [if_pos (.inl hb)]
theorem rwA_step {n : Nat} {P : List (List Int)} {a i : Nat} (ha : a < n) (hi : i < n - 1) : (rwA n P a i).set i (((rwA n P a i).getD i []).set a ((P.getD a []).getD i 0)) = rwA n P a (i + 1) := by
  rw [rwA_row hi]
  apply List.ext_getElem (by simp [rwA])
  intro x h1 h2
  rw [List.getElem_set]
  by_cases e : i = x
  · rw [if_pos e]
    simp only [rwA, List.getElem_map, List.getElem_range]
    apply List.ext_getElem (by simp)
    intro b h3 h4
    rw [List.getElem_set]
    simp only [List.getElem_map, List.getElem_range]
    by_cases e2 : a = b
    · rw [if_pos e2, if_pos (.inr ⟨e2.symm, by omega⟩), e2, e]
    · rw [if_neg e2]
      by_cases h : b < a
      · rw [if_pos (.inl h), if_pos (.inl h), e]
      · rw [if_neg (by omega), if_neg (by omega)]
  · rw [if_neg e]
    simp only [rwA, List.getElem_map, List.getElem_range]
    refine List.map_congr_left fun b hb => ?_
    by_cases h : b < a
    · rw [if_pos (.inl h), if_pos (.inl h)]
    · by_cases h2 : b = a ∧ x < i
      · rw [if_pos (.inr h2), if_pos (.inr ⟨h2.1, by omega⟩)]
      · rw [if_neg (by omega), if_neg (by omega)]
theorem sfX_fitP (P : List (List Int)) : fitP P.length (rowsP P.length P) (P.length - 1) [] = sfX P := by
  rw [fit_eq]
  unfold sfX
  cases fitI P.length (rowsP P.length P) (P.length - 1) [] <;> rfl
theorem specScheduleFor_c (pv : Value) (P : List (List Int)) (H : AH) (hx : Rd2 1 H pv P) (hl : P.length ≤ 4194304) (hl2 : ∀ y ∈ P, y.length ≤ 4194304) :
    ACalls Tryz.prog 18 [pv] H (fun r H' => ∃ w, r = .tuple #[.agg #[.int .i64 (sfQ P), w], .int .i64 (sfC P)] ∧ Up H.next H H' ∧ Sc H' ∧ Rd 14 H' w (sfR P).length (sfR P).flatten) := by
  refine ACalls.wf (by kernel_rfl) fun hs => za3 [.cell 2 26, .tmp 3] Tryz.func18 (by kernel_rfl) rfl rfl (Nat.le_of_ble_eq_true rfl) (by kernel_rfl) ?_
  have hone := hx.one
  have hlx := hx.len
  have o1 := (Ow.refl hs).push ⟨26, true, [.int .i64 0, .slice none 0 0]⟩
  obtain ⟨n, en⟩ : ∃ n, n = P.length := ⟨_, rfl⟩
  rw [← en] at hlx
  have bad : ∀ (Hx : AH), Ow H Hx [.row H.next ⟨26, true, [.int .i64 0, .slice none 0 0]⟩] → sfOk P = false → ∃ w, (.tuple #[.agg #[.int .i64 0, .slice none 0 0], .int .i64 2] : Value) = .tuple #[.agg #[.int .i64 (sfQ P), w], .int .i64 (sfC P)] ∧ Up H.next H (Hx.setCells H.next [.int .i64 0, .slice none 0 0]) ∧ Sc (Hx.setCells H.next [.int .i64 0, .slice none 0 0]) ∧ Rd 14 (Hx.setCells H.next [.int .i64 0, .slice none 0 0]) w (sfR P).length (sfR P).flatten := by
    intro Hx o h
    have hc : sfC P = 2 := by unfold sfC; rw [h, if_neg (by simp)]
    have hr : sfR P = [] := by unfold sfR; rw [hc, if_neg (by decide)]
    have hq : sfQ P = 0 := by unfold sfQ; rw [hc, if_neg (by decide)]
    rw [hc, hr, hq]
    have o' := o.putRow 0 rfl (cs' := [.int .i64 0, .slice none 0 0])
    exact ⟨_, rfl, o'.up, o'.sc, ⟨rfl, .inl ⟨rfl, none, 0, rfl, fun _ => rfl⟩⟩⟩
  have hokE : sfOk P = (decide (2 ≤ n ∧ n ≤ 6 ∧ n % 2 = 0) && patB n P) := by unfold sfOk; rw [en]
  have e0 := (o1.rowAt 0 rfl).1
  by_cases h246 : n = 2 ∨ n = 4 ∨ n = 6
  rotate_left
  · have d2 : ((n : Int) != 2) = true := bne_iff_ne.2 (by omega)
    have d4 : ((n : Int) != 4) = true := bne_iff_ne.2 (by omega)
    have d6 : ((n : Int) != 6) = true := bne_iff_ne.2 (by omega)
    try simp (disch := first | omega | (simp only [L3] <;> omega)) only [Sall,evalOp,init,binA_s,binE,binI,unE,convE,okNil,builtE,gv,TD.isAgg,resV,↓reduceIte,Nat.reduceEqDiff,reduceCtorEq,Nat.reduceAdd,Nat.reduceMul,Nat.reduceLeDiff,za0,za2,Int.reduceEq,Int.reduceLT,Int.reduceLE,Nat.reduceLT,tiA,tiXA, builtE, hlx, d2, d4, d6, e0]
    exact bad _ o1 (by rw [hokE, decide_eq_false (by omega)]; rfl)
  refine zi7 (fun t H' => t 0 = pv ∧ t 2 = .pointer (some ⟨H.next, 0, none⟩) ∧ H' = H.push ⟨26, true, [.int .i64 0, .slice none 0 0]⟩) ?_ ?_
  · try simp (disch := first | omega | (simp only [L3] <;> omega)) only [Sall,evalOp,init,binA_s,binE,binI,unE,convE,okNil,builtE,gv,TD.isAgg,resV,↓reduceIte,Nat.reduceEqDiff,reduceCtorEq,Nat.reduceAdd,Nat.reduceMul,Nat.reduceLeDiff,za0,za2,Int.reduceEq,Int.reduceLT,Int.reduceLE,Nat.reduceLT,tiA,tiXA, true_and]
  rintro t H1 ⟨h0, h2, eH⟩
  rw [eH]
  clear eH H1
  refine zi7 (fun t H' => t 0 = pv ∧ t 4 = .int .i64 n ∧ t 2 = .pointer (some ⟨H.next, 0, none⟩) ∧ H' = H.push ⟨26, true, [.int .i64 0, .slice none 0 0]⟩) ?_ ?_
  · try simp (disch := first | omega | (simp only [L3] <;> omega)) only [Sall,evalOp,init,binA_s,binE,binI,unE,convE,okNil,builtE,gv,TD.isAgg,resV,↓reduceIte,Nat.reduceEqDiff,reduceCtorEq,Nat.reduceAdd,Nat.reduceMul,Nat.reduceLeDiff,za0,za2,Int.reduceEq,Int.reduceLT,Int.reduceLE,Nat.reduceLT,tiA,tiXA, builtE, h0, hlx, h2]
  clear h0 h2 t
  rintro t H1 ⟨h0, h4, h2, eH⟩
  rw [eH]
  clear eH H1
  refine zi7 (fun t H' => t 0 = pv ∧ t 4 = .int .i64 n ∧ t 2 = .pointer (some ⟨H.next, 0, none⟩) ∧ H' = H.push ⟨26, true, [.int .i64 0, .slice none 0 0]⟩) ?_ ?_
  · rcases h246 with rfl | rfl | rfl
    · have d2 : (((2 : Nat) : Int) != 2) = false := rfl
      try simp (disch := first | omega | (simp only [L3] <;> omega)) only [Sall,evalOp,init,binA_s,binE,binI,unE,convE,okNil,builtE,gv,TD.isAgg,resV,↓reduceIte,Nat.reduceEqDiff,reduceCtorEq,Nat.reduceAdd,Nat.reduceMul,Nat.reduceLeDiff,za0,za2,Int.reduceEq,Int.reduceLT,Int.reduceLE,Nat.reduceLT,tiA,tiXA, h4, h0, h2, d2]
    · have d2 : (((4 : Nat) : Int) != 2) = true := rfl
      have d4 : (((4 : Nat) : Int) != 4) = false := rfl
      try simp (disch := first | omega | (simp only [L3] <;> omega)) only [Sall,evalOp,init,binA_s,binE,binI,unE,convE,okNil,builtE,gv,TD.isAgg,resV,↓reduceIte,Nat.reduceEqDiff,reduceCtorEq,Nat.reduceAdd,Nat.reduceMul,Nat.reduceLeDiff,za0,za2,Int.reduceEq,Int.reduceLT,Int.reduceLE,Nat.reduceLT,tiA,tiXA, h4, h0, h2, d2, d4]
    · have d2 : (((6 : Nat) : Int) != 2) = true := rfl
      have d4 : (((6 : Nat) : Int) != 4) = true := rfl
      have d6 : (((6 : Nat) : Int) != 6) = false := rfl
      try simp (disch := first | omega | (simp only [L3] <;> omega)) only [Sall,evalOp,init,binA_s,binE,binI,unE,convE,okNil,builtE,gv,TD.isAgg,resV,↓reduceIte,Nat.reduceEqDiff,reduceCtorEq,Nat.reduceAdd,Nat.reduceMul,Nat.reduceLeDiff,za0,za2,Int.reduceEq,Int.reduceLT,Int.reduceLE,Nat.reduceLT,tiA,tiXA, h4, h0, h2, d2, d4, d6]
  clear h0 h2 h4 t
  rintro t H1 ⟨h0, h4, h2, eH⟩
  rw [eH]
  clear eH H1
  revert o1 e0
  generalize H.push ⟨26, true, [.int .i64 0, .slice none 0 0]⟩ = H1
  intro o1 e0
  have o2 := o1.pushSl2 (Value.int .i64) 33 2
  try simp (disch := first | omega | (simp only [L3] <;> omega)) only [Sall,evalOp,init,binA_s,binE,binI,unE,convE,okNil,builtE,gv,TD.isAgg,resV,↓reduceIte,Nat.reduceEqDiff,reduceCtorEq,Nat.reduceAdd,Nat.reduceMul,Nat.reduceLeDiff,za0,za2,Int.reduceEq,Int.reduceLT,Int.reduceLE,Nat.reduceLT,tiA,tiXA, h0, h4, h2, zaV]
  obtain ⟨pi, epi⟩ : ∃ pi, pi = H.next := ⟨_, rfl⟩
  have wn : IntKind.i64.wrap ((n : Int) - 1) = ((n - 1 : Nat) : Int) := by rw [show (n : Int) - 1 = ((n - 1 : Nat) : Int) by omega]; exact w64 ⟨by omega, by omega⟩
  have zn : zeros n [.int .i64 0] = ints (List.replicate n 0) := by simp [zeros, ints]
  have zz : zeros 1 [.slice none 0 0] = [.slice none 0 0] := rfl
  have hnn : n ≤ 4294967296 := by omega
  have hn0 : (0 : Int) ≤ (n : Int) := by omega
  have h1n := o1.next
  rw [← epi] at o2 e0 bad ⊢
  refine za5 (fun m t H' => ∃ (i : Nat) (u : Value), m = n - 1 - i ∧ i ≤ n - 1 ∧ t 6 = .int .i64 i ∧ t 5 = u ∧ t 0 = pv ∧ t 4 = .int .i64 n ∧ t 2 = .pointer (some ⟨pi, 0, none⟩) ∧ Ow H H' [.row pi ⟨26, true, [.int .i64 0, .slice none 0 0]⟩, .sl2 (Value.int .i64) 33 2 u (List.replicate i (List.replicate n 0))]) (n - 1) ?_ ?_
  · refine ⟨0, .slice (some ⟨H1.next, 0, some 1⟩) 0 0, by omega, by omega, ?_⟩
    try simp (disch := first | omega | (simp only [L3] <;> omega)) only [Sall,evalOp,init,binA_s,binE,binI,unE,convE,okNil,builtE,gv,TD.isAgg,resV,↓reduceIte,Nat.reduceEqDiff,reduceCtorEq,Nat.reduceAdd,Nat.reduceMul,Nat.reduceLeDiff,za0,za2,Int.reduceEq,Int.reduceLT,Int.reduceLE,Nat.reduceLT,tiA,tiXA, Int.natCast_zero, h0, h4, h2]
    exact ⟨by rw [epi], o2⟩
  · rintro m t H' ⟨i, u, hm, hi, h6, h5, h0, h4, h2, o3⟩
    try simp (disch := first | omega | (simp only [L3] <;> omega)) only [Sall,evalOp,init,binA_s,binE,binI,unE,convE,okNil,builtE,gv,TD.isAgg,resV,↓reduceIte,Nat.reduceEqDiff,reduceCtorEq,Nat.reduceAdd,Nat.reduceMul,Nat.reduceLeDiff,za0,za2,Int.reduceEq,Int.reduceLT,Int.reduceLE,Nat.reduceLT,tiA,tiXA, h6, h4, wn]
    refine za4 (fun hh => ?_) (fun hh => ?_)
    · have o4 := o3.pushSl (k := 1) (n := n) (ty := 2) (vs := ints (List.replicate n 0)) (by simp [ints])
      have wi : IntKind.i64.wrap ((i : Int) + 1) = ((i + 1 : Nat) : Int) := w64 ⟨by omega, by omega⟩
      try simp (disch := first | omega | (simp only [L3] <;> omega)) only [Sall,evalOp,init,binA_s,binE,binI,unE,convE,okNil,builtE,gv,TD.isAgg,resV,↓reduceIte,Nat.reduceEqDiff,reduceCtorEq,Nat.reduceAdd,Nat.reduceMul,Nat.reduceLeDiff,za0,za2,Int.reduceEq,Int.reduceLT,Int.reduceLE,Nat.reduceLT,tiA,tiXA, h6, h5, h4, zn, zz, zaL]
      refine ⟨⟨by omega, by omega, by omega⟩, (o4.tmp ⟨33, true, [.slice (some ⟨H'.next, 0, some 1⟩) n n]⟩).app2 (l := List.replicate n 0) 1 2 rfl rfl (by omega) rfl (by decide) (by simp; omega) ?_⟩
      intro v' H6 n6 o7
      try simp (disch := first | omega | (simp only [L3] <;> omega)) only [Sall,evalOp,init,binA_s,binE,binI,unE,convE,okNil,builtE,gv,TD.isAgg,resV,↓reduceIte,Nat.reduceEqDiff,reduceCtorEq,Nat.reduceAdd,Nat.reduceMul,Nat.reduceLeDiff,za0,za2,Int.reduceEq,Int.reduceLT,Int.reduceLE,Nat.reduceLT,tiA,tiXA, h6, h0, h4, h2, wi]
      exact ⟨n - 1 - (i + 1), by omega, i + 1, v', rfl, by omega, rfl, rfl, by rw [List.replicate_succ']; exact o7.pick2 0 1 rfl rfl (by omega)⟩
    · have hie : i = n - 1 := by omega
      rw [hie, ← rwA_zero n P] at o3
      try simp (disch := first | omega | (simp only [L3] <;> omega)) only [Sall,evalOp,init,binA_s,binE,binI,unE,convE,okNil,builtE,gv,TD.isAgg,resV,↓reduceIte,Nat.reduceEqDiff,reduceCtorEq,Nat.reduceAdd,Nat.reduceMul,Nat.reduceLeDiff,za0,za2,Int.reduceEq,Int.reduceLT,Int.reduceLE,Nat.reduceLT,tiA,tiXA, h5, h0, h4, h2]
      refine za5 (fun m t H' => ∃ a : Nat, m = n - a ∧ a ≤ n ∧ t 7 = .int .i64 a ∧ t 5 = u ∧ t 0 = pv ∧ t 4 = .int .i64 n ∧ t 2 = .pointer (some ⟨pi, 0, none⟩) ∧ Ow H H' [.row pi ⟨26, true, [.int .i64 0, .slice none 0 0]⟩, .sl2 (Value.int .i64) 33 2 u (rwA n P a 0)] ∧ ∀ b, b < a → patRB n (P.getD b []) = true) n ?_ ?_
      · refine ⟨0, by omega, by omega, ?_⟩
        try simp (disch := first | omega | (simp only [L3] <;> omega)) only [Sall,evalOp,init,binA_s,binE,binI,unE,convE,okNil,builtE,gv,TD.isAgg,resV,↓reduceIte,Nat.reduceEqDiff,reduceCtorEq,Nat.reduceAdd,Nat.reduceMul,Nat.reduceLeDiff,za0,za2,Int.reduceEq,Int.reduceLT,Int.reduceLE,Nat.reduceLT,tiA,tiXA, Int.natCast_zero]
        exact ⟨h5, h0, h4, h2, o3, fun b hb => by omega⟩
      · rintro m t H2 ⟨a, hm, ha, h7, h5, h0, h4, h2, o4, hall⟩
        try simp (disch := first | omega | (simp only [L3] <;> omega)) only [Sall,evalOp,init,binA_s,binE,binI,unE,convE,okNil,builtE,gv,TD.isAgg,resV,↓reduceIte,Nat.reduceEqDiff,reduceCtorEq,Nat.reduceAdd,Nat.reduceMul,Nat.reduceLeDiff,za0,za2,Int.reduceEq,Int.reduceLT,Int.reduceLE,Nat.reduceLT,tiA,tiXA, h7, h4]
        refine za4 (fun hh => ?_) (fun hh => ?_)
        · have han : a < n := by omega
          obtain ⟨xi, xo, xu, xc, xr, y, my, ex, x1, x2, x3, x4⟩ := (hx.same (o4.old hs)).get (j := a) (by omega)
          have hmy := x3.lenK1
          have hlY := x3.len
          have hyo := x3.one
          have ga : (0 : Int) ≤ (a : Int) := by omega
          have ga2 : (a : Int) < (n : Int) := by omega
          have e02 := (o4.rowAt 0 rfl).1
          have hmemP : P.getD a [] ∈ P := zb1 (by omega)
          have hbadA : patRB n (P.getD a []) = false → sfOk P = false := fun h => by
            rw [hokE]
            have : patB n P = false := by
              unfold patB
              rw [Bool.and_eq_false_iff]
              refine .inr (List.all_eq_false.2 ⟨_, hmemP, ?_⟩)
              have : (decide ((P.getD a []).length = n - 1) && (P.getD a []).all fun v => decide (0 ≤ v ∧ v ≤ 1)) = false := h
              rw [this]; simp
            rw [this, Bool.and_false]
          rw [← en] at ex
          by_cases hlen : my = n - 1
          rotate_left
          · have d1 : ((my : Int) != ((n - 1 : Nat) : Int)) = true := bne_iff_ne.2 (by omega)
            try simp (disch := first | omega | (simp only [L3] <;> omega)) only [Sall,evalOp,init,binA_s,binE,binI,unE,convE,okNil,builtE,gv,TD.isAgg,resV,↓reduceIte,Nat.reduceEqDiff,reduceCtorEq,Nat.reduceAdd,Nat.reduceMul,Nat.reduceLeDiff,za0,za2,Int.reduceEq,Int.reduceLT,Int.reduceLE,Nat.reduceLT,tiA,tiXA, h0, h7, h4, builtE, ex, x1, x2, hlY, hyo, ga, ga2, wn, d1, e02, h2, x4]
            exact bad _ (o4.only 0 rfl) (hbadA (by unfold patRB; rw [decide_eq_false (by omega)]; rfl))
          have d1 : ((my : Int) != ((n - 1 : Nat) : Int)) = false := by rw [hlen]; exact bne_self_eq_false _
          try simp (disch := first | omega | (simp only [L3] <;> omega)) only [Sall,evalOp,init,binA_s,binE,binI,unE,convE,okNil,builtE,gv,TD.isAgg,resV,↓reduceIte,Nat.reduceEqDiff,reduceCtorEq,Nat.reduceAdd,Nat.reduceMul,Nat.reduceLeDiff,za0,za2,Int.reduceEq,Int.reduceLT,Int.reduceLE,Nat.reduceLT,tiA,tiXA, h0, h7, h4, builtE, ex, x1, x2, hlY, hyo, ga, ga2, wn, d1, x4]
          subst hmy
          refine za5 (fun m' t Hx => ∃ i : Nat, m' = n - 1 - i ∧ i ≤ n - 1 ∧ t 8 = .int .i64 i ∧ t 7 = .int .i64 a ∧ t 5 = u ∧ t 0 = pv ∧ t 4 = .int .i64 n ∧ t 2 = .pointer (some ⟨pi, 0, none⟩) ∧ Ow H Hx [.row pi ⟨26, true, [.int .i64 0, .slice none 0 0]⟩, .sl2 (Value.int .i64) 33 2 u (rwA n P a i)] ∧ ∀ x, x < i → 0 ≤ (P.getD a []).getD x 0 ∧ (P.getD a []).getD x 0 ≤ 1) (n - 1) ?_ ?_
          · refine ⟨0, by omega, by omega, ?_⟩
            try simp (disch := first | omega | (simp only [L3] <;> omega)) only [Sall,evalOp,init,binA_s,binE,binI,unE,convE,okNil,builtE,gv,TD.isAgg,resV,↓reduceIte,Nat.reduceEqDiff,reduceCtorEq,Nat.reduceAdd,Nat.reduceMul,Nat.reduceLeDiff,za0,za2,Int.reduceEq,Int.reduceLT,Int.reduceLE,Nat.reduceLT,tiA,tiXA, Int.natCast_zero, h7, h0, h4, h2]
            exact ⟨h5, o4, fun b hb => by omega⟩
          · rintro m' t Hx ⟨i, hm', hi, h8, h7, h5, h0, h4, h2, o5, hin⟩
            try simp (disch := first | omega | (simp only [L3] <;> omega)) only [Sall,evalOp,init,binA_s,binE,binI,unE,convE,okNil,builtE,gv,TD.isAgg,resV,↓reduceIte,Nat.reduceEqDiff,reduceCtorEq,Nat.reduceAdd,Nat.reduceMul,Nat.reduceLeDiff,za0,za2,Int.reduceEq,Int.reduceLT,Int.reduceLE,Nat.reduceLT,tiA,tiXA, h8, h4, wn]
            refine za4 (fun hh2 => ?_) (fun hh2 => ?_)
            · have hin1 : i < n - 1 := by omega
              have hdec : n - 1 - (i + 1) < m' := by omega
              have wi1 : IntKind.i64.wrap ((i : Int) + 1) = ((i + 1 : Nat) : Int) := w64 ⟨by omega, by omega⟩
              obtain ⟨yi, yo, yu, yc, yr, y, my, ey, y1, y2, y3, y4⟩ := (hx.same (o5.old hs)).get (j := a) (by omega)
              have hmy := y3.lenK1
              obtain ⟨zi, zo, zu, zc, zr, ez, z1, z2, z3, _⟩ := y3.get (by omega)
              have z4 := z3 i (by omega)
              rw [← en] at ey
              subst ez
              subst hmy
              have gi : (0 : Int) ≤ (i : Int) := by omega
              have gi2 : (i : Int) < ((P.getD a []).length : Int) := by omega
              have gi3 : (i : Int) < ((n - 1 : Nat) : Int) := by omega
              have hls := rwA_length n P a i
              obtain ⟨wi, vs, x, _, _, ew, hr, hvl, hxx, hx1, hq⟩ := o5.get2 1 rfl (j := i) (by rw [hls]; exact hin1)
              rw [hls] at ew hvl
              have hrl : ((rwA n P a i).getD i []).length = n := by rw [rwA_row hin1]; simp
              rw [hrl] at hq
              obtain ⟨q, _, _, qi, rfl, hqr⟩ := hq (by omega)
              have hqr : Hx.row q = some ⟨2, true, ints ((rwA n P a i).getD i [])⟩ := hqr
              have e02 := (o5.rowAt 0 rfl).1
              have hst := rwA_step (P := P) han hin1
              have hin' : 0 ≤ (P.getD a []).getD i 0 ∧ (P.getD a []).getD i 0 ≤ 1 → ∀ x, x < i + 1 → 0 ≤ (P.getD a []).getD x 0 ∧ (P.getD a []).getD x 0 ≤ 1 := fun h x hx => by
                by_cases e : x = i
                · rw [e]; exact h
                · exact hin x (by omega)
              have hbadV : ¬ (0 ≤ (P.getD a []).getD i 0 ∧ (P.getD a []).getD i 0 ≤ 1) → sfOk P = false := fun h => hbadA (by
                unfold patRB
                rw [Bool.and_eq_false_iff]
                exact .inr (List.all_eq_false.2 ⟨_, zb1 (d := 0) (show i < (P.getD a []).length by omega), by rw [decide_eq_true_iff]; exact h⟩))
              generalize (P.getD a []).getD i 0 = val at z4 hst hin' hbadV
              try simp (disch := first | omega | (simp only [L3] <;> omega)) only [Sall,evalOp,init,binA_s,binE,binI,unE,convE,okNil,builtE,gv,TD.isAgg,resV,↓reduceIte,Nat.reduceEqDiff,reduceCtorEq,Nat.reduceAdd,Nat.reduceMul,Nat.reduceLeDiff,za0,za2,Int.reduceEq,Int.reduceLT,Int.reduceLE,Nat.reduceLT,tiA,tiXA, h0, h7, h8, ey, y1, y2, y4, ga, ga2, z1, z4, gi, gi2]
              refine (ze7 val 0 1 Hx).to ?_
              refine Holds.mp ?_
              by_cases hv : 0 ≤ val ∧ val ≤ 1
              rotate_left
              · have dv : decide (0 ≤ val ∧ val ≤ 1) = false := decide_eq_false hv
                try simp (disch := first | omega | (simp only [L3] <;> omega)) only [Sall,evalOp,init,binA_s,binE,binI,unE,convE,okNil,builtE,gv,TD.isAgg,resV,↓reduceIte,Nat.reduceEqDiff,reduceCtorEq,Nat.reduceAdd,Nat.reduceMul,Nat.reduceLeDiff,za0,za2,Int.reduceEq,Int.reduceLT,Int.reduceLE,Nat.reduceLT,tiA,tiXA, dv, Bool.not_false, e02, h2]
                exact bad _ (o5.only 0 rfl) (hbadV hv)
              have dv : decide (0 ≤ val ∧ val ≤ 1) = true := decide_eq_true hv
              rw [ew] at o5 h5
              have o6 := o5.set2 1 rfl (j := i) (by rw [hls]; exact hin1) (l' := ((rwA n P a i).getD i []).set a val) (by rw [List.length_set]) hr hxx
              rw [hst] at o6
              have hal : a < ((rwA n P a i).getD i []).length := by rw [hrl]; exact han
              try simp (disch := first | omega | (simp only [L3] <;> omega)) only [Sall,evalOp,init,binA_s,binE,binI,unE,convE,okNil,builtE,gv,TD.isAgg,resV,↓reduceIte,Nat.reduceEqDiff,reduceCtorEq,Nat.reduceAdd,Nat.reduceMul,Nat.reduceLeDiff,za0,za2,Int.reduceEq,Int.reduceLT,Int.reduceLE,Nat.reduceLT,tiA,tiXA, dv, Bool.not_true, h5, h8, hr, hxx, gi3, gi, h7, ga, ga2, h0, ey, y1, y2, y4, z1, z4, gi2, hqr, hal, wi1, hvl]
              exact ⟨n - 1 - (i + 1), hdec, i + 1, rfl, hin1, rfl, ew.symm, h4, h2, by rw [zaR, ew]; exact o6, hin' hv⟩
            · have hie : i = n - 1 := by omega
              rw [hie, rwA_next] at o5
              have wa : IntKind.i64.wrap ((a : Int) + 1) = ((a + 1 : Nat) : Int) := w64 ⟨by omega, by omega⟩
              try simp (disch := first | omega | (simp only [L3] <;> omega)) only [Sall,evalOp,init,binA_s,binE,binI,unE,convE,okNil,builtE,gv,TD.isAgg,resV,↓reduceIte,Nat.reduceEqDiff,reduceCtorEq,Nat.reduceAdd,Nat.reduceMul,Nat.reduceLeDiff,za0,za2,Int.reduceEq,Int.reduceLT,Int.reduceLE,Nat.reduceLT,tiA,tiXA, h7, wa]
              refine ⟨n - (a + 1), by omega, a + 1, rfl, by omega, rfl, h5, h0, h4, h2, o5, fun b hb => ?_⟩
              by_cases e : b = a
              · rw [e]
                unfold patRB
                rw [decide_eq_true hlen, Bool.true_and, List.all_eq_true]
                intro x hx'
                obtain ⟨j, hj, rfl⟩ := List.mem_iff_getElem.1 hx'
                have := hin j (by omega)
                rw [List.getD_eq_getElem?_getD, List.getElem?_eq_getElem hj] at this
                exact decide_eq_true this
              · exact hall b (by omega)
        · have hae : a = n := by omega
          rw [hae, rwA_full] at o4
          have hPB : patB n P = true := by
            unfold patB
            rw [decide_eq_true en.symm, Bool.true_and, List.all_eq_true]
            intro y hy
            obtain ⟨j, hj, rfl⟩ := List.mem_iff_getElem.1 hy
            have := hall j (by omega)
            rw [List.getD_eq_getElem?_getD, List.getElem?_eq_getElem hj] at this
            exact this
          have hok : sfOk P = true := by rw [hokE, hPB, Bool.and_true]; exact decide_eq_true ⟨by omega, by omega, by omega⟩
          have o5 := o4.push ⟨67, true, []⟩
          have hsr := l05Search_c n ⟨by omega, by omega⟩ (rowsP n P) (by simp [rowsP]) (fun i hi => ⟨by simp [rowsP, List.getD_eq_getElem?_getD, hi], fun x hx => by rw [zfF n P hi hx]; have := ((zgK hPB).2 x hx).2 i hi; omega⟩) u (n - 1) [] (.slice (some ⟨H2.next, 0, some 14⟩) 0 0) (H2.push ⟨67, true, []⟩) (by rw [List.length_nil]; omega) (fun r hr => by simp at hr) (fun r hr => by simp at hr) (o5.rd2 1 rfl) ⟨rfl, .inl ⟨rfl, some ⟨H2.next, 0, some 14⟩, 0, rfl, fun h => by cases h⟩⟩ (fun i o u n c e => by
            simp only [Value.slice.injEq, Option.some.injEq, Addr.mk.injEq] at e
            obtain ⟨⟨rfl, rfl, _⟩, _⟩ := e
            exact ⟨_, by rw [AH.push_row, if_pos rfl], Nat.zero_le _⟩)
          have hu := (o5.rd2 1 rfl).one
          try simp (disch := first | omega | (simp only [L3] <;> omega)) only [Sall,evalOp,init,binA_s,binE,binI,unE,convE,okNil,builtE,gv,TD.isAgg,resV,↓reduceIte,Nat.reduceEqDiff,reduceCtorEq,Nat.reduceAdd,Nat.reduceMul,Nat.reduceLeDiff,za0,za2,Int.reduceEq,Int.reduceLT,Int.reduceLE,Nat.reduceLT,tiA,tiXA, h5, h0, h4, h2, zaV, hu]
          refine ACalls.mono hsr ?_
          rintro v4 H4 ⟨w, ev4, up4, s4, hr4⟩
          have eX : fitP n (rowsP n P) (n - 1) [] = sfX P := by rw [en]; exact sfX_fitP P
          rw [eX] at ev4 hr4
          have hwo := hr4.one
          have o6 := o5.call (Ow.of_up up4 s4)
          have e02 := (o6.rowAt 0 rfl).1
          refine Holds.mp ?_
          cases hX : sfX P with
          | none =>
            rw [hX] at ev4 hr4
            have hc : sfC P = 4 := by unfold sfC; rw [hok, hX]; rfl
            have hr : sfR P = [] := by unfold sfR; rw [hc, if_neg (by decide)]
            have hq : sfQ P = 0 := by unfold sfQ; rw [hc, if_neg (by decide)]
            try simp (disch := first | omega | (simp only [L3] <;> omega)) only [Sall,evalOp,init,binA_s,binE,binI,unE,convE,okNil,builtE,gv,TD.isAgg,resV,↓reduceIte,Nat.reduceEqDiff,reduceCtorEq,Nat.reduceAdd,Nat.reduceMul,Nat.reduceLeDiff,za0,za2,Int.reduceEq,Int.reduceLT,Int.reduceLE,Nat.reduceLT,tiA,tiXA, ev4, hwo, Option.isSome_none, Bool.not_false, e02, h2]
            rw [hc, hr, hq]
            have o' := o6.putRow 0 rfl (cs' := [.int .i64 0, .slice none 0 0])
            exact ⟨_, rfl, by rw [epi]; rw [epi] at o'; exact o'.up, o'.sc, ⟨rfl, .inl ⟨rfl, none, 0, rfl, fun _ => rfl⟩⟩⟩
          | some X =>
            rw [hX] at ev4 hr4
            have hc : sfC P = 0 := by unfold sfC; rw [hok, hX]; rfl
            have hr : sfR P = X := by unfold sfR; rw [hc, if_pos rfl, hX]; rfl
            have hq : sfQ P = n := by unfold sfQ; rw [hc, if_pos rfl, en]
            try simp (disch := first | omega | (simp only [L3] <;> omega)) only [Sall,evalOp,init,binA_s,binE,binI,unE,convE,okNil,builtE,gv,TD.isAgg,resV,↓reduceIte,Nat.reduceEqDiff,reduceCtorEq,Nat.reduceAdd,Nat.reduceMul,Nat.reduceLeDiff,za0,za2,Int.reduceEq,Int.reduceLT,Int.reduceLE,Nat.reduceLT,tiA,tiXA, ev4, hwo, zbB hwo, zb0 hwo, zb9 hwo, Option.isSome_some, Bool.not_true, e02, h2, h4]
            rw [hc, hr, hq]
            have o' := o6.putRow 0 rfl (cs' := [.int .i64 n, w])
            have hXl : X.length = n - 1 := by
              have : fitI n (rowsP n P) (n - 1) [] = some X := by rw [← hX, en]; rfl
              exact zgS _ _ _ _ _ this
            refine ⟨w, rfl, by rw [epi]; rw [epi] at o'; exact o'.up, o'.sc, hr4.1, ?_⟩
            rcases hr4.2 with h | ⟨i, o, u', c, r, e, hr, h3, h4⟩
            · exact .inl h
            · refine .inr ⟨i, o, u', c, r, e, ?_, h3, h4⟩
              rw [AH.setCells_row, if_neg]
              · exact hr
              · intro e2
                rw [e2, e02] at hr
                injection hr with hr
                rw [← hr] at h3
                have h3 : o + X.length * 14 ≤ 2 := h3
                omega
end Go.Proofs.YtemgclojolmhbaaGreat.A
end

section
set_option maxRecDepth 100000
set_option maxHeartbeats 4000000
namespace Go.Proofs.YtemgclojolmhbaaGreat.A
open Go Go.Abs Go.RowKit
theorem zg4 {α : Type} {l : List (List α)} {i : Nat} (h : i < l.length) : l.take (i + 1) = l.take i ++ [l.getD i []] := by
  rw [List.getD_eq_getElem?_getD, List.getElem?_eq_getElem h, List.take_add_one, List.getElem?_eq_getElem h]; rfl
theorem l05Own_c (x : Value) (ll : List (List Int)) (H : AH) (hx : Rd2 1 H x ll) (hl : ll.length ≤ 4194304) (hne : ∀ i, i < ll.length → 0 < (ll.getD i []).length ∧ (ll.getD i []).length ≤ 4194304) :
    ACalls Tryz.prog 103 [x] H (fun w H' => Ow H H' [.sl2 (Value.int .i64) 33 2 w ll]) := by
  refine ACalls.wf (by kernel_rfl) fun hs => za3 [.tmp 2] Tryz.func103 (by kernel_rfl) rfl rfl (Nat.le_of_ble_eq_true rfl) (by kernel_rfl) ?_
  have hlx := hx.len
  have hxo := hx.one
  have o1 := (Ow.refl hs).pushSl2 (Value.int .i64) 33 2
  have zz : zeros 1 [.slice none 0 0] = [.slice none 0 0] := rfl
  try simp (disch := first | omega | (simp only [L3] <;> omega)) only [Sall,evalOp,init,binA_s,binE,binI,unE,convE,okNil,builtE,gv,TD.isAgg,resV,↓reduceIte,Nat.reduceEqDiff,reduceCtorEq,Nat.reduceAdd,Nat.reduceMul,Nat.reduceLeDiff,za0,za2,Int.reduceEq,Int.reduceLT,Int.reduceLE,Nat.reduceLT,tiA,tiXA, zaV]
  refine za5 (fun m t H' => ∃ (i : Nat) (w : Value), m = ll.length - i ∧ i ≤ ll.length ∧ t 4 = .int .i64 i ∧ t 3 = w ∧ t 0 = x ∧ Ow H H' [.sl2 (Value.int .i64) 33 2 w (ll.take i)]) ll.length ?_ ?_
  · refine ⟨0, .slice (some ⟨H.next, 0, some 1⟩) 0 0, by omega, by omega, ?_⟩
    try simp (disch := first | omega | (simp only [L3] <;> omega)) only [Sall,evalOp,init,binA_s,binE,binI,unE,convE,okNil,builtE,gv,TD.isAgg,resV,↓reduceIte,Nat.reduceEqDiff,reduceCtorEq,Nat.reduceAdd,Nat.reduceMul,Nat.reduceLeDiff,za0,za2,Int.reduceEq,Int.reduceLT,Int.reduceLE,Nat.reduceLT,tiA,tiXA, Int.natCast_zero]
    rw [List.take_zero]
    exact o1
  · rintro m t H' ⟨i, w, hm, hi, h4, h3, h0, o2⟩
    try simp (disch := first | omega | (simp only [L3] <;> omega)) only [Sall,evalOp,init,binA_s,binE,binI,unE,convE,okNil,builtE,gv,TD.isAgg,resV,↓reduceIte,Nat.reduceEqDiff,reduceCtorEq,Nat.reduceAdd,Nat.reduceMul,Nat.reduceLeDiff,za0,za2,Int.reduceEq,Int.reduceLT,Int.reduceLE,Nat.reduceLT,tiA,tiXA, h4, h0, builtE, hlx]
    refine za4 (fun hh => ?_) (fun hh => ?_)
    · have hil : i < ll.length := by omega
      have gi : (0 : Int) ≤ (i : Int) := by omega
      have gi2 : (i : Int) < (ll.length : Int) := by omega
      have wi : IntKind.i64.wrap ((i : Int) + 1) = ((i + 1 : Nat) : Int) := w64 ⟨by omega, by omega⟩
      obtain ⟨xi, xo, xu, xc, xr, y, my, ex, x1, x2, x3, x4⟩ := (hx.same (o2.old hs)).get (j := i) hil
      have hmy := x3.lenK1
      subst hmy
      have hw := (o2.rd2 0 rfl).one
      have hyo := x3.one
      have hlt : (ll.take i).length = i := by rw [List.length_take]; omega
      try simp (disch := first | omega | (simp only [L3] <;> omega)) only [Sall,evalOp,init,binA_s,binE,binI,unE,convE,okNil,builtE,gv,TD.isAgg,resV,↓reduceIte,Nat.reduceEqDiff,reduceCtorEq,Nat.reduceAdd,Nat.reduceMul,Nat.reduceLeDiff,za0,za2,Int.reduceEq,Int.reduceLT,Int.reduceLE,Nat.reduceLT,tiA,tiXA, h4, h3, h0, ex, x1, x2, x4, gi, gi2, hyo]
      refine (zgP y (ll.getD i []) H' ⟨x3, fun h0 => by have := (hne i hil).1; omega⟩ (hne i hil).2).sc.mono ?_
      rintro u H2 ⟨⟨up2, fr2⟩, s2⟩
      have hu := fr2.rd.one
      have o3 := o2.call (Ow.of_fr up2 s2 fr2)
      refine Holds.mp ?_
      try simp (disch := first | omega | (simp only [L3] <;> omega)) only [Sall,evalOp,init,binA_s,binE,binI,unE,convE,okNil,builtE,gv,TD.isAgg,resV,↓reduceIte,Nat.reduceEqDiff,reduceCtorEq,Nat.reduceAdd,Nat.reduceMul,Nat.reduceLeDiff,za0,za2,Int.reduceEq,Int.reduceLT,Int.reduceLE,Nat.reduceLT,tiA,tiXA, h3, hu, zbB hu, zb0 hu, zb9 hu, zz, zaL]
      have hok := fun r => ok_one (r := r) hu
      try simp (disch := first | omega | (simp only [L3] <;> omega)) only [Sall,evalOp,init,binA_s,binE,binI,unE,convE,okNil,builtE,gv,TD.isAgg,resV,↓reduceIte,Nat.reduceEqDiff,reduceCtorEq,Nat.reduceAdd,Nat.reduceMul,Nat.reduceLeDiff,za0,za2,Int.reduceEq,Int.reduceLT,Int.reduceLE,Nat.reduceLT,tiA,tiXA, hok]
      refine (o3.tmp ⟨33, true, [u]⟩).app2 (l := ll.getD i []) 0 1 rfl rfl (by omega) rfl (by decide) (by omega) ?_
      intro v' H6 n6 o7
      try simp (disch := first | omega | (simp only [L3] <;> omega)) only [Sall,evalOp,init,binA_s,binE,binI,unE,convE,okNil,builtE,gv,TD.isAgg,resV,↓reduceIte,Nat.reduceEqDiff,reduceCtorEq,Nat.reduceAdd,Nat.reduceMul,Nat.reduceLeDiff,za0,za2,Int.reduceEq,Int.reduceLT,Int.reduceLE,Nat.reduceLT,tiA,tiXA, h4, h0, wi, ← ex]
      exact ⟨ll.length - (i + 1), by omega, i + 1, v', rfl, by omega, rfl, rfl, by rw [zg4 hil]; exact o7.only 0 rfl⟩
    · have hie : i = ll.length := by omega
      rw [hie, List.take_length] at o2
      try simp (disch := first | omega | (simp only [L3] <;> omega)) only [Sall,evalOp,init,binA_s,binE,binI,unE,convE,okNil,builtE,gv,TD.isAgg,resV,↓reduceIte,Nat.reduceEqDiff,reduceCtorEq,Nat.reduceAdd,Nat.reduceMul,Nat.reduceLeDiff,za0,za2,Int.reduceEq,Int.reduceLT,Int.reduceLE,Nat.reduceLT,tiA,tiXA, h3]
      exact o2
end Go.Proofs.YtemgclojolmhbaaGreat.A
end

section
set_option maxRecDepth 100000
set_option maxHeartbeats 2000000
namespace Go.Proofs.YtemgclojolmhbaaGreat.A
open Go Go.Abs Go.RowKit
theorem sizeR_c (v : Value) (k : Nat) (l : List Int) (H : AH) (hv : Rd 14 H v k l) (hk : k ≤ 4294967296) : ACalls Tryz.prog 90 [v] H (is (.int .i64 k) H) := by
  refine za3 [.tmp 2] Tryz.func90 (by kernel_rfl) rfl rfl (Nat.le_of_ble_eq_true rfl) (by kernel_rfl) ?_
  try simp (disch := first | omega | (simp only [L3] <;> omega)) only [Sall,evalOp,init,binA_s,binE,binI,unE,convE,okNil,builtE,gv,TD.isAgg,resV,↓reduceIte,Nat.reduceEqDiff,reduceCtorEq,Nat.reduceAdd,Nat.reduceMul,Nat.reduceLeDiff,za0,za2,Int.reduceEq,Int.reduceLT,Int.reduceLE,Nat.reduceLT,tiA, builtE, hv.len, is]
theorem isRoundRobin_c (n : Nat) (v : Value) (k : Nat) (l : List Int) (H : AH) (hb : schedB n k l = true) (hv : Rd 14 H v k l) (hk : k ≤ 4294967296) :
    ACalls Tryz.prog 64 [.agg #[.int .i64 n, v]] H (is (.bool (robinB n k l)) H) := by
  refine ACalls.wf (by kernel_rfl) fun hs => zaY rfl (za3 [.tmp 2] Tryz.func64 (by kernel_rfl) rfl rfl (Nat.le_of_ble_eq_true rfl) (by kernel_rfl) ?_)
  obtain ⟨hn, hk40, hrounds⟩ := zaT hb
  have hone := hv.one
  have em : Int.tmod (n : Int) 2 = ((n % 2 : Nat) : Int) := rfl
  have up : Up H.next H (H.push ⟨26, true, [.int .i64 n, v]⟩) := (Up.refl _ H).push (Nat.le_refl _) _
  have e1 : (H.push ⟨26, true, [.int .i64 n, v]⟩).row H.next = some ⟨26, true, [.int .i64 n, v]⟩ := by rw [AH.push_row, if_pos rfl]
  have n1 : (H.push ⟨26, true, [.int .i64 n, v]⟩).next = H.next + 1 := rfl
  try simp (disch := first | omega | (simp only [L3] <;> omega)) only [Sall,evalOp,init,binA_s,binE,binI,unE,convE,okNil,builtE,gv,TD.isAgg,resV,↓reduceIte,Nat.reduceEqDiff,reduceCtorEq,Nat.reduceAdd,Nat.reduceMul,Nat.reduceLeDiff,za0,za2,Int.reduceEq,Int.reduceLT,Int.reduceLE,Nat.reduceLT,tiA, hone]
  revert up e1 n1
  generalize H.push ⟨26, true, [.int .i64 n, v]⟩ = H1
  intro up e1 n1
  have hv1 := hv.same (up.le hs).row
  refine zhI [0, 1, 3, 4, 5, 6, 7, 8, 9, 2, 10] (by kernel_rfl) (by kernel_rfl) rfl ?_
  have two : ((2 : Int) = 0) = False := by simp
  try simp (disch := first | omega | (simp only [L3] <;> omega)) only [Sall,evalOp,init,binA_s,binE,binI,unE,convE,okNil,builtE,gv,TD.isAgg,resV,↓reduceIte,Nat.reduceEqDiff,reduceCtorEq,Nat.reduceAdd,Nat.reduceMul,Nat.reduceLeDiff,za0,za2,Int.reduceEq,Int.reduceLT,Int.reduceLE,Nat.reduceLT,tiA, e1, em, w64, two]
  refine (sizeR_c v k l H1 hv1 hk).to ?_
  refine ⟨.inr (.inr (LE.refl _)), ?_⟩
  by_cases hkn : k = n - 1 + n % 2
  · have e0 : ((k : Int) != (n : Int) - 1 + ((n % 2 : Nat) : Int)) = false := by rw [show (k : Int) = (n : Int) - 1 + ((n % 2 : Nat) : Int) by omega]; exact bne_self_eq_false _
    try simp (disch := first | omega | (simp only [L3] <;> omega)) only [Sall,evalOp,init,binA_s,binE,binI,unE,convE,okNil,builtE,gv,TD.isAgg,resV,↓reduceIte,Nat.reduceEqDiff,reduceCtorEq,Nat.reduceAdd,Nat.reduceMul,Nat.reduceLeDiff,za0,za2,Int.reduceEq,Int.reduceLT,Int.reduceLE,Nat.reduceLT,tiA, e0, e1]
    refine (meetings_c n v k l H1 hb hv1 hk).mono ?_
    rintro u H2 ⟨up2, hf⟩
    have hsq := meetM_sq n l k
    have hlen := hf.rd.len
    rw [hsq.1] at hlen
    have u2 : Up H.next H H2 := up.trans up2 (by omega)
    refine Holds.mp ?_
    try simp (disch := first | omega | (simp only [L3] <;> omega)) only [Sall,evalOp,init,binA_s,binE,binI,unE,convE,okNil,builtE,gv,TD.isAgg,resV,↓reduceIte,Nat.reduceEqDiff,reduceCtorEq,Nat.reduceAdd,Nat.reduceMul,Nat.reduceLeDiff,za0,za2,Int.reduceEq,Int.reduceLT,Int.reduceLE,Nat.reduceLT,tiA, builtE, hlen]
    refine za5 (fun m t H' => ∃ a : Nat, m = n - a ∧ a ≤ n ∧ t 21 = .int .i64 a ∧ t 20 = .int .i64 n ∧ t 19 = u ∧ H' = H2 ∧ (∀ i, i < a → ∀ j, j < n → balAt (meetM n l k) i j = true)) n ?_ ?_
    · refine ⟨0, by omega, by omega, ?_⟩
      try simp (disch := first | omega | (simp only [L3] <;> omega)) only [Sall,evalOp,init,binA_s,binE,binI,unE,convE,okNil,builtE,gv,TD.isAgg,resV,↓reduceIte,Nat.reduceEqDiff,reduceCtorEq,Nat.reduceAdd,Nat.reduceMul,Nat.reduceLeDiff,za0,za2,Int.reduceEq,Int.reduceLT,Int.reduceLE,Nat.reduceLT,tiA, Int.natCast_zero, Nat.not_lt_zero, false_implies]
    · rintro m t H' ⟨a, hm, h14, h21, h20, h19, rfl, hall⟩
      try simp (disch := first | omega | (simp only [L3] <;> omega)) only [Sall,evalOp,init,binA_s,binE,binI,unE,convE,okNil,builtE,gv,TD.isAgg,resV,↓reduceIte,Nat.reduceEqDiff,reduceCtorEq,Nat.reduceAdd,Nat.reduceMul,Nat.reduceLeDiff,za0,za2,Int.reduceEq,Int.reduceLT,Int.reduceLE,Nat.reduceLT,tiA, h21, h20]
      refine za4 (fun h => ?_) (fun h => ?_)
      · obtain ⟨i, o, u', c, r, y, my, rfl, hr, hy, hsx, hok⟩ := hf.rd.get (j := a) (by rw [hsq.1]; omega)
        have hmy := hsx.lenK1
        rw [hsq.2 a (by omega)] at hmy
        subst hmy
        have hMl := hsq.1
        try simp (disch := first | omega | (simp only [L3] <;> omega)) only [Sall,evalOp,init,binA_s,binE,binI,unE,convE,okNil,builtE,gv,TD.isAgg,resV,↓reduceIte,Nat.reduceEqDiff,reduceCtorEq,Nat.reduceAdd,Nat.reduceMul,Nat.reduceLeDiff,za0,za2,Int.reduceEq,Int.reduceLT,Int.reduceLE,Nat.reduceLT,tiA, h21, h20, h19, hr, hy, hok, builtE, hsx.len]
        (repeat refine And.intro (by omega) ?_)
        refine za5 (fun z t H7 => ∃ b : Nat, z = my - b ∧ b ≤ my ∧ t 28 = .int .i64 b ∧ t 27 = .int .i64 my ∧ t 26 = y ∧ t 3 = .int .i64 a ∧ t 21 = .int .i64 a ∧ t 20 = .int .i64 my ∧ t 19 = .slice (some ⟨i, o, u'⟩) (meetM my l k).length c ∧ H7 = H' ∧ (∀ j, j < b → balAt (meetM my l k) a j = true)) my ?_ ?_
        · refine ⟨0, by omega, by omega, ?_⟩
          try simp (disch := first | omega | (simp only [L3] <;> omega)) only [Sall,evalOp,init,binA_s,binE,binI,unE,convE,okNil,builtE,gv,TD.isAgg,resV,↓reduceIte,Nat.reduceEqDiff,reduceCtorEq,Nat.reduceAdd,Nat.reduceMul,Nat.reduceLeDiff,za0,za2,Int.reduceEq,Int.reduceLT,Int.reduceLE,Nat.reduceLT,tiA, Int.natCast_zero, Nat.not_lt_zero, false_implies, h21, h20, h19]
        · rintro z t H7 ⟨b, hz, hbn, h28, h27, h26, h3, h21, h20, h19, rfl, hin⟩
          try simp (disch := first | omega | (simp only [L3] <;> omega)) only [Sall,evalOp,init,binA_s,binE,binI,unE,convE,okNil,builtE,gv,TD.isAgg,resV,↓reduceIte,Nat.reduceEqDiff,reduceCtorEq,Nat.reduceAdd,Nat.reduceMul,Nat.reduceLeDiff,za0,za2,Int.reduceEq,Int.reduceLT,Int.reduceLE,Nat.reduceLT,tiA, h28, h27]
          refine za4 (fun hh => ?_) (fun hh => ?_)
          · obtain ⟨i7, o7, u7, c7, r7, rfl, hr7, hc7, hs7, hg7⟩ := hsx.get (by omega)
            have g1 := hs7 b (by omega)
            by_cases hab : a = b
            · have e2 : ((a : Int) != (b : Int)) = false := by rw [hab]; exact bne_self_eq_false _
              have hbal : balAt (meetM my l k) a b = true := by unfold balAt; rw [decide_eq_true hab]; rfl
              try simp (disch := first | omega | (simp only [L3] <;> omega)) only [Sall,evalOp,init,binA_s,binE,binI,unE,convE,okNil,builtE,gv,TD.isAgg,resV,↓reduceIte,Nat.reduceEqDiff,reduceCtorEq,Nat.reduceAdd,Nat.reduceMul,Nat.reduceLeDiff,za0,za2,Int.reduceEq,Int.reduceLT,Int.reduceLE,Nat.reduceLT,tiA, h28, h27, h26, h3, h21, h20, h19, hr7, g1, e2, w64]
              (repeat refine And.intro (by omega) ?_)
              refine ⟨my - (b + 1), by omega, b + 1, rfl, by omega, rfl, fun j hj => ?_⟩
              by_cases e : j = b
              · rw [e]; exact hbal
              · exact hin j (by omega)
            · have e2 : ((a : Int) != (b : Int)) = true := by rw [bne_iff_ne]; omega
              by_cases hx1 : ((meetM my l k).getD a []).getD b 0 = 1
              · have e3 : (((meetM my l k).getD a []).getD b 0 != 1) = false := by rw [hx1]; rfl
                have hbal : balAt (meetM my l k) a b = true := by unfold balAt; rw [hx1]; simp
                try simp (disch := first | omega | (simp only [L3] <;> omega)) only [Sall,evalOp,init,binA_s,binE,binI,unE,convE,okNil,builtE,gv,TD.isAgg,resV,↓reduceIte,Nat.reduceEqDiff,reduceCtorEq,Nat.reduceAdd,Nat.reduceMul,Nat.reduceLeDiff,za0,za2,Int.reduceEq,Int.reduceLT,Int.reduceLE,Nat.reduceLT,tiA, h28, h27, h26, h3, h21, h20, h19, hr7, g1, e2, e3, w64]
                (repeat refine And.intro (by omega) ?_)
                refine ⟨my - (b + 1), by omega, b + 1, rfl, by omega, rfl, fun j hj => ?_⟩
                by_cases e : j = b
                · rw [e]; exact hbal
                · exact hin j (by omega)
              · have e3 : (((meetM my l k).getD a []).getD b 0 != 1) = true := by rw [bne_iff_ne]; exact hx1
                have hbal : balAt (meetM my l k) a b = false := by
                  unfold balAt
                  rw [decide_eq_false hab, Bool.false_or]
                  exact beq_eq_false_iff_ne.2 hx1
                try simp (disch := first | omega | (simp only [L3] <;> omega)) only [Sall,evalOp,init,binA_s,binE,binI,unE,convE,okNil,builtE,gv,TD.isAgg,resV,↓reduceIte,Nat.reduceEqDiff,reduceCtorEq,Nat.reduceAdd,Nat.reduceMul,Nat.reduceLeDiff,za0,za2,Int.reduceEq,Int.reduceLT,Int.reduceLE,Nat.reduceLT,tiA, h28, h27, h26, h3, h21, h20, h19, hr7, g1, e2, e3, w64]
                (repeat refine And.intro (by omega) ?_)
                unfold robinB
                rw [balB_bad (i := a) (j := b) (by rw [hMl]; omega) (by rw [hsq.2 a (by omega)]; omega) hbal, Bool.and_false]
                exact ⟨rfl, u2⟩
          · try simp (disch := first | omega | (simp only [L3] <;> omega)) only [Sall,evalOp,init,binA_s,binE,binI,unE,convE,okNil,builtE,gv,TD.isAgg,resV,↓reduceIte,Nat.reduceEqDiff,reduceCtorEq,Nat.reduceAdd,Nat.reduceMul,Nat.reduceLeDiff,za0,za2,Int.reduceEq,Int.reduceLT,Int.reduceLE,Nat.reduceLT,tiA, h21, h20, h19, w64]
            refine ⟨my - (a + 1), by omega, a + 1, rfl, by omega, rfl, fun i hi j hj => ?_⟩
            by_cases e : i = a
            · rw [e]; exact hin j (by omega)
            · exact hall i (by omega) j hj
      · try simp (disch := first | omega | (simp only [L3] <;> omega)) only [Sall,evalOp,init,binA_s,binE,binI,unE,convE,okNil,builtE,gv,TD.isAgg,resV,↓reduceIte,Nat.reduceEqDiff,reduceCtorEq,Nat.reduceAdd,Nat.reduceMul,Nat.reduceLeDiff,za0,za2,Int.reduceEq,Int.reduceLT,Int.reduceLE,Nat.reduceLT,tiA, true_and]
        unfold robinB
        rw [decide_eq_true hkn, zhG (fun i hi j hj => hall i (by rw [hsq.1] at hi; omega) j (by rw [hsq.1] at hi; rw [hsq.2 i hi] at hj; exact hj))]
        exact ⟨rfl, u2⟩
  · have e0 : ((k : Int) != (n : Int) - 1 + ((n % 2 : Nat) : Int)) = true := by rw [bne_iff_ne]; omega
    try simp (disch := first | omega | (simp only [L3] <;> omega)) only [Sall,evalOp,init,binA_s,binE,binI,unE,convE,okNil,builtE,gv,TD.isAgg,resV,↓reduceIte,Nat.reduceEqDiff,reduceCtorEq,Nat.reduceAdd,Nat.reduceMul,Nat.reduceLeDiff,za0,za2,Int.reduceEq,Int.reduceLT,Int.reduceLE,Nat.reduceLT,tiA, e0]
    unfold robinB
    rw [decide_eq_false hkn, Bool.false_and]
    exact ⟨rfl, up⟩
end Go.Proofs.YtemgclojolmhbaaGreat.A
end

section
set_option maxRecDepth 100000
set_option maxHeartbeats 2000000
namespace Go.Proofs.YtemgclojolmhbaaGreat.A
open Go Go.Abs Go.RowKit
end Go.Proofs.YtemgclojolmhbaaGreat.A
end

section
set_option maxRecDepth 100000
set_option maxHeartbeats 2000000
namespace Go.Proofs.YtemgclojolmhbaaGreat.A
open Go Go.Abs Go.RowKit
end Go.Proofs.YtemgclojolmhbaaGreat.A
end

section
set_option maxRecDepth 100000
set_option maxHeartbeats 2000000
namespace Go.Proofs.YtemgclojolmhbaaGreat.A
open Go Go.Abs Go.RowKit
end Go.Proofs.YtemgclojolmhbaaGreat.A
end

section
set_option maxRecDepth 100000
set_option maxHeartbeats 2000000
namespace Go.Proofs.YtemgclojolmhbaaGreat.A
open Go Go.Abs Go.RowKit
end Go.Proofs.YtemgclojolmhbaaGreat.A
end

section
set_option maxRecDepth 100000
set_option maxHeartbeats 2000000
namespace Go.Proofs.YtemgclojolmhbaaGreat.A
open Go Go.Abs Go.RowKit
theorem zdA (n : Nat) (v : Value) (k : Nat) (l : List Int) (w : Value) (y : List Int) (H : AH) (hv : Rd 14 H v k l) (hw : Rd 1 H w y.length y) (hy : ∀ x ∈ y, 0 ≤ x ∧ x < (k : Int)) (hyl : y.length ≤ 40) (hk : k ≤ 4294967296) :
    ACalls Tryz.prog 33 [.agg #[.int .i64 n, v], w] H (FrS n y.length (reoL l y) H) := by
  refine ACalls.wf (by kernel_rfl) fun hs => za3 [.cell 4 26] Tryz.func33 (by kernel_rfl) rfl rfl (Nat.le_of_ble_eq_true rfl) (by kernel_rfl) ?_
  have hone := hv.one
  try simp (disch := first | omega | (simp only [L3] <;> omega)) only [Sall,evalOp,init,binA_s,binE,binI,unE,convE,okNil,builtE,gv,TD.isAgg,resV,↓reduceIte,Nat.reduceEqDiff,reduceCtorEq,Nat.reduceAdd,Nat.reduceMul,Nat.reduceLeDiff,za0,za2,Int.reduceEq,Int.reduceLT,Int.reduceLE,Nat.reduceLT,tiA, hone, zaV]
  refine za5 (fun m t H' => ∃ (c : Nat) (u : Value) (lo hi : Nat), m = y.length - c ∧ c ≤ y.length ∧ t 6 = .int .i64 c ∧ t 1 = w ∧ t 2 = .pointer (some ⟨H.next, 0, none⟩) ∧ t 4 = .pointer (some ⟨H.next + 1, 0, none⟩) ∧ t 5 = .pointer (some ⟨H.next + 3, 0, none⟩) ∧
    Up H.next H H' ∧ H'.row H.next = some ⟨26, true, [.int .i64 n, v]⟩ ∧ H'.row (H.next + 1) = some ⟨26, true, [.int .i64 0, .slice none 0 0]⟩ ∧ H'.row (H.next + 3) = some ⟨26, true, [.int .i64 n, u]⟩ ∧ Fr 14 67 lo hi H' u c (reoL l (y.take c)) ∧ H.next + 1 < lo ∧ hi ≤ H'.next ∧ (hi ≤ H.next + 3 ∨ H.next + 3 < lo) ∧ H.next + 4 ≤ H'.next ∧ Sc H') y.length ?_ ?_
  · refine ⟨0, .slice (some ⟨H.next + 2, 0, some 14⟩) 0 0, H.next + 2, H.next + 3, by omega, by omega, ?_⟩
    try simp (disch := first | omega | (simp only [L3] <;> omega)) only [Sall,evalOp,init,binA_s,binE,binI,unE,convE,okNil,builtE,gv,TD.isAgg,resV,↓reduceIte,Nat.reduceEqDiff,reduceCtorEq,Nat.reduceAdd,Nat.reduceMul,Nat.reduceLeDiff,za0,za2,Int.reduceEq,Int.reduceLT,Int.reduceLE,Nat.reduceLT,tiA, Int.natCast_zero, List.take_zero]
    refine ⟨((((((Up.refl _ H).push (by omega) _).push (Nat.le_succ _) _).push (Nat.le_succ_of_le (Nat.le_succ _)) _).push (Nat.le_succ_of_le (Nat.le_succ_of_le (Nat.le_succ _))) _).set (by omega) _), by rw [if_neg (by omega), if_neg (by omega)], ⟨by simp [reoL], .inr ⟨H.next + 2, by omega, by omega, rfl, ?_⟩⟩, by omega, by omega, ((((Sc.push hs _).push _).push _).push _).set _ _⟩
    simp [AH.push_row, AH.setCells_row, AH.push_next, reoL, ints]
  · rintro m t H' ⟨c, u, lo, hi, hm, hcn, h6, h1, h2, h4, h5, hup, hr0, hr1, hr3, hfr, hlo, hhi, hdj, hnx, hsc⟩
    have hup1 := hup.next
    have hw' : Rd 1 H' w y.length y := hw.same (hup.le hs).row
    try simp (disch := first | omega | (simp only [L3] <;> omega)) only [Sall,evalOp,init,binA_s,binE,binI,unE,convE,okNil,builtE,gv,TD.isAgg,resV,↓reduceIte,Nat.reduceEqDiff,reduceCtorEq,Nat.reduceAdd,Nat.reduceMul,Nat.reduceLeDiff,za0,za2,Int.reduceEq,Int.reduceLT,Int.reduceLE,Nat.reduceLT,tiA, h6, h1, builtE, hw'.len]
    refine za4 (fun h => ?_) (fun h => ?_)
    · have hv' : Rd 14 H' v k l := hv.same (hup.le hs).row
      obtain ⟨i, o, uu, cc, r, rfl, hr, hc', hg, _⟩ := hw'.get (by omega)
      have g1 := hg c (by omega)
      have hx := hy (y.getD c 0) (by rw [List.getD_eq_getElem?_getD, List.getElem?_eq_getElem (by omega)]; exact List.getElem_mem _)
      have htk : y.take (c + 1) = y.take c ++ [y.getD c 0] := by rw [List.take_add_one, List.getElem?_eq_getElem (by omega), List.getD_eq_getElem?_getD, List.getElem?_eq_getElem (by omega)]; rfl
      revert g1 hx htk
      generalize y.getD c 0 = x0
      intro g1 hx htk
      obtain ⟨x, rfl⟩ : ∃ x : Nat, x0 = x := ⟨x0.toNat, by omega⟩
      obtain ⟨i2, o2, u2, c2, r2, rfl, hr2, hc2, _, hg2⟩ := hv'.get (by omega)
      have hrl : (rnd l x).length = 14 := zbF l x k hv.1 (by omega)
      have hrl2 : ((l.drop (x * 14)).take 14).length = 14 := hrl
      have hsg := hg2 (x * 14) 14 (by omega)
      have hrd : ints ((l.drop (x * 14)).take 14) = ints (rnd l x) := rfl
      have hre := reoL_snoc l (y.take c) (x : Int)
      rw [Int.toNat_natCast] at hre
      refine zb2 (by kernel_rfl) (by kernel_rfl) ?_
      try simp (disch := first | omega | (simp only [L3] <;> omega)) only [Sall,evalOp,init,binA_s,binE,binI,unE,convE,okNil,builtE,gv,TD.isAgg,resV,↓reduceIte,Nat.reduceEqDiff,reduceCtorEq,Nat.reduceAdd,Nat.reduceMul,Nat.reduceLeDiff,za0,za2,Int.reduceEq,Int.reduceLT,Int.reduceLE,Nat.reduceLT,tiA, h6, h1, h2, h4, h5, hr0, hr3, hr, g1, hr2, hsg, hrd, hrl, hrl2, za1, zaL, zbT]
      (repeat refine And.intro (by omega) ?_)
      refine ⟨.inr (.inr (hsc.le _)), ?_⟩
      obtain ⟨H2, e2⟩ : ∃ H2, H2 = H'.push ⟨67, true, ints (rnd l x)⟩ := ⟨_, rfl⟩
      have n2 : H2.next = H'.next + 1 := by rw [e2]; rfl
      have s2 : ∀ i, i < H'.next → H2.row i = H'.row i := fun i hi => by rw [e2, AH.push_row, if_neg (by omega)]
      have sc2 : Sc H2 := by rw [e2]; exact hsc.push _
      rw [← e2]
      clear e2
      refine appE_frS (k := 14) (lo := lo) (hi := hi) (l := reoL l (y.take c)) (m := rnd l x) (hfr.same fun i _ hi => s2 i (by omega)) rfl (by omega) hrl (by omega) (by decide) (by omega) (by omega) sc2 ?_
      intro v' H3 n3 s3 sc3 f3
      have hr33 : H3.row (H.next + 3) = some ⟨26, true, [.int .i64 n, u]⟩ := by rw [s3 _ (by omega) (by omega), s2 _ (by omega), hr3]
      have o3 := f3.rd.one
      refine ⟨.inr (.inl (by kernel_rfl)), ?_⟩
      try simp (disch := first | omega | (simp only [L3] <;> omega)) only [Sall,evalOp,init,binA_s,binE,binI,unE,convE,okNil,builtE,gv,TD.isAgg,resV,↓reduceIte,Nat.reduceEqDiff,reduceCtorEq,Nat.reduceAdd,Nat.reduceMul,Nat.reduceLeDiff,za0,za2,Int.reduceEq,Int.reduceLT,Int.reduceLE,Nat.reduceLT,tiA, h6, h1, h2, h4, h5, hr33, o3, w64, List.set_cons_succ, List.set_cons_zero]
      refine ⟨.inr (.inl (by kernel_rfl)), y.length - (c + 1), by omega, c + 1, v', H2.next, H2.next + 1, rfl, by omega, rfl, Up.set ⟨by omega, fun i hi => by rw [s3 i (by omega) (by omega), s2 i (by omega), hup.row i hi]⟩ (by omega) _, ?_⟩
      have q0 : H3.row H.next = H'.row H.next := by rw [s3 _ (by omega) (by omega), s2 _ (by omega)]
      have q1 : H3.row (H.next + 1) = H'.row (H.next + 1) := by rw [s3 _ (by omega) (by omega), s2 _ (by omega)]
      refine ⟨by rw [q0, hr0], by rw [q1, hr1], rfl, ?_, by omega, by omega, by omega, by omega, sc3.set _ _⟩
      rw [htk, hre]
      exact f3.same fun i hi _ => by rw [AH.setCells_row, if_neg (by omega)]
    · have hc : c = y.length := by omega
      subst hc
      rw [List.take_length] at hfr
      try simp (disch := first | omega | (simp only [L3] <;> omega)) only [Sall,evalOp,init,binA_s,binE,binI,unE,convE,okNil,builtE,gv,TD.isAgg,resV,↓reduceIte,Nat.reduceEqDiff,reduceCtorEq,Nat.reduceAdd,Nat.reduceMul,Nat.reduceLeDiff,za0,za2,Int.reduceEq,Int.reduceLT,Int.reduceLE,Nat.reduceLT,tiA, h4, h5, hr1, hr3]
      refine ⟨u, rfl, hup.set (by omega) _, ?_⟩
      exact (hfr.same (H' := H'.setCells (H.next + 1) [.int .i64 n, u]) fun i hi _ => by rw [AH.setCells_row, if_neg (by omega)]).wide (by omega) (by rw [AH.setCells_next]; omega)
end Go.Proofs.YtemgclojolmhbaaGreat.A
end

section
set_option maxRecDepth 100000
set_option maxHeartbeats 2000000
namespace Go.Proofs.YtemgclojolmhbaaGreat.A
open Go Go.Abs Go.RowKit
theorem IsRoundRobin_c (q : Int) (v : Value) (k : Nat) (l : List Int) (H : AH) (hv : Rd 14 H v k l) (hk : k ≤ 4294967296) :
    ACalls Tryz.prog 20 [.agg #[.int .i64 q, v]] H (is (.tuple #[.bool (schedB q k l && robinB q.toNat k l), .int .i64 (codeS q k l true)]) H) := by
  refine zaY (by simp [flat, Abs.scal]) (ACalls.wf (by kernel_rfl) fun hs => za3 [.tmp 2, .tmp 3] Tryz.func20 (by kernel_rfl) rfl rfl (Nat.le_of_ble_eq_true rfl) (by kernel_rfl) ?_)
  have hone := hv.one
  have o1 := (Ow.refl hs).push ⟨26, true, [.int .i64 q, v]⟩
  try simp (disch := first | omega | (simp only [L3] <;> omega)) only [Sall,evalOp,init,binA_s,binE,binI,unE,convE,okNil,builtE,gv,TD.isAgg,resV,↓reduceIte,Nat.reduceEqDiff,reduceCtorEq,Nat.reduceAdd,Nat.reduceMul,Nat.reduceLeDiff,za0,za2,Int.reduceEq,Int.reduceLT,Int.reduceLE,Nat.reduceLT,tiA,tiXA, hone]
  obtain ⟨pi, epi⟩ : ∃ pi, pi = H.next := ⟨_, rfl⟩
  rw [← epi] at o1 ⊢
  generalize H.push ⟨26, true, [.int .i64 q, v]⟩ = H1 at o1 ⊢
  have hv1 := hv.same (o1.old hs)
  have g0 := (o1.rowAt 0 rfl).1
  try simp (disch := first | omega | (simp only [L3] <;> omega)) only [Sall,evalOp,init,binA_s,binE,binI,unE,convE,okNil,builtE,gv,TD.isAgg,resV,↓reduceIte,Nat.reduceEqDiff,reduceCtorEq,Nat.reduceAdd,Nat.reduceMul,Nat.reduceLeDiff,za0,za2,Int.reduceEq,Int.reduceLT,Int.reduceLE,Nat.reduceLT,tiA,tiXA, g0, hone]
  refine (zbQ q v k l 37 [] true H1 hv1 hk (fun H' _ _ => zfT H')).to ?_
  refine Holds.mp ?_
  unfold codeS
  obtain hE | hE : schedB q k l = true ∨ schedB q k l = false := by cases schedB q k l <;> simp
  · rw [if_pos hE, if_pos rfl, hE]
    obtain ⟨h2, _, _⟩ := zaT hE
    obtain ⟨n, rfl⟩ : ∃ n : Nat, q = n := ⟨q.toNat, by omega⟩
    rw [Int.toNat_natCast]
    have c0 : ((0 : Int) != 0) = false := rfl
    try simp (disch := first | omega | (simp only [L3] <;> omega)) only [Sall,evalOp,init,binA_s,binE,binI,unE,convE,okNil,builtE,gv,TD.isAgg,resV,↓reduceIte,Nat.reduceEqDiff,reduceCtorEq,Nat.reduceAdd,Nat.reduceMul,Nat.reduceLeDiff,za0,za2,Int.reduceEq,Int.reduceLT,Int.reduceLE,Nat.reduceLT,tiA,tiXA, c0, g0, hone]
    refine (isRoundRobin_c n v k l H1 hE hv1 hk).to ?_
    refine Holds.mp ?_
    try simp (disch := first | omega | (simp only [L3] <;> omega)) only [Sall,evalOp,init,binA_s,binE,binI,unE,convE,okNil,builtE,gv,TD.isAgg,resV,↓reduceIte,Nat.reduceEqDiff,reduceCtorEq,Nat.reduceAdd,Nat.reduceMul,Nat.reduceLeDiff,za0,za2,Int.reduceEq,Int.reduceLT,Int.reduceLE,Nat.reduceLT,tiA,tiXA, Bool.true_and]
    first | exact (by rw [epi]; exact o1.up) | exact ⟨rfl, by rw [epi]; exact o1.up⟩
  · rw [if_neg (by rw [hE]; simp), hE]
    have c0 : ((1 : Int) != 0) = true := rfl
    try simp (disch := first | omega | (simp only [L3] <;> omega)) only [Sall,evalOp,init,binA_s,binE,binI,unE,convE,okNil,builtE,gv,TD.isAgg,resV,↓reduceIte,Nat.reduceEqDiff,reduceCtorEq,Nat.reduceAdd,Nat.reduceMul,Nat.reduceLeDiff,za0,za2,Int.reduceEq,Int.reduceLT,Int.reduceLE,Nat.reduceLT,tiA,tiXA, c0, Bool.false_and]
    first | exact (by rw [epi]; exact o1.up) | exact ⟨rfl, by rw [epi]; exact o1.up⟩
end Go.Proofs.YtemgclojolmhbaaGreat.A
end

section
set_option maxRecDepth 100000
namespace Go.Proofs.YtemgclojolmhbaaGreat.A
open Go Go.Abs Go.RowKit
theorem bkL_bnd (n : Nat) (V : List (List Int)) (hV : V.length ≤ 1000) : ∀ x ∈ bkL n V, 0 ≤ x ∧ x ≤ 1000000 := fun x hx => by
  unfold bkL at hx
  rw [List.mem_map] at hx
  obtain ⟨a, _, rfl⟩ := hx
  have := bkI_le V a (V.length - 1)
  omega
theorem zeO (n : Nat) (V : List (List Int)) : (bkL n V).length = n := by simp [bkL]
theorem brkR_len (q : Int) (k : Nat) (l : List Int) (ll : List (List Int)) : (brkR q k l ll).length ≤ 14 := by
  unfold brkR
  split
  · rename_i h
    have := (zaT (codeV_zero.1 h).1).1
    rw [zeO]; omega
  · simp
theorem patR_len {q : Int} {k : Nat} {l : List Int} {ll : List (List Int)} (hl : ll.length ≤ 100) (a : Int) : (patR q k l ll a).length ≤ 100 := by
  unfold patR
  split
  · rw [zbY]; exact hl
  · simp
theorem few_law {q : Int} {k : Nat} {l : List Int} (h : fewC q k l = 0) : schedB q k l = true ∧ (fstV q.toNat k l).length = k ∧ (∀ y ∈ fstV q.toNat k l, y.length = q.toNat) ∧ codeV q k l (fstV q.toNat k l) true = 0 ∧ fewR q k l ≤ (bkL q.toNat (fstV q.toNat k l)).sum := by
  have hb : schedB q k l = true := by
    unfold fewC at h
    split at h
    · assumption
    · cases h
  obtain ⟨⟨h2, h14⟩, hk, hro⟩ := zaT hb
  obtain ⟨n, rfl⟩ : ∃ n : Nat, q = n := ⟨q.toNat, by omega⟩
  rw [Int.toNat_natCast]
  have hr := zfJ hb
  have hs := fst_seq hr
  have hl : (fstV n k l).length = k := hs.len
  have hf := seq_vn hs
  refine ⟨hb, hl, fun y hy => ?_, codeV_zero.2 ⟨hb, hf.1, rfl, hf.2⟩, ?_⟩
  · unfold fstV at hy
    rw [List.mem_map] at hy
    obtain ⟨i, _, rfl⟩ := hy
    simp [fstR]
  · rw [ziA, hl]
    have e : fewR n k l = dpB n (fun i => rowsL n (rnd l i)) k := by unfold fewR; rw [if_pos h, Int.toNat_natCast]
    rw [e]
    exact (few_eq hr hs).2 _ hs
theorem circ_sched : (schedB 2 1 (zaW 2 1) && schedB 4 3 (zaW 4 3) && schedB 6 5 (zaW 6 5) && schedB 8 7 (zaW 8 7) && schedB 10 9 (zaW 10 9) && schedB 12 11 (zaW 12 11) && schedB 14 13 (zaW 14 13)) = true := by decide +kernel
theorem cv_law {n : Int} (h : cvC n = 0) : (2 ≤ n ∧ n ≤ 14) ∧ cvR n = cvL n.toNat ∧ codeV n (oddUp n.toNat) (zaW n.toNat (oddUp n.toNat)) (cvL n.toNat) true = 0 ∧ (bkL n.toNat (cvL n.toNat)).sum = n - 2 ∧ (cvL n.toNat).length ≤ 14 ∧ ∀ y ∈ cvL n.toNat, y.length ≤ 14 := by
  have hn : 2 ≤ n ∧ n ≤ 14 ∧ n % 2 = 0 := by
    unfold cvC at h
    split at h
    · assumption
    · cases h
  have hR : cvR n = cvL n.toNat := by unfold cvR; rw [if_pos hn]
  obtain ⟨m, rfl⟩ : ∃ m : Nat, n = m := ⟨n.toNat, by omega⟩
  rw [Int.toNat_natCast] at hR ⊢
  have hm : 2 ≤ m ∧ m ≤ 14 := by omega
  have he : m % 2 = 0 := by omega
  have ho : oddUp m = m - 1 := by unfold oddUp; omega
  obtain ⟨c1, c2, c3⟩ := cv_ok hm he
  have hs : schedB (m : Int) (m - 1) (zaW m (m - 1)) = true := by
    have h0 := circ_sched
    simp only [Bool.and_eq_true] at h0
    obtain ⟨⟨⟨⟨⟨⟨a2, a4⟩, a6⟩, a8⟩, a10⟩, a12⟩, a14⟩ := h0
    have : m = 2 ∨ m = 4 ∨ m = 6 ∨ m = 8 ∨ m = 10 ∨ m = 12 ∨ m = 14 := by omega
    rcases this with rfl | rfl | rfl | rfl | rfl | rfl | rfl
    · exact a2
    · exact a4
    · exact a6
    · exact a8
    · exact a10
    · exact a12
    · exact a14
  have hl := (zd9 c1).1
  refine ⟨by omega, hR, ?_, ?_, by omega, fun y hy => ?_⟩
  · rw [ho]
    exact codeV_zero.2 ⟨hs, by rw [Int.toNat_natCast]; exact c1, rfl, by rw [Int.toNat_natCast]; exact c2⟩
  · rw [ziA, hl, show m - 1 - 1 = m - 2 by omega, c3]
  · obtain ⟨i, hi, rfl⟩ := List.mem_iff_getElem.1 hy
    have := ((zd9 c1).2 i (by omega)).1
    rw [List.getD_eq_getElem?_getD, List.getElem?_eq_getElem hi] at this
    have this : (cvL m)[i].length = m := this
    omega
theorem fitP_14 {n : Nat} {rows : List (List Int)} (hn : n ≤ 14) : ∀ d D X, (∀ r ∈ D, r.length = 14) → fitP n rows d D = some X → ∀ r ∈ X, r.length = 14
  | 0, D, X, h, e => by
    have : D = X := by simpa [fitP] using e
    subst this; exact h
  | d + 1, D, X, h, e => by
    unfold fitP at e
    obtain ⟨r, hr, er⟩ := List.exists_of_findSome?_eq_some e
    refine fitP_14 hn d (D ++ [r]) X (fun y hy => ?_) er
    rcases List.mem_append.1 hy with h1 | h1
    · exact h y h1
    · rw [List.mem_singleton] at h1
      rw [h1]
      unfold fitL at hr
      exact (zdZ hn _ _ _ (zcH n) r (List.mem_filter.1 hr).1).1
theorem sf_law {P : List (List Int)} (h : sfC P = 0) : ∃ n : Nat, (2 ≤ n ∧ n ≤ 6) ∧ P.length = n ∧ sfQ P = n ∧ (sfR P).length = n - 1 ∧ (∀ r ∈ sfR P, r.length = 14) ∧ patB n P = true ∧ (schedB n (n - 1) (sfR P).flatten && robinB n (n - 1) (sfR P).flatten) = true ∧ codeS n (n - 1) (sfR P).flatten true = 0 ∧
    codeS n (n - 1) (sfR P).flatten (frmB n (n - 1) (rowsP n P)) = 0 ∧ vnB n (n - 1) (sfR P).flatten (rowsP n P) = true ∧ ∀ a, a < n → patR n (n - 1) (sfR P).flatten (rowsP n P) a = P.getD a [] ∧ codeV n (n - 1) (sfR P).flatten (rowsP n P) (inT n a) = 0 := by
  have hok : sfOk P = true := by
    unfold sfC at h
    split at h
    · assumption
    · cases h
  have hX : (sfX P).isSome = true := by
    unfold sfC at h
    rw [if_pos hok] at h
    split at h
    · assumption
    · cases h
  obtain ⟨X, eX⟩ := Option.isSome_iff_exists.1 hX
  have hR : sfR P = X := by unfold sfR; rw [if_pos h, eX]; rfl
  obtain ⟨n, en⟩ : ∃ n, n = P.length := ⟨_, rfl⟩
  unfold sfOk at hok
  rw [Bool.and_eq_true, decide_eq_true_iff, ← en] at hok
  obtain ⟨⟨h2, h6, he⟩, hP⟩ := hok
  have hq : sfQ P = n := by unfold sfQ; rw [if_pos h, en]
  have hf : fitP n (rowsP n P) (n - 1) [] = some X := by rw [en, sfX_fitP]; exact eX
  have hn : 2 ≤ n ∧ n ≤ 14 := by omega
  obtain ⟨hl, hF⟩ := fitP_ok hn _ _ _ (fndR_nil n _) hf
  have hl : X.length = n - 1 := by simpa using hl
  have h14 := fitP_14 hn.2 _ _ _ (fun r hr => by simp at hr) hf
  obtain ⟨hs, hrb⟩ := fnd_robin hn he hF hl h14
  obtain ⟨hpl, hpr⟩ := zgK hP
  have hrows : ∀ i, i < n - 1 → ∀ a, a < n → ((rowsP n P).getD i []).getD a 0 = 0 ∨ ((rowsP n P).getD i []).getD a 0 = 1 := fun i hi a ha => by rw [zfF n P hi ha]; exact (hpr a ha).2 i hi
  have hv := fnd_venues hF hl h14 hrows
  have hfm : frmB n (n - 1) (rowsP n P) = true := by
    refine zfN (by simp [rowsP]) fun i hi => ?_
    have hi : i < n - 1 := by simpa [rowsP] using hi
    have hrl : ((rowsP n P).getD i []).length = n := by simp [rowsP, List.getD_eq_getElem?_getD, hi]
    unfold frmR
    rw [Bool.and_eq_true, decide_eq_true_iff, List.all_eq_true]
    refine ⟨hrl, fun a ha => ?_⟩
    rw [List.mem_range, hrl] at ha
    have := hrows i hi a ha
    exact decide_eq_true (by omega)
  rw [hR]
  refine ⟨n, ⟨h2, h6⟩, en.symm, hq, hl, h14, hP, by rw [hs, hrb]; rfl, zhC hs rfl, by rw [hfm]; exact zhC hs rfl, hv, fun a ha => ?_⟩
  have hin : inT (n : Int) (a : Int) = true := decide_eq_true (by omega)
  have hc : codeV n (n - 1) X.flatten (rowsP n P) (inT n a) = 0 := codeV_zero.2 ⟨hs, by rw [Int.toNat_natCast]; exact hfm, hin, by rw [Int.toNat_natCast]; exact hv⟩
  refine ⟨?_, hc⟩
  unfold patR
  rw [if_pos hc, Int.toNat_natCast]
  apply List.ext_getElem
  · rw [zbY, (hpr a ha).1]; simp [rowsP]
  · intro i h1 h2
    have hi : i < n - 1 := by rw [(hpr a ha).1] at h2; exact h2
    have e1 := zfF n P hi ha
    rw [List.getD_eq_getElem?_getD (l := P.getD a []), List.getElem?_eq_getElem h2] at e1
    have e1 : ((rowsP n P).getD i []).getD a 0 = (P.getD a [])[i] := e1
    rw [← e1]
    simp only [patL, List.getElem_map]
    rw [List.getD_eq_getElem?_getD (l := rowsP n P), List.getElem?_eq_getElem (by simp [rowsP]; exact hi)]
    rfl
end Go.Proofs.YtemgclojolmhbaaGreat.A
end

section
set_option maxRecDepth 100000
set_option maxHeartbeats 2000000
namespace Go.Proofs.YtemgclojolmhbaaGreat.A
open Go Go.Abs Go.RowKit
end Go.Proofs.YtemgclojolmhbaaGreat.A
end

section
set_option maxRecDepth 100000
set_option maxHeartbeats 2000000
namespace Go.Proofs.YtemgclojolmhbaaGreat.A
open Go Go.Abs Go.RowKit
end Go.Proofs.YtemgclojolmhbaaGreat.A
end

section
set_option maxRecDepth 100000
set_option maxHeartbeats 2000000
namespace Go.Proofs.YtemgclojolmhbaaGreat.A
open Go Go.Abs Go.RowKit
end Go.Proofs.YtemgclojolmhbaaGreat.A
end

section
set_option maxRecDepth 100000
set_option maxHeartbeats 2000000
namespace Go.Proofs.YtemgclojolmhbaaGreat.A
open Go Go.Abs Go.RowKit
end Go.Proofs.YtemgclojolmhbaaGreat.A
end

section
set_option maxRecDepth 100000
set_option maxHeartbeats 2000000
namespace Go.Proofs.YtemgclojolmhbaaGreat.A
open Go Go.Abs Go.RowKit
structure FtJ (A : AH) (n : Nat) (R : List (List Int)) (sv : Value) (cs fs : List Nat) (t : T) (H : AH) : Prop where
  hcs : cs = [1, 2] ∨ cs = [2] ∨ cs = []
  hfs : fs = [4] ∨ fs = []
  t13 : t 13 = sv
  t16 : t 16 = sv
  up : Up A.next A H
  sc : Sc H
  p1 : 1 ∉ cs → ∃ i, t 14 = .slice (some ⟨i, 0, some 1⟩) 1 1 ∧ i < H.next ∧ H.row i = some ⟨3, true, [.int .i64 1]⟩
  s2 : 2 ∉ cs → Fr2 1 33 2 A.next H.next H (t 15) (tabM n wP R)
  p4 : 4 ∉ fs → ∃ i, t 17 = .slice (some ⟨i, 0, some 1⟩) 2 2 ∧ i < H.next ∧ H.row i = some ⟨3, true, [.int .i64 2, .int .i64 3]⟩
end Go.Proofs.YtemgclojolmhbaaGreat.A
end

section
set_option maxRecDepth 100000
set_option maxHeartbeats 2000000
namespace Go.Proofs.YtemgclojolmhbaaGreat.A
open Go Go.Abs Go.RowKit Go.Shelf Go.Sort
end Go.Proofs.YtemgclojolmhbaaGreat.A
end

section
set_option maxRecDepth 100000
set_option maxHeartbeats 2000000
namespace Go.Proofs.YtemgclojolmhbaaGreat.A
open Go Go.Abs Go.RowKit
end Go.Proofs.YtemgclojolmhbaaGreat.A
end

section
set_option maxRecDepth 100000
set_option maxHeartbeats 2000000
namespace Go.Proofs.YtemgclojolmhbaaGreat.A
open Go Go.Abs Go.RowKit
end Go.Proofs.YtemgclojolmhbaaGreat.A
end

section
set_option maxRecDepth 100000
set_option maxHeartbeats 2000000
namespace Go.Proofs.YtemgclojolmhbaaGreat.A
open Go Go.Abs Go.RowKit
end Go.Proofs.YtemgclojolmhbaaGreat.A
end

section
set_option maxRecDepth 100000
set_option maxHeartbeats 2000000
namespace Go.Proofs.YtemgclojolmhbaaGreat.A
open Go Go.Abs Go.RowKit
end Go.Proofs.YtemgclojolmhbaaGreat.A
end

section
set_option maxRecDepth 100000
set_option maxHeartbeats 2000000
namespace Go.Proofs.YtemgclojolmhbaaGreat.A
open Go Go.Abs Go.RowKit
def VL (n : Nat) (l : List Int) : Prop := ∀ x, x ∈ l → 0 ≤ x ∧ x < (n : Int)
theorem VL.getD {n : Nat} {l : List Int} (h : VL n l) {j : Nat} (hj : j < l.length) : 0 ≤ l.getD j 0 ∧ l.getD j 0 < (n : Int) := by
  rw [List.getD_eq_getElem?_getD, List.getElem?_eq_getElem hj]
  exact h _ (List.getElem_mem _)
theorem VL.set {n : Nat} {l : List Int} (h : VL n l) {x : Int} (hx : 0 ≤ x ∧ x < (n : Int)) (j : Nat) : VL n (l.set j x) := fun y hy => by
  rcases List.mem_or_eq_of_mem_set hy with h1 | h1
  · exact h y h1
  · rw [h1]; exact hx
theorem VL.app {n : Nat} {l m : List Int} (h : VL n l) (k : VL n m) : VL n (l ++ m) := fun y hy => by
  rcases List.mem_append.1 hy with h1 | h1
  · exact h y h1
  · exact k y h1
theorem VL.zeros {n : Nat} (h : 0 < n) (k : Nat) : VL n (List.replicate k 0) := fun y hy => by
  rw [List.eq_of_mem_replicate hy]; omega
theorem VL.nil (n : Nat) : VL n [] := fun y hy => by simp at hy
theorem zc7 (n k : Nat) (v pv : Value) (l y : List Int) (H : AH) (hn : 0 < n ∧ n ≤ 14) (hk : k ≤ 4294967290) (hv : Rd 14 H v k l) (hl : VL n l) (hp : Rd 1 H pv n y) (hy : VL n y) :
    ACalls Tryz.prog 52 [.agg #[.int .i64 n, v], pv] H (fun r H' => ∃ u l', r = .agg #[.int .i64 n, u] ∧ Ow H H' [.sl 14 67 u k (ints l')] ∧ VL n l') := by
  refine ACalls.wf (by kernel_rfl) fun hs => za3 [.cell 4 26] Tryz.func52 (by kernel_rfl) rfl rfl (Nat.le_of_ble_eq_true rfl) (by kernel_rfl) ?_
  have hone := hv.one
  have hln0 := hv.1
  have hyl := hp.1
  have o1 := (((((Ow.refl hs).push ⟨26, true, [.int .i64 n, v]⟩).push ⟨26, true, [.int .i64 0, .slice none 0 0]⟩).pushSl (k := 14) (n := 0) (ty := 67) (vs := ints []) rfl).push ⟨26, true, [.int .i64 0, .slice none 0 0]⟩).putRow 3 rfl (cs' := [.int .i64 n, .slice (some ⟨H.next + 2, 0, some 14⟩) 0 0])
  try simp (disch := first | omega | (simp only [L3] <;> omega)) only [Sall,evalOp,init,binA_s,binE,binI,unE,convE,okNil,builtE,gv,TD.isAgg,resV,↓reduceIte,Nat.reduceEqDiff,reduceCtorEq,Nat.reduceAdd,Nat.reduceMul,Nat.reduceLeDiff,za0,za2,Int.reduceEq,Int.reduceLT,Int.reduceLE,Nat.reduceLT,tiA,tiXA, hone, zaV]
  refine za5 (fun z t H' => ∃ (c : Nat) (u : Value) (l' : List Int), z = k - c ∧ c ≤ k ∧ t 6 = .int .i64 c ∧ t 1 = pv ∧ t 2 = .pointer (some ⟨H.next, 0, none⟩) ∧ t 4 = .pointer (some ⟨H.next + 1, 0, none⟩) ∧ t 5 = .pointer (some ⟨H.next + 3, 0, none⟩) ∧ VL n l' ∧
    Ow H H' [.row H.next ⟨26, true, [.int .i64 n, v]⟩, .row (H.next + 1) ⟨26, true, [.int .i64 0, .slice none 0 0]⟩, .sl 14 67 u c (ints l'), .row (H.next + 3) ⟨26, true, [.int .i64 n, u]⟩]) k ?_ ?_
  · refine ⟨0, .slice (some ⟨H.next + 2, 0, some 14⟩) 0 0, [], by omega, by omega, ?_⟩
    try simp (disch := first | omega | (simp only [L3] <;> omega)) only [Sall,evalOp,init,binA_s,binE,binI,unE,convE,okNil,builtE,gv,TD.isAgg,resV,↓reduceIte,Nat.reduceEqDiff,reduceCtorEq,Nat.reduceAdd,Nat.reduceMul,Nat.reduceLeDiff,za0,za2,Int.reduceEq,Int.reduceLT,Int.reduceLE,Nat.reduceLT,tiA,tiXA, Int.natCast_zero]
    exact ⟨VL.nil n, o1⟩
  · rintro z t H' ⟨c, u, l', hz, hc, h6, h1, h2, h4, h5, hV, o2⟩
    have g0 := (o2.rowAt 0 rfl).1
    have hv2 := hv.len
    try simp (disch := first | omega | (simp only [L3] <;> omega)) only [Sall,evalOp,init,binA_s,binE,binI,unE,convE,okNil,builtE,gv,TD.isAgg,resV,↓reduceIte,Nat.reduceEqDiff,reduceCtorEq,Nat.reduceAdd,Nat.reduceMul,Nat.reduceLeDiff,za0,za2,Int.reduceEq,Int.reduceLT,Int.reduceLE,Nat.reduceLT,tiA,tiXA, h6, h2, g0, hone, builtE, hv2]
    refine za4 (fun hh => ?_) (fun hh => ?_)
    · have o3 := (o2.push ⟨67, true, ints (List.replicate 14 0)⟩).putRow 4 rfl (cs' := ints (List.replicate 14 0))
      try simp (disch := first | omega | (simp only [L3] <;> omega)) only [Sall,evalOp,init,binA_s,binE,binI,unE,convE,okNil,builtE,gv,TD.isAgg,resV,↓reduceIte,Nat.reduceEqDiff,reduceCtorEq,Nat.reduceAdd,Nat.reduceMul,Nat.reduceLeDiff,za0,za2,Int.reduceEq,Int.reduceLT,Int.reduceLE,Nat.reduceLT,tiA,tiXA, h6]
      refine za5 (fun z2 t H2 => ∃ (a : Nat) (rd : List Int), z2 = n - a ∧ a ≤ n ∧ t 8 = .int .i64 a ∧ t 7 = .pointer (some ⟨H'.next, 0, none⟩) ∧ t 6 = .int .i64 c ∧ t 1 = pv ∧ t 2 = .pointer (some ⟨H.next, 0, none⟩) ∧ t 4 = .pointer (some ⟨H.next + 1, 0, none⟩) ∧ t 5 = .pointer (some ⟨H.next + 3, 0, none⟩) ∧ rd.length = 14 ∧ VL n rd ∧
        Ow H H2 [.row H.next ⟨26, true, [.int .i64 n, v]⟩, .row (H.next + 1) ⟨26, true, [.int .i64 0, .slice none 0 0]⟩, .sl 14 67 u c (ints l'), .row (H.next + 3) ⟨26, true, [.int .i64 n, u]⟩, .row H'.next ⟨67, true, ints rd⟩]) n ?_ ?_
      · refine ⟨0, List.replicate 14 0, by omega, by omega, ?_⟩
        try simp (disch := first | omega | (simp only [L3] <;> omega)) only [Sall,evalOp,init,binA_s,binE,binI,unE,convE,okNil,builtE,gv,TD.isAgg,resV,↓reduceIte,Nat.reduceEqDiff,reduceCtorEq,Nat.reduceAdd,Nat.reduceMul,Nat.reduceLeDiff,za0,za2,Int.reduceEq,Int.reduceLT,Int.reduceLE,Nat.reduceLT,tiA,tiXA, Int.natCast_zero, h6, h1, h2, h4, h5]
        exact ⟨VL.zeros hn.1 _, o3⟩
      · rintro z2 t H2 ⟨a, rd, hz2, ha, h8, h7, h6, h1, h2, h4, h5, hrl, hR, o4⟩
        have g0 := (o4.rowAt 0 rfl).1
        have g4 := (o4.rowAt 4 rfl).1
        try simp (disch := first | omega | (simp only [L3] <;> omega)) only [Sall,evalOp,init,binA_s,binE,binI,unE,convE,okNil,builtE,gv,TD.isAgg,resV,↓reduceIte,Nat.reduceEqDiff,reduceCtorEq,Nat.reduceAdd,Nat.reduceMul,Nat.reduceLeDiff,za0,za2,Int.reduceEq,Int.reduceLT,Int.reduceLE,Nat.reduceLT,tiA,tiXA, h8, h2, g0, hone]
        refine za4 (fun hh2 => ?_) (fun hh2 => ?_)
        · obtain ⟨i, o, uu, cc, r, rfl, hr, q1, hg, _⟩ := (hp.same (o4.old hs)).get (by omega)
          obtain ⟨i2, o2', u2, c2, r2, rfl, hr2, q2, hg2, _⟩ := (hv.same (o4.old hs)).get (by omega)
          have k1 := hg a (by omega)
          have k2 := hg2 (c * 14 + a) (by omega)
          rw [← Nat.add_assoc] at k2
          have b1 := hy.getD (j := a) (by omega)
          have b2 := hl.getD (j := c * 14 + a) (by omega)
          revert k1 k2 b1 b2
          generalize y.getD a 0 = x1
          generalize l.getD (c * 14 + a) 0 = x2
          intro k1 k2 b1 b2
          have k3 := hg x2.toNat (by omega)
          have b3 := hy.getD (j := x2.toNat) (by omega)
          try simp (disch := first | omega | (simp only [L3] <;> omega)) only [Sall,evalOp,init,binA_s,binE,binI,unE,convE,okNil,builtE,gv,TD.isAgg,resV,↓reduceIte,Nat.reduceEqDiff,reduceCtorEq,Nat.reduceAdd,Nat.reduceMul,Nat.reduceLeDiff,za0,za2,Int.reduceEq,Int.reduceLT,Int.reduceLE,Nat.reduceLT,tiA,tiXA, h8, h7, h6, h1, h2]
          refine zb2 (by kernel_rfl) (by kernel_rfl) ?_
          try simp (disch := first | omega | (simp only [L3] <;> omega)) only [Sall,evalOp,init,binA_s,binE,binI,unE,convE,okNil,builtE,gv,TD.isAgg,resV,↓reduceIte,Nat.reduceEqDiff,reduceCtorEq,Nat.reduceAdd,Nat.reduceMul,Nat.reduceLeDiff,za0,za2,Int.reduceEq,Int.reduceLT,Int.reduceLE,Nat.reduceLT,tiA,tiXA, h8, h7, h6, h1, h2, g0, g4, hone, hr, hr2, k1, k2, k3, hrl, zaR, w64]
          (repeat refine And.intro (by omega) ?_)
          try simp (disch := first | omega | (simp only [L3] <;> omega)) only [Sall,evalOp,init,binA_s,binE,binI,unE,convE,okNil,builtE,gv,TD.isAgg,resV,↓reduceIte,Nat.reduceEqDiff,reduceCtorEq,Nat.reduceAdd,Nat.reduceMul,Nat.reduceLeDiff,za0,za2,Int.reduceEq,Int.reduceLT,Int.reduceLE,Nat.reduceLT,tiA,tiXA, h8, h7, h6, h1, h2, h4, h5, g0, g4, hone, hr, hr2, k1, k2, k3, hrl, zaR, w64]
          have o5 := o4.putRow 4 rfl (cs' := ints (rd.set x1.toNat (y.getD x2.toNat 0)))
          exact ⟨.inr (.inl (by kernel_rfl)), n - (a + 1), by omega, a + 1, _, rfl, by omega, by omega, by rw [List.length_set]; exact hrl, hR.set b3 _, o5⟩
        · have ou := o4.one 2 rfl
          have g3 := (o4.rowAt 3 rfl).1
          try simp (disch := first | omega | (simp only [L3] <;> omega)) only [Sall,evalOp,init,binA_s,binE,binI,unE,convE,okNil,builtE,gv,TD.isAgg,resV,↓reduceIte,Nat.reduceEqDiff,reduceCtorEq,Nat.reduceAdd,Nat.reduceMul,Nat.reduceLeDiff,za0,za2,Int.reduceEq,Int.reduceLT,Int.reduceLE,Nat.reduceLT,tiA,tiXA, h5, h7, g3, g4, ou, zaL, hrl, zbT]
          (repeat refine And.intro (by omega) ?_)
          refine (o4.tmp ⟨67, true, ints rd⟩).app 2 (c := 1) (ms := ints rd) rfl rfl (by omega) (by rw [za1, hrl]) (by omega) (by decide) (by omega) ?_
          intro v' H3 n3 o6
          rw [zaK] at o6
          have g3' := (o6.rowAt 3 rfl).1
          have ou' := o6.one 2 rfl
          try simp (disch := first | omega | (simp only [L3] <;> omega)) only [Sall,evalOp,init,binA_s,binE,binI,unE,convE,okNil,builtE,gv,TD.isAgg,resV,↓reduceIte,Nat.reduceEqDiff,reduceCtorEq,Nat.reduceAdd,Nat.reduceMul,Nat.reduceLeDiff,za0,za2,Int.reduceEq,Int.reduceLT,Int.reduceLE,Nat.reduceLT,tiA,tiXA, h6, h1, h2, h4, h5, g3', ou', w64]
          have o7 := o6.putRow 3 rfl (cs' := [.int .i64 n, v'])
          exact ⟨k - (c + 1), by omega, c + 1, _, _, rfl, by omega, by omega, hV.app hR, Ow.left (L := [_, _, _, _]) o7⟩
    · have hck : c = k := by omega
      subst hck
      have g3 := (o2.rowAt 3 rfl).1
      have g1 := (o2.rowAt 1 rfl).1
      have ou := o2.one 2 rfl
      have o3 := o2.putRow 1 rfl (cs' := [.int .i64 n, u])
      try simp (disch := first | omega | (simp only [L3] <;> omega)) only [Sall,evalOp,init,binA_s,binE,binI,unE,convE,okNil,builtE,gv,TD.isAgg,resV,↓reduceIte,Nat.reduceEqDiff,reduceCtorEq,Nat.reduceAdd,Nat.reduceMul,Nat.reduceLeDiff,za0,za2,Int.reduceEq,Int.reduceLT,Int.reduceLE,Nat.reduceLT,tiA,tiXA, h4, h5, g3, g1, ou]
      exact ⟨u, l', rfl, o3.sub (fun _ => 2) (fun j hj => by
          obtain rfl : j = 0 := by simp at hj; omega
          rfl) (fun x y hx hy _ => by simp at hx hy; omega), hV⟩
end Go.Proofs.YtemgclojolmhbaaGreat.A
end

section
set_option maxRecDepth 100000
set_option maxHeartbeats 2000000
namespace Go.Proofs.YtemgclojolmhbaaGreat.A
open Go Go.Abs Go.RowKit
theorem zcW {P : Program} {A : Code} {Q : Exit → T → AH → Prop} {N : T → AH → Prop} {t : T} {H : AH} {b : Bool} (M : T → AH → Prop) (hf : b = false → M t H) (ht : b = true → awp P A (seqQ M Q) t H) (hN : ∀ t H, M t H → N t H) :
    condC (some (.bool b)) (awp P A (seqQ N Q) t H) (N t H) := by
  cases b with
  | false => exact hN _ _ (hf rfl)
  | true => exact zbP A _ _ t H (zd2 hN fun _ _ _ h => h) (ht rfl)
end Go.Proofs.YtemgclojolmhbaaGreat.A
end

section
set_option maxRecDepth 100000
set_option maxHeartbeats 2000000
namespace Go.Proofs.YtemgclojolmhbaaGreat.A
open Go Go.Abs Go.RowKit
structure Dq (cv : Value) (nb si : Nat) (H H' : AH) (L : List Th) : Prop where
  ex : ∃ B, SrcB cv nb si H B ∧ Ow B H' L
section
variable {cv : Value} {nb si : Nat} {H H' : AH} {L : List Th}
theorem Dq.start (h : Src cv nb si H) (sc : Sc H) : Dq cv nb si H H [] := ⟨⟨H, SrcB.refl h, Ow.refl sc⟩⟩
theorem Dq.src (h : Dq cv nb si H H' L) (hn : si < H.next) : Src cv nb si H' := by
  obtain ⟨B, b, o⟩ := h.ex; exact Ow.srcAt o b hn
theorem Dq.code (h : Dq cv nb si H H' L) (hx : CodeX cv nb si H) (sc : Sc H) : CodeX cv nb si H' := by
  obtain ⟨B, b, o⟩ := h.ex; exact hx.later fun i r hi hr => Ow.oldX o b sc i r hi hr
theorem Dq.sc (h : Dq cv nb si H H' L) : Sc H' := by obtain ⟨B, b, o⟩ := h.ex; exact o.sc
theorem Dq.le (h : Dq cv nb si H H' L) : H.next ≤ H'.next := by obtain ⟨B, b, o⟩ := h.ex; have := b.next; have := o.next; omega
theorem Dq.old (h : Dq cv nb si H H' L) (sc : Sc H) : ∀ i r, i ≠ si → H.row i = some r → H'.row i = some r := by
  obtain ⟨B, b, o⟩ := h.ex; exact Ow.oldX o b sc
theorem Dq.next (h : Dq cv nb si H H' L) (hn : si < H.next) {H2 : AH} (k : SrcB cv nb si H' H2) : Dq cv nb si H H2 L := by
  obtain ⟨B, b, o⟩ := h.ex
  obtain ⟨B2, b2, o2⟩ := Ow.src o (by rw [b.next]; exact hn) k
  exact ⟨B2, b.trans b2, o2⟩
theorem Dq.call (h : Dq cv nb si H H' L) (hn : si < H.next) {H2 H3 : AH} {M : List Th} (k : SrcB cv nb si H' H2) (o3 : Ow H2 H3 M) : Dq cv nb si H H3 (L ++ M) := by
  obtain ⟨B, b, o⟩ := h.ex
  obtain ⟨B2, b2, o2⟩ := Ow.srcCall o (by rw [b.next]; exact hn) k o3
  exact ⟨B2, b.trans b2, o2⟩
theorem Dq.bind (h : Dq cv nb si H H' L) (hn : si < H.next) {H3 : AH} {M : List Th} (k : Dq cv nb si H' H3 M) : Dq cv nb si H H3 (L ++ M) := by
  obtain ⟨B, b, o⟩ := k.ex
  exact h.call hn b o
theorem Dq.calls (h : Dq cv nb si H H' L) {H3 : AH} {M : List Th} (o3 : Ow H' H3 M) : Dq cv nb si H H3 (L ++ M) := by
  obtain ⟨B, b, o⟩ := h.ex
  exact ⟨B, b, o.call o3⟩
theorem Dq.map (h : Dq cv nb si H H' L) {H2 : AH} {M : List Th} (f : ∀ B, Ow B H' L → Ow B H2 M) : Dq cv nb si H H2 M := by
  obtain ⟨B, b, o⟩ := h.ex
  exact ⟨B, b, f B o⟩
theorem Dq.push (h : Dq cv nb si H H' L) (r : Row) : Dq cv nb si H (H'.push r) (L ++ [.row H'.next r]) := h.map fun B o => o.push r
theorem Dq.tmp (h : Dq cv nb si H H' L) (r : Row) : Dq cv nb si H (H'.push r) L := h.map fun B o => o.tmp r
theorem Dq.left {M : List Th} (h : Dq cv nb si H H' (L ++ M)) : Dq cv nb si H H' L := h.map fun B o => o.left
theorem Dq.putRow (h : Dq cv nb si H H' L) (k : Nat) {i : Nat} {ty : TypeId} {b : Bool} {cs cs' : List Value} (hk : L[k]? = some (.row i ⟨ty, b, cs⟩)) : Dq cv nb si H (H'.setCells i cs') (L.set k (.row i ⟨ty, b, cs'⟩)) := h.map fun B o => o.putRow k hk
theorem Dq.rowAt (h : Dq cv nb si H H' L) (k : Nat) {i : Nat} {r : Row} (hk : L[k]? = some (.row i r)) : H'.row i = some r := by
  obtain ⟨B, b, o⟩ := h.ex
  exact (o.rowAt k hk).1
theorem Dq.rd (h : Dq cv nb si H H' L) (k : Nat) {z n : Nat} {ty : TypeId} {v : Value} {l : List Int} (hk : L[k]? = some (.sl z ty v n (ints l))) : Rd z H' v n l := by
  obtain ⟨B, b, o⟩ := h.ex
  exact o.rd k hk
theorem Dq.rd2 (h : Dq cv nb si H H' L) (k : Nat) {ty ty' : TypeId} {v : Value} {ll : List (List Int)} (hk : L[k]? = some (.sl2 (Value.int .i64) ty ty' v ll)) : Rd2 1 H' v ll := by
  obtain ⟨B, b, o⟩ := h.ex
  exact o.rd2 k hk
theorem Dq.one (h : Dq cv nb si H H' L) (k : Nat) {z n : Nat} {ty : TypeId} {v : Value} {vs : List Value} (hk : L[k]? = some (.sl z ty v n vs)) : v.oneCell' = true := by
  obtain ⟨B, b, o⟩ := h.ex
  exact o.one k hk
theorem Dq.capOne (h : Dq cv nb si H H' L) (k : Nat) {z n : Nat} {ty : TypeId} {v : Value} {vs : List Value} (hk : L[k]? = some (.cap z ty v n vs)) : v.oneCell' = true := by
  obtain ⟨B, b, o⟩ := h.ex
  exact o.capOne k hk
theorem Dq.capRs (h : Dq cv nb si H H' L) (k : Nat) {z n : Nat} {ty : TypeId} {v : Value} {l : List Int} (hk : L[k]? = some (.cap z ty v n (ints l))) : Rs z H' v n l := by
  obtain ⟨B, b, o⟩ := h.ex
  exact o.capRs k hk
end
theorem freeVL {n : Nat} (h : 0 < n) : VL n (freeL n) := fun y hy => by
  unfold freeL at hy
  rw [List.mem_map] at hy
  obtain ⟨a, _, rfl⟩ := hy
  split <;> omega
theorem l01Made_c (n : Nat) (v : Value) (ll : List (List Int)) (H : AH) (hn : 0 < n ∧ n ≤ 14) (hk : ll.length ≤ 4294967290) (hv : Rd2 1 H v ll) (hl : ∀ j, j < ll.length → (ll.getD j []).length = 2 ∧ VL n (ll.getD j [])) :
    ACalls Tryz.prog 98 [.int .i64 n, v] H (fun r H' => ∃ rd, r = .agg (ints rd).toArray ∧ rd.length = 14 ∧ VL n rd ∧ Ow H H' []) := by
  refine ACalls.wf (by kernel_rfl) fun hs => za3 [.cell 4 67] Tryz.func98 (by kernel_rfl) rfl rfl (Nat.le_of_ble_eq_true rfl) (by kernel_rfl) ?_
  have hone := hv.one
  have hlen := hv.len
  try simp (disch := first | omega | (simp only [L3] <;> omega)) only [Sall,evalOp,init,binA_s,binE,binI,unE,convE,okNil,builtE,gv,TD.isAgg,resV,↓reduceIte,Nat.reduceEqDiff,reduceCtorEq,Nat.reduceAdd,Nat.reduceMul,Nat.reduceLeDiff,za0,za2,Int.reduceEq,Int.reduceLT,Int.reduceLE,Nat.reduceLT,tiA,tiXA, true_and]
  have o1 := (Ow.refl hs).push ⟨67, true, ints (List.replicate 14 0)⟩
  revert o1
  generalize e1 : H.push ⟨67, true, ints (List.replicate 14 0)⟩ = H1
  intro o1
  refine (freeS_c n (by omega) H1).to ?_
  have hfl := zaJ (n : Int)
  have o2 := (o1.push ⟨67, true, ints (List.replicate 14 0)⟩).putRow 1 rfl (cs' := ints (freeL n))
  try simp (disch := first | omega | (simp only [L3] <;> omega)) only [Sall,evalOp,init,binA_s,binE,binI,unE,convE,okNil,builtE,gv,TD.isAgg,resV,↓reduceIte,Nat.reduceEqDiff,reduceCtorEq,Nat.reduceAdd,Nat.reduceMul,Nat.reduceLeDiff,za0,za2,Int.reduceEq,Int.reduceLT,Int.reduceLE,Nat.reduceLT,tiA,tiXA, hfl]
  refine za5 (fun z t H' => ∃ (j : Nat) (rd : List Int), z = ll.length - j ∧ j ≤ ll.length ∧ t 6 = .int .i64 j ∧ t 1 = v ∧ t 5 = .pointer (some ⟨H1.next, 0, none⟩) ∧ t 4 = .pointer (some ⟨H.next, 0, none⟩) ∧ rd.length = 14 ∧ VL n rd ∧
    Ow H H' [.row H.next ⟨67, true, ints (List.replicate 14 0)⟩, .row H1.next ⟨67, true, ints rd⟩]) ll.length ?_ ?_
  · refine ⟨0, freeL n, by omega, by omega, ?_⟩
    try simp (disch := first | omega | (simp only [L3] <;> omega)) only [Sall,evalOp,init,binA_s,binE,binI,unE,convE,okNil,builtE,gv,TD.isAgg,resV,↓reduceIte,Nat.reduceEqDiff,reduceCtorEq,Nat.reduceAdd,Nat.reduceMul,Nat.reduceLeDiff,za0,za2,Int.reduceEq,Int.reduceLT,Int.reduceLE,Nat.reduceLT,tiA,tiXA, Int.natCast_zero]
    exact ⟨hfl, freeVL hn.1, o2⟩
  · rintro z t H' ⟨j, rd, hz, hj, h6, h1, h5, h4, hrl, hR, o3⟩
    have g0 := (o3.rowAt 0 rfl).1
    have g1 := (o3.rowAt 1 rfl).1
    try simp (disch := first | omega | (simp only [L3] <;> omega)) only [Sall,evalOp,init,binA_s,binE,binI,unE,convE,okNil,builtE,gv,TD.isAgg,resV,↓reduceIte,Nat.reduceEqDiff,reduceCtorEq,Nat.reduceAdd,Nat.reduceMul,Nat.reduceLeDiff,za0,za2,Int.reduceEq,Int.reduceLT,Int.reduceLE,Nat.reduceLT,tiA,tiXA, h6, h1, hlen, builtE]
    refine za4 (fun hh => ?_) (fun hh => ?_)
    · obtain ⟨ai, ao, au, ac, ar, ax, am, rfl, a1, a2, a3, a4⟩ := hv.get (j := j) (by omega)
      have a5 := a3.lenK1
      obtain ⟨l2, l3⟩ := hl j (by omega)
      rw [← a5] at l2
      subst l2
      obtain ⟨bi, bo, bu, bc, br, rfl, b1, b2, b3, b4⟩ := a3.get (by omega)
      have k0 : br.cells[bo + Int.toNat 0]? = _ := b3 0 (by omega)
      have k1 : br.cells[bo + Int.toNat 1]? = _ := b3 1 (by omega)
      have c0 := l3.getD (j := 0) (by omega)
      have c1 := l3.getD (j := 1) (by omega)
      revert k0 k1 c0 c1
      generalize (ll.getD j []).getD 0 0 = x0
      generalize (ll.getD j []).getD 1 0 = x1
      intro k0 k1 c0 c1
      have a1' := o3.old hs _ _ a1
      have b1' := o3.old hs _ _ b1
      try simp (disch := first | omega | (simp only [L3] <;> omega)) only [Sall,evalOp,init,binA_s,binE,binI,unE,convE,okNil,builtE,gv,TD.isAgg,resV,↓reduceIte,Nat.reduceEqDiff,reduceCtorEq,Nat.reduceAdd,Nat.reduceMul,Nat.reduceLeDiff,za0,za2,Int.reduceEq,Int.reduceLT,Int.reduceLE,Nat.reduceLT,tiA,tiXA, h6, h1, h5]
      refine zb2 (by kernel_rfl) (by kernel_rfl) ?_
      try simp (disch := first | omega | (simp only [L3] <;> omega)) only [Sall,evalOp,init,binA_s,binE,binI,unE,convE,okNil,builtE,gv,TD.isAgg,resV,↓reduceIte,Nat.reduceEqDiff,reduceCtorEq,Nat.reduceAdd,Nat.reduceMul,Nat.reduceLeDiff,za0,za2,Int.reduceEq,Int.reduceLT,Int.reduceLE,Nat.reduceLT,tiA,tiXA, h6, h1, h5, g1, a1', a2, a4, b1', k0, k1, hrl, zaR]
      (repeat refine And.intro (by omega) ?_)
      try simp (disch := first | omega | (simp only [L3] <;> omega)) only [Sall,evalOp,init,binA_s,binE,binI,unE,convE,okNil,builtE,gv,TD.isAgg,resV,↓reduceIte,Nat.reduceEqDiff,reduceCtorEq,Nat.reduceAdd,Nat.reduceMul,Nat.reduceLeDiff,za0,za2,Int.reduceEq,Int.reduceLT,Int.reduceLE,Nat.reduceLT,tiA,tiXA, h6, h1, h5, g1, a1', a2, a4, b1', k0, k1, hrl, zaR]
      have o4 := o3.putRow 1 rfl (cs' := ints (rd.set x0.toNat x1))
      have g1' := (o4.rowAt 1 rfl).1
      refine ⟨.inr (.inl (by kernel_rfl)), ?_⟩
      generalize H'.setCells H1.next (ints (rd.set x0.toNat x1)) = H2 at o4 g1' ⊢
      have a1' := o4.old hs _ _ a1
      have b1' := o4.old hs _ _ b1
      have hrl2 : (rd.set x0.toNat x1).length = 14 := by rw [List.length_set]; exact hrl
      refine zb2 (by kernel_rfl) (by kernel_rfl) ?_
      try simp (disch := first | omega | (simp only [L3] <;> omega)) only [Sall,evalOp,init,binA_s,binE,binI,unE,convE,okNil,builtE,gv,TD.isAgg,resV,↓reduceIte,Nat.reduceEqDiff,reduceCtorEq,Nat.reduceAdd,Nat.reduceMul,Nat.reduceLeDiff,za0,za2,Int.reduceEq,Int.reduceLT,Int.reduceLE,Nat.reduceLT,tiA,tiXA, h6, h1, h5, g1', a1', a2, a4, b1', k0, k1, hrl2, zaR]
      (repeat refine And.intro (by omega) ?_)
      try simp (disch := first | omega | (simp only [L3] <;> omega)) only [Sall,evalOp,init,binA_s,binE,binI,unE,convE,okNil,builtE,gv,TD.isAgg,resV,↓reduceIte,Nat.reduceEqDiff,reduceCtorEq,Nat.reduceAdd,Nat.reduceMul,Nat.reduceLeDiff,za0,za2,Int.reduceEq,Int.reduceLT,Int.reduceLE,Nat.reduceLT,tiA,tiXA, h6, h1, h5, h4, g1', a1', a2, a4, b1', k0, k1, hrl2, zaR, w64]
      exact ⟨.inr (.inl (by kernel_rfl)), ll.length - (j + 1), by omega, j + 1, (rd.set x0.toNat x1).set x1.toNat x0, rfl, by omega, by omega, by rw [List.length_set]; exact hrl2, (hR.set c1 _).set c0 _, o4.putRow 1 rfl⟩
    · have hje : j = ll.length := by omega
      subst hje
      try simp (disch := first | omega | (simp only [L3] <;> omega)) only [Sall,evalOp,init,binA_s,binE,binI,unE,convE,okNil,builtE,gv,TD.isAgg,resV,↓reduceIte,Nat.reduceEqDiff,reduceCtorEq,Nat.reduceAdd,Nat.reduceMul,Nat.reduceLeDiff,za0,za2,Int.reduceEq,Int.reduceLT,Int.reduceLE,Nat.reduceLT,tiA,tiXA, h4, h5, g0, g1, hrl]
      exact ⟨rd, rfl, hrl, hR, Ow.left (L := []) (o3.putRow 0 rfl)⟩
theorem zdD (cv : Value) (nb si n : Nat) (H : AH) (hn : 0 < n ∧ n ≤ 14) (hnb : nb ≤ 4611686018427387904) (hs : Src cv nb si H) (hc : CodeX cv nb si H) :
    ACalls Tryz.prog 75 [.pointer (some ⟨si, 0, none⟩), .int .i64 n] H (fun r H' => ∃ rd, r = .agg (ints rd).toArray ∧ rd.length = 14 ∧ VL n rd ∧ Dq cv nb si H H' []) := by
  refine ACalls.wf (by kernel_rfl) fun hsc => za3 [.cell 4 67] Tryz.func75 (by kernel_rfl) rfl rfl (Nat.le_of_ble_eq_true rfl) (by kernel_rfl) ?_
  obtain ⟨_, _, hrow, _⟩ := id hs
  have hsi := hsc _ _ hrow
  clear hrow
  have d0 := (Dq.start hs hsc).push ⟨67, true, ints (List.replicate 14 0)⟩
  try simp (disch := first | omega | (simp only [L3] <;> omega)) only [Sall,evalOp,init,binA_s,binE,binI,unE,convE,okNil,builtE,gv,TD.isAgg,resV,↓reduceIte,Nat.reduceEqDiff,reduceCtorEq,Nat.reduceAdd,Nat.reduceMul,Nat.reduceLeDiff,za0,za2,Int.reduceEq,Int.reduceLT,Int.reduceLE,Nat.reduceLT,tiA,tiXA, true_and]
  generalize H.push ⟨67, true, ints (List.replicate 14 0)⟩ = H1 at d0 ⊢
  refine (zbG cv nb si n H1 (by omega) hnb (d0.src hsi) (d0.code hc hsc)).mono ?_
  rintro u H2 ⟨l, B2, k2, o2, hp⟩
  rw [Int.toNat_natCast] at o2 hp
  have d1 := d0.call hsi k2 o2
  obtain ⟨ui, _, _, rfl, _⟩ := o2.get 0 rfl hn.1
  refine Holds.mp ?_
  try simp (disch := first | omega | (simp only [L3] <;> omega)) only [Sall,evalOp,init,binA_s,binE,binI,unE,convE,okNil,builtE,gv,TD.isAgg,resV,↓reduceIte,Nat.reduceEqDiff,reduceCtorEq,Nat.reduceAdd,Nat.reduceMul,Nat.reduceLeDiff,za0,za2,Int.reduceEq,Int.reduceLT,Int.reduceLE,Nat.reduceLT,tiA,tiXA, zaV]
  have d2 := d1.map fun B o => o.pushSl2 (Value.int .i64) 33 2
  generalize H2.push ⟨33, true, []⟩ = H3 at d2 ⊢
  refine (zc0 cv nb si 3 H3 (by omega) hnb (d2.src hsi) (d2.code hc hsc)).ex ?_
  rintro x H4 ⟨hx, hS⟩
  have d3 := d2.next hsi hS
  refine Holds.mp ?_
  try simp (disch := first | omega | (simp only [L3] <;> omega)) only [Sall,evalOp,init,binA_s,binE,binI,unE,convE,okNil,builtE,gv,TD.isAgg,resV,↓reduceIte,Nat.reduceEqDiff,reduceCtorEq,Nat.reduceAdd,Nat.reduceMul,Nat.reduceLeDiff,za0,za2,Int.reduceEq,Int.reduceLT,Int.reduceLE,Nat.reduceLT,tiA,tiXA, true_and]
  obtain ⟨w0, ew0⟩ : ∃ w0, w0 = Value.slice (some ⟨H2.next, 0, some 1⟩) 0 0 := ⟨_, rfl⟩
  rw [← ew0] at d3 ⊢
  generalize ((x : Int) == 0) = few
  refine za5 (fun z t H' => ∃ (i : Nat) (w : Value) (ll : List (List Int)), z = n - i ∧ t 8 = .int .i64 i ∧ t 7 = .bool few ∧ t 6 = w ∧ t 5 = .slice (some ⟨ui, 0, some 1⟩) n n ∧ t 4 = .pointer (some ⟨H.next, 0, none⟩) ∧ t 1 = .int .i64 n ∧ t 0 = .pointer (some ⟨si, 0, none⟩) ∧ i ≤ n + 1 ∧ ll.length ≤ i ∧ (∀ j, j < ll.length → (ll.getD j []).length = 2 ∧ VL n (ll.getD j [])) ∧
    Dq cv nb si H H' [.row H.next ⟨67, true, ints (List.replicate 14 0)⟩, .sl 1 2 (.slice (some ⟨ui, 0, some 1⟩) n n) n (ints l), .sl2 (Value.int .i64) 33 2 w ll]) n ?_ ?_
  · refine ⟨0, w0, [], by omega, ?_⟩
    try simp (disch := first | omega | (simp only [L3] <;> omega)) only [Sall,evalOp,init,binA_s,binE,binI,unE,convE,okNil,builtE,gv,TD.isAgg,resV,↓reduceIte,Nat.reduceEqDiff,reduceCtorEq,Nat.reduceAdd,Nat.reduceMul,Nat.reduceLeDiff,za0,za2,Int.reduceEq,Int.reduceLT,Int.reduceLE,Nat.reduceLT,tiA,tiXA, Int.natCast_zero]
    first | exact d3 | exact ⟨by omega, d3⟩ | exact ⟨fun j hj => by simp at hj, d3⟩ | exact ⟨by omega, fun j hj => by simp at hj, d3⟩
  · rintro z t H' ⟨i, w, ll, hz, h8, h7, h6, h5, h4, h1, h0, hi, hll, hl2, d4⟩
    have hw1 := (d4.rd2 2 rfl).one
    try simp (disch := first | omega | (simp only [L3] <;> omega)) only [Sall,evalOp,init,binA_s,binE,binI,unE,convE,okNil,builtE,gv,TD.isAgg,resV,↓reduceIte,Nat.reduceEqDiff,reduceCtorEq,Nat.reduceAdd,Nat.reduceMul,Nat.reduceLeDiff,za0,za2,Int.reduceEq,Int.reduceLT,Int.reduceLE,Nat.reduceLT,tiA,tiXA, h8, h1, w64]
    refine za4 (fun hh => ?_) (fun hh => ?_)
    · cases few with
      | false =>
        try simp (disch := first | omega | (simp only [L3] <;> omega)) only [Sall,evalOp,init,binA_s,binE,binI,unE,convE,okNil,builtE,gv,TD.isAgg,resV,↓reduceIte,Nat.reduceEqDiff,reduceCtorEq,Nat.reduceAdd,Nat.reduceMul,Nat.reduceLeDiff,za0,za2,Int.reduceEq,Int.reduceLT,Int.reduceLE,Nat.reduceLT,tiA,tiXA, h7]
        obtain ⟨Ba, hBa, oa⟩ := id d4.ex
        have ra := (oa.getV 1 rfl).2.2
        have hpl := hp.len
        have k0 := ints_get? l i (by omega)
        have k1 := ints_get? l (i + 1) (by omega)
        have c0 := VL.getD hp.rng (j := i) (by omega)
        have c1 := VL.getD hp.rng (j := i + 1) (by omega)
        have e1 : ((i : Int) + 1).toNat = i + 1 := by omega
        have zz2 : zeros 2 [.int .i64 0] = [.int .i64 0, .int .i64 0] := rfl
        have zs1 : zeros 1 [.slice none 0 0] = [.slice none 0 0] := rfl
        revert k0 k1 c0 c1
        generalize l.getD i 0 = x0
        generalize l.getD (i + 1) 0 = x1
        intro k0 k1 c0 c1
        try simp (disch := first | omega | (simp only [L3] <;> omega)) only [Sall,evalOp,init,binA_s,binE,binI,unE,convE,okNil,builtE,gv,TD.isAgg,resV,↓reduceIte,Nat.reduceEqDiff,reduceCtorEq,Nat.reduceAdd,Nat.reduceMul,Nat.reduceLeDiff,za0,za2,Int.reduceEq,Int.reduceLT,Int.reduceLE,Nat.reduceLT,tiA,tiXA, h8, h6, h5]
        refine zb2 (by kernel_rfl) (by kernel_rfl) ?_
        try simp (disch := first | omega | (simp only [L3] <;> omega)) only [Sall,evalOp,init,binA_s,binE,binI,unE,convE,okNil,builtE,gv,TD.isAgg,resV,↓reduceIte,Nat.reduceEqDiff,reduceCtorEq,Nat.reduceAdd,Nat.reduceMul,Nat.reduceLeDiff,za0,za2,Int.reduceEq,Int.reduceLT,Int.reduceLE,Nat.reduceLT,tiA,tiXA, h8, h6, h5, ra, k0, k1, e1, hpl, w64, zz2, zs1, zaL]
        (repeat refine And.intro (by omega) ?_)
        refine ⟨.inr (.inr (oa.sc.le _)), ?_⟩
        have ob := oa.pushSl (k := 1) (n := 2) (ty := 2) (vs := ints [x0, x1]) rfl
        try simp (disch := first | omega | (simp only [L3] <;> omega)) only [Sall,evalOp,init,binA_s,binE,binI,unE,convE,okNil,builtE,gv,TD.isAgg,resV,↓reduceIte,Nat.reduceEqDiff,reduceCtorEq,Nat.reduceAdd,Nat.reduceMul,Nat.reduceLeDiff,za0,za2,Int.reduceEq,Int.reduceLT,Int.reduceLE,Nat.reduceLT,tiA,tiXA, h8, h6, h5, ra, k0, k1, e1, hpl, w64, zz2, zs1, zaL]
        (repeat refine And.intro (by omega) ?_)
        refine ⟨.inr (.inr (ob.sc.le _)), ?_⟩
        refine (ob.tmp ⟨33, true, [.slice (some ⟨H'.next, 0, some 1⟩) 2 2]⟩).app2 (l := [x0, x1]) 2 3 rfl rfl (by omega) rfl (by decide) (by omega) ?_
        intro v' Hb nb2 oc
        have oc2 : Ow Ba Hb ([.row H.next ⟨67, true, ints (List.replicate 14 0)⟩, .sl 1 2 (.slice (some ⟨ui, 0, some 1⟩) n n) n (ints l), .sl2 (Value.int .i64) 33 2 v' (ll ++ [[x0, x1]])] ++ [.no]) := oc
        refine ⟨.inr (.inl (by kernel_rfl)), ?_⟩
        try simp (disch := first | omega | (simp only [L3] <;> omega)) only [Sall,evalOp,init,binA_s,binE,binI,unE,convE,okNil,builtE,gv,TD.isAgg,resV,↓reduceIte,Nat.reduceEqDiff,reduceCtorEq,Nat.reduceAdd,Nat.reduceMul,Nat.reduceLeDiff,za0,za2,Int.reduceEq,Int.reduceLT,Int.reduceLE,Nat.reduceLT,tiA,tiXA, h8, h7, h6, h5, h4, h1, h0, w64]
        exact ⟨n - (i + 2), by omega, i + 2, v', ll ++ [[x0, x1]], rfl, rfl, rfl, by omega, by simp; omega, fun j hj => by
          by_cases hj2 : j < ll.length
          · rw [List.getD_eq_getElem?_getD, List.getElem?_append_left hj2, ← List.getD_eq_getElem?_getD]; exact hl2 j hj2
          · obtain rfl : j = ll.length := by simp at hj; omega
            have e : (ll ++ [[x0, x1]]).getD ll.length [] = [x0, x1] := by simp [List.getD_eq_getElem?_getD]
            rw [e]
            exact ⟨rfl, fun y hy => by
              simp only [List.mem_cons, List.not_mem_nil, or_false] at hy
              rcases hy with rfl | rfl <;> omega⟩, ⟨⟨Ba, hBa, oc2.left⟩⟩⟩
      | true =>
        try simp (disch := first | omega | (simp only [L3] <;> omega)) only [Sall,evalOp,init,binA_s,binE,binI,unE,convE,okNil,builtE,gv,TD.isAgg,resV,↓reduceIte,Nat.reduceEqDiff,reduceCtorEq,Nat.reduceAdd,Nat.reduceMul,Nat.reduceLeDiff,za0,za2,Int.reduceEq,Int.reduceLT,Int.reduceLE,Nat.reduceLT,tiA,tiXA, h7, h0]
        refine (zc0 cv nb si 2 H' (by omega) hnb (d4.src hsi) (d4.code hc hsc)).ex ?_
        rintro y H5 ⟨hy, hS5⟩
        have d5 := d4.next hsi hS5
        refine Holds.mp ?_
        obtain ⟨bb, ebb⟩ : ∃ bb, ((y : Int) == 0) = bb := ⟨_, rfl⟩
        cases bb with
        | true =>
          try simp (disch := first | omega | (simp only [L3] <;> omega)) only [Sall,evalOp,init,binA_s,binE,binI,unE,convE,okNil,builtE,gv,TD.isAgg,resV,↓reduceIte,Nat.reduceEqDiff,reduceCtorEq,Nat.reduceAdd,Nat.reduceMul,Nat.reduceLeDiff,za0,za2,Int.reduceEq,Int.reduceLT,Int.reduceLE,Nat.reduceLT,tiA,tiXA, h7, h0, ebb]
          obtain ⟨Ba, hBa, oa⟩ := id d5.ex
          have ra := (oa.getV 1 rfl).2.2
          have hpl := hp.len
          have k0 := ints_get? l i (by omega)
          have k1 := ints_get? l (i + 1) (by omega)
          have c0 := VL.getD hp.rng (j := i) (by omega)
          have c1 := VL.getD hp.rng (j := i + 1) (by omega)
          have e1 : ((i : Int) + 1).toNat = i + 1 := by omega
          have zz2 : zeros 2 [.int .i64 0] = [.int .i64 0, .int .i64 0] := rfl
          have zs1 : zeros 1 [.slice none 0 0] = [.slice none 0 0] := rfl
          revert k0 k1 c0 c1
          generalize l.getD i 0 = x0
          generalize l.getD (i + 1) 0 = x1
          intro k0 k1 c0 c1
          try simp (disch := first | omega | (simp only [L3] <;> omega)) only [Sall,evalOp,init,binA_s,binE,binI,unE,convE,okNil,builtE,gv,TD.isAgg,resV,↓reduceIte,Nat.reduceEqDiff,reduceCtorEq,Nat.reduceAdd,Nat.reduceMul,Nat.reduceLeDiff,za0,za2,Int.reduceEq,Int.reduceLT,Int.reduceLE,Nat.reduceLT,tiA,tiXA, h8, h6, h5]
          refine zb2 (by kernel_rfl) (by kernel_rfl) ?_
          try simp (disch := first | omega | (simp only [L3] <;> omega)) only [Sall,evalOp,init,binA_s,binE,binI,unE,convE,okNil,builtE,gv,TD.isAgg,resV,↓reduceIte,Nat.reduceEqDiff,reduceCtorEq,Nat.reduceAdd,Nat.reduceMul,Nat.reduceLeDiff,za0,za2,Int.reduceEq,Int.reduceLT,Int.reduceLE,Nat.reduceLT,tiA,tiXA, h8, h6, h5, ra, k0, k1, e1, hpl, w64, zz2, zs1, zaL]
          (repeat refine And.intro (by omega) ?_)
          refine ⟨.inr (.inr (oa.sc.le _)), ?_⟩
          have ob := oa.pushSl (k := 1) (n := 2) (ty := 2) (vs := ints [x0, x1]) rfl
          try simp (disch := first | omega | (simp only [L3] <;> omega)) only [Sall,evalOp,init,binA_s,binE,binI,unE,convE,okNil,builtE,gv,TD.isAgg,resV,↓reduceIte,Nat.reduceEqDiff,reduceCtorEq,Nat.reduceAdd,Nat.reduceMul,Nat.reduceLeDiff,za0,za2,Int.reduceEq,Int.reduceLT,Int.reduceLE,Nat.reduceLT,tiA,tiXA, h8, h6, h5, ra, k0, k1, e1, hpl, w64, zz2, zs1, zaL]
          (repeat refine And.intro (by omega) ?_)
          refine ⟨.inr (.inr (ob.sc.le _)), ?_⟩
          refine (ob.tmp ⟨33, true, [.slice (some ⟨H5.next, 0, some 1⟩) 2 2]⟩).app2 (l := [x0, x1]) 2 3 rfl rfl (by omega) rfl (by decide) (by omega) ?_
          intro v' Hb nb2 oc
          have oc2 : Ow Ba Hb ([.row H.next ⟨67, true, ints (List.replicate 14 0)⟩, .sl 1 2 (.slice (some ⟨ui, 0, some 1⟩) n n) n (ints l), .sl2 (Value.int .i64) 33 2 v' (ll ++ [[x0, x1]])] ++ [.no]) := oc
          refine ⟨.inr (.inl (by kernel_rfl)), ?_⟩
          try simp (disch := first | omega | (simp only [L3] <;> omega)) only [Sall,evalOp,init,binA_s,binE,binI,unE,convE,okNil,builtE,gv,TD.isAgg,resV,↓reduceIte,Nat.reduceEqDiff,reduceCtorEq,Nat.reduceAdd,Nat.reduceMul,Nat.reduceLeDiff,za0,za2,Int.reduceEq,Int.reduceLT,Int.reduceLE,Nat.reduceLT,tiA,tiXA, h8, h7, h6, h5, h4, h1, h0, w64]
          exact ⟨n - (i + 2), by omega, i + 2, v', ll ++ [[x0, x1]], rfl, rfl, rfl, by omega, by simp; omega, fun j hj => by
            by_cases hj2 : j < ll.length
            · rw [List.getD_eq_getElem?_getD, List.getElem?_append_left hj2, ← List.getD_eq_getElem?_getD]; exact hl2 j hj2
            · obtain rfl : j = ll.length := by simp at hj; omega
              have e : (ll ++ [[x0, x1]]).getD ll.length [] = [x0, x1] := by simp [List.getD_eq_getElem?_getD]
              rw [e]
              exact ⟨rfl, fun y hy => by
                simp only [List.mem_cons, List.not_mem_nil, or_false] at hy
                rcases hy with rfl | rfl <;> omega⟩, ⟨⟨Ba, hBa, oc2.left⟩⟩⟩
        | false =>
          try simp (disch := first | omega | (simp only [L3] <;> omega)) only [Sall,evalOp,init,binA_s,binE,binI,unE,convE,okNil,builtE,gv,TD.isAgg,resV,↓reduceIte,Nat.reduceEqDiff,reduceCtorEq,Nat.reduceAdd,Nat.reduceMul,Nat.reduceLeDiff,za0,za2,Int.reduceEq,Int.reduceLT,Int.reduceLE,Nat.reduceLT,tiA,tiXA, ebb, h8, h7, h6, h5, h4, h1, h0, w64]
          exact ⟨n - (i + 2), by omega, i + 2, w, ll, rfl, rfl, rfl, by omega, by omega, hl2, d5⟩
    · try simp (disch := first | omega | (simp only [L3] <;> omega)) only [Sall,evalOp,init,binA_s,binE,binI,unE,convE,okNil,builtE,gv,TD.isAgg,resV,↓reduceIte,Nat.reduceEqDiff,reduceCtorEq,Nat.reduceAdd,Nat.reduceMul,Nat.reduceLeDiff,za0,za2,Int.reduceEq,Int.reduceLT,Int.reduceLE,Nat.reduceLT,tiA,tiXA, h1, h6, hw1]
      refine (l01Made_c n w ll H' hn (by omega) (d4.rd2 2 rfl) hl2).ex ?_
      rintro rd H6 ⟨hrl, hR, o6⟩
      have d6 := d4.calls o6
      have g0 := d6.rowAt 0 rfl
      refine Holds.mp ?_
      try simp (disch := first | omega | (simp only [L3] <;> omega)) only [Sall,evalOp,init,binA_s,binE,binI,unE,convE,okNil,builtE,gv,TD.isAgg,resV,↓reduceIte,Nat.reduceEqDiff,reduceCtorEq,Nat.reduceAdd,Nat.reduceMul,Nat.reduceLeDiff,za0,za2,Int.reduceEq,Int.reduceLT,Int.reduceLE,Nat.reduceLT,tiA,tiXA, h4, g0, hrl]
      exact ⟨rd, rfl, hrl, hR, Dq.left (L := []) (d6.putRow 0 rfl)⟩
end Go.Proofs.YtemgclojolmhbaaGreat.A
end

section
set_option maxRecDepth 100000
set_option maxHeartbeats 2000000
namespace Go.Proofs.YtemgclojolmhbaaGreat.A
open Go Go.Abs Go.RowKit
theorem pickD {cv : Value} {nb si k m : Nat} {H Hp : AH} {L : List Th} {ty : TypeId} {lv : Value} {ls : List Int} (d : Dq cv nb si H Hp L) (hsi : si < H.next) (hc : CodeX cv nb si H) (hsc : Sc H) (hnb : nb ≤ 4611686018427387904) (hk : L[k]? = some (.sl 1 ty lv m (ints ls))) (hm : 0 < m ∧ m ≤ 100) :
    ACalls Tryz.prog 30 [.pointer (some ⟨si, 0, none⟩), lv] Hp (fun v H' => ∃ x : Int, v = .int .i64 x ∧ x ∈ ls ∧ SrcB cv nb si Hp H') :=
  zhU cv nb si lv m ls Hp hm.1 (by omega) hnb (d.src hsi) (d.code hc hsc) fun H' hS => (d.next hsi hS).rd k hk
theorem nextD {cv : Value} {nb si : Nat} {H Hp : AH} {L : List Th} (n : Int) (d : Dq cv nb si H Hp L) (hsi : si < H.next) (hc : CodeX cv nb si H) (hsc : Sc H) (hnb : nb ≤ 4611686018427387904) (hn : n ≤ 9223372036854775807) :
    ACalls Tryz.prog 31 [.pointer (some ⟨si, 0, none⟩), .int .i64 n] Hp (fun v H' => ∃ x : Nat, v = .int .i64 x ∧ ((n < 1 ∧ x = 0) ∨ (x : Int) < n) ∧ Dq cv nb si H H' L) := by
  refine (zc0 cv nb si n Hp hn hnb (d.src hsi) (d.code hc hsc)).mono ?_
  rintro v H' ⟨x, hv, hx, hS⟩
  exact ⟨x, hv, hx, d.next hsi hS⟩
theorem ACalls.ex2 {P : Program} {f : FuncId} {args : List Value} {H : AH} {α β : Type} {g : α → β → Value} {X : α → β → AH → Prop} {R : Value → AH → Prop} (h : ACalls P f args H (fun v H' => ∃ u w, v = g u w ∧ X u w H')) (k : ∀ u w H', X u w H' → R (g u w) H') : ACalls P f args H R :=
  h.mono fun v H' hh => by obtain ⟨u, w, rfl, hx⟩ := hh; exact k _ _ _ hx
theorem ACalls.ex4 {P : Program} {f : FuncId} {args : List Value} {H : AH} {α β γ δ : Type} {g : α → β → γ → δ → Value} {X : α → β → γ → δ → AH → Prop} {R : Value → AH → Prop} (h : ACalls P f args H (fun v H' => ∃ a b c d, v = g a b c d ∧ X a b c d H')) (k : ∀ a b c d H', X a b c d H' → R (g a b c d) H') : ACalls P f args H R :=
  h.mono fun v H' hh => by obtain ⟨a, b, c, d, rfl, hx⟩ := hh; exact k _ _ _ _ _ hx
theorem Dq.les {cv : Value} {nb si : Nat} {H H' : AH} {L : List Th} (h : Dq cv nb si H H' L) (sc : Sc H) : LES (fun j => j ≠ si) H H' := ⟨h.le, fun i r hi hr => h.old sc i r hi hr⟩
theorem les_of {cv : Value} {nb si : Nat} {H B H' : AH} {M : List Th} (k : SrcB cv nb si H B) (o : Ow B H' M) (sc : Sc H) : LES (fun j => j ≠ si) H H' := Dq.les (⟨⟨B, k, o⟩⟩ : Dq cv nb si H H' M) sc
theorem ACalls.scz {P : Program} {f : FuncId} {args : List Value} {H : AH} {α : Type} {g : α → Value} {X : α → AH → Prop} (h : ACalls P f args H (fun v H' => ∃ u, v = g u ∧ X u H')) : ACalls P f args H (fun v H' => ∃ u, v = g u ∧ X u H' ∧ Sc H') :=
  h.sc.mono fun _ _ ⟨⟨u, h1, h2⟩, h3⟩ => ⟨u, h1, h2, h3⟩
theorem Ow.swap1 {B H : AH} {a b c d e : Th} (o : Ow B H [a, b, c, d, e]) : Ow B H [a, e, c] := by
  refine o.sub (fun j => if j = 1 then 4 else j) (fun j hj => ?_) fun x y hx hy h => ?_
  · have hj : j < 3 := hj
    rcases j with _ | _ | _ | j
    · rfl
    · rfl
    · rfl
    · omega
  · have hx : x < 3 := hx
    have hy : y < 3 := hy
    have h : (if x = 1 then 4 else x) = if y = 1 then 4 else y := h
    split at h <;> split at h <;> omega
theorem circleVL_all : ∀ n : Nat, n < 15 → 2 ≤ n → ((zaW n (oddUp n)).all fun x => decide (0 ≤ x ∧ x < (n : Int))) = true := by decide +kernel
theorem zfX {n : Nat} (h : 2 ≤ n ∧ n ≤ 14) : VL n (zaW n (oddUp n)) := fun x hx => by
  have := List.all_eq_true.1 (circleVL_all n (by omega) h.1) x hx
  simpa using this
theorem rndVL {n i : Nat} {l : List Int} (h : VL n l) : VL n (rnd l i) := fun x hx => h x (List.mem_of_mem_drop (List.mem_of_mem_take hx))
theorem reoVL {n : Nat} {l y : List Int} (h : VL n l) : VL n (reoL l y) := fun x hx => by
  unfold reoL at hx
  rw [List.mem_flatMap] at hx
  obtain ⟨a, _, hx⟩ := hx
  exact rndVL h x hx
theorem pickL {cv : Value} {nb si : Nat} {H Hp : AH} {L : List Th} (ls : List Int) (m : Nat) (hm : ls.length = m) (hm0 : 0 < m) (hm1 : m ≤ 100) (d : Dq cv nb si H Hp L) (hsi : si < H.next) (hc : CodeX cv nb si H) (hsc : Sc H) (hnb : nb ≤ 4611686018427387904) :
    ACalls Tryz.prog 30 [.pointer (some ⟨si, 0, none⟩), .slice (some ⟨Hp.next, 0, some 1⟩) m m] (Hp.push ⟨2, true, ints ls⟩) (fun v H' => ∃ x : Int, v = .int .i64 x ∧ x ∈ ls ∧ Dq cv nb si H H' L) := by
  have d6 : Dq cv nb si H (Hp.push ⟨2, true, ints ls⟩) L := d.tmp _
  have d7 : Dq cv nb si H (Hp.push ⟨2, true, ints ls⟩) (L ++ [.sl 1 2 (.slice (some ⟨Hp.next, 0, some 1⟩) m m) m (ints ls)]) := d.map fun B o => o.pushSl (by rw [za1, hm, Nat.mul_one])
  refine (pickD (k := L.length) (ty := 2) (ls := ls) d7 hsi hc hsc hnb (by simp) ⟨hm0, hm1⟩).mono ?_
  rintro v H' ⟨x, h1, h2, h3⟩
  exact ⟨x, h1, h2, d6.next hsi h3⟩
def DrawnS (cv : Value) (nb si : Nat) (H : AH) (v : Value) (H' : AH) : Prop :=
  ∃ (n k : Nat) (u : Value) (l : List Int), v = .agg #[.int .i64 n, u] ∧ 2 ≤ n ∧ n ≤ 14 ∧ 1 ≤ k ∧ k ≤ 13 ∧ VL n l ∧ Dq cv nb si H H' [.sl 14 67 u k (ints l)]
theorem l01DrawRobin_c (cv : Value) (nb si : Nat) (H : AH) (hnb : nb ≤ 4611686018427387904) (hs : Src cv nb si H) (hc : CodeX cv nb si H) :
    ACalls Tryz.prog 74 [.pointer (some ⟨si, 0, none⟩)] H (DrawnS cv nb si H) := by
  refine ACalls.wf (by kernel_rfl) fun hsc => za3 [.cell 2 26] Tryz.func74 (by kernel_rfl) rfl rfl (Nat.le_of_ble_eq_true rfl) (by kernel_rfl) ?_
  obtain ⟨_, _, hrow, _⟩ := id hs
  have hsi := hsc _ _ hrow
  clear hrow
  have d0 := (Dq.start hs hsc).push ⟨26, true, [.int .i64 0, .slice none 0 0]⟩
  have hb : ∀ (t : T) (H : AH), evalOp Tryz.prog t H (.buildSlice 33 14 #[(0, .const (.int .i64 2)), (1, .const (.int .i64 3)), (2, .const (.int .i64 4)), (3, .const (.int .i64 4)), (4, .const (.int .i64 5)), (5, .const (.int .i64 6)), (6, .const (.int .i64 6)), (7, .const (.int .i64 7)), (8, .const (.int .i64 8)), (9, .const (.int .i64 8)), (10, .const (.int .i64 9)), (11, .const (.int .i64 10)), (12, .const (.int .i64 12)), (13, .const (.int .i64 14))]) = .need (14 ≤ 16777216 ∧ 14 * 1 ≤ 16777216) (.val (.slice (some ⟨H.next, 0, some 1⟩) 14 14) (H.push ⟨2, true, ints [2, 3, 4, 4, 5, 6, 6, 7, 8, 8, 9, 10, 12, 14]⟩)) := fun t H => by kernel_rfl
  generalize (Op.buildSlice 33 14 #[(0, .const (.int .i64 2)), (1, .const (.int .i64 3)), (2, .const (.int .i64 4)), (3, .const (.int .i64 4)), (4, .const (.int .i64 5)), (5, .const (.int .i64 6)), (6, .const (.int .i64 6)), (7, .const (.int .i64 7)), (8, .const (.int .i64 8)), (9, .const (.int .i64 8)), (10, .const (.int .i64 9)), (11, .const (.int .i64 10)), (12, .const (.int .i64 12)), (13, .const (.int .i64 14))]) = bop at hb ⊢
  simp (config := {maxSteps := 3000000}) (disch := first | omega | (simp only [L3] <;> omega)) only [Sall,evalOp,init,binA_s,binE,binI,unE,convE,okNil,builtE,gv,TD.isAgg,resV,↓reduceIte,Nat.reduceEqDiff,reduceCtorEq,Nat.reduceAdd,Nat.reduceMul,Nat.reduceLeDiff,za0,za2,Int.reduceEq,Int.reduceLT,Int.reduceLE,Nat.reduceLT,tiA,tiXA, ↓hb]
  refine (pickL [2, 3, 4, 4, 5, 6, 6, 7, 8, 8, 9, 10, 12, 14] 14 rfl (by omega) (by omega) d0 hsi hc hsc hnb).ex ?_
  rintro x H2 ⟨hx, d1⟩
  have hx2 : 2 ≤ x ∧ x ≤ 14 := by
    simp only [List.mem_cons, List.not_mem_nil, or_false] at hx
    omega
  obtain ⟨n, rfl⟩ : ∃ n : Nat, x = n := ⟨x.toNat, by omega⟩
  have hn : 2 ≤ n ∧ n ≤ 14 := by omega
  refine Holds.mp ?_
  try simp (disch := first | omega | (simp only [L3] <;> omega)) only [Sall,evalOp,init,binA_s,binE,binI,unE,convE,okNil,builtE,gv,TD.isAgg,resV,↓reduceIte,Nat.reduceEqDiff,reduceCtorEq,Nat.reduceAdd,Nat.reduceMul,Nat.reduceLeDiff,za0,za2,Int.reduceEq,Int.reduceLT,Int.reduceLE,Nat.reduceLT,tiA,tiXA, true_and]
  refine (ACalls.scz (zdE n hn H2)).ex ?_
  rintro u H3 ⟨⟨up3, fr3⟩, sc3⟩
  have o3 := Ow.of_fr up3 sc3 fr3
  have hu := o3.one 0 rfl
  have d2 : Dq cv nb si H H3 [.row H.next ⟨26, true, [.int .i64 0, .slice none 0 0]⟩, .sl 14 67 u (oddUp n) (ints (zaW n (oddUp n)))] := d1.calls o3
  have d3 := (d2.push ⟨26, true, [.int .i64 0, .slice none 0 0]⟩).putRow 2 rfl (cs' := [.int .i64 n, u])
  have hV := zfX hn
  have hk : 1 ≤ oddUp n ∧ oddUp n ≤ 13 := by unfold oddUp; omega
  revert d3 hV hk
  generalize zaW n (oddUp n) = l
  generalize oddUp n = k
  intro d3 hV hk
  refine Holds.mp ?_
  try simp (disch := first | omega | (simp only [L3] <;> omega)) only [Sall,evalOp,init,binA_s,binE,binI,unE,convE,okNil,builtE,gv,TD.isAgg,resV,↓reduceIte,Nat.reduceEqDiff,reduceCtorEq,Nat.reduceAdd,Nat.reduceMul,Nat.reduceLeDiff,za0,za2,Int.reduceEq,Int.reduceLT,Int.reduceLE,Nat.reduceLT,tiA,tiXA, hu]
  obtain ⟨ri, eri⟩ : ∃ ri, ri = H3.next := ⟨_, rfl⟩
  have nri : ¬ ri = si := by have := d2.le; omega
  rw [← eri] at d3 ⊢
  generalize (H3.push ⟨26, true, [.int .i64 0, .slice none 0 0]⟩).setCells ri [.int .i64 n, u] = H4 at d3 ⊢
  refine (nextD 3 d3 hsi hc hsc hnb (by omega)).ex ?_
  rintro y H5 ⟨hy, d4⟩
  refine Holds.mp ?_
  try simp (disch := first | omega | (simp only [L3] <;> omega)) only [Sall,evalOp,init,binA_s,binE,binI,unE,convE,okNil,builtE,gv,TD.isAgg,resV,↓reduceIte,Nat.reduceEqDiff,reduceCtorEq,Nat.reduceAdd,Nat.reduceMul,Nat.reduceLeDiff,za0,za2,Int.reduceEq,Int.reduceLT,Int.reduceLE,Nat.reduceLT,tiA,tiXA, true_and]
  refine zcW (fun t H' => ∃ (u : Value) (l : List Int), t 0 = .pointer (some ⟨si, 0, none⟩) ∧ t 2 = .pointer (some ⟨H.next, 0, none⟩) ∧ t 3 = .pointer (some ⟨ri, 0, none⟩) ∧ VL n l ∧ Dq cv nb si H H' [.row H.next ⟨26, true, [.int .i64 0, .slice none 0 0]⟩, .sl 14 67 u k (ints l), .row ri ⟨26, true, [.int .i64 n, u]⟩]) (fun _ => ?_) (fun _ => ?_) ?_
  · refine ⟨u, l, ?_⟩
    try simp (disch := first | omega | (simp only [L3] <;> omega)) only [Sall,evalOp,init,binA_s,binE,binI,unE,convE,okNil,builtE,gv,TD.isAgg,resV,↓reduceIte,Nat.reduceEqDiff,reduceCtorEq,Nat.reduceAdd,Nat.reduceMul,Nat.reduceLeDiff,za0,za2,Int.reduceEq,Int.reduceLT,Int.reduceLE,Nat.reduceLT,tiA,tiXA, true_and]
    exact ⟨hV, d4⟩
  · have g2 := d4.rowAt 2 rfl
    have hu5 := d4.one 1 rfl
    refine zc1 (fun j => j ≠ si) [0, 1, 2, 3, 4, 5, 6] (by kernel_rfl) (by kernel_rfl) (by kernel_rfl) ?_
    try simp (disch := first | omega | (simp only [L3] <;> omega)) only [Sall,evalOp,init,binA_s,binE,binI,unE,convE,okNil,builtE,gv,TD.isAgg,resV,↓reduceIte,Nat.reduceEqDiff,reduceCtorEq,Nat.reduceAdd,Nat.reduceMul,Nat.reduceLeDiff,za0,za2,Int.reduceEq,Int.reduceLT,Int.reduceLE,Nat.reduceLT,tiA,tiXA, zaI, zaD, zaC, loadOk, g2, hu5, nri]
    refine (zbG cv nb si n H5 (by omega) hnb (d4.src hsi) (d4.code hc hsc)).mono ?_
    rintro w H6 ⟨y, B6, k6, o6, hp⟩
    rw [Int.toNat_natCast] at o6 hp
    have d5 := d4.call hsi k6 o6
    refine ⟨.inr (.inr (les_of k6 o6 d4.sc)), ?_⟩
    have hw := o6.one 0 rfl
    try simp (disch := first | omega | (simp only [L3] <;> omega)) only [Sall,evalOp,init,binA_s,binE,binI,unE,convE,okNil,builtE,gv,TD.isAgg,resV,↓reduceIte,Nat.reduceEqDiff,reduceCtorEq,Nat.reduceAdd,Nat.reduceMul,Nat.reduceLeDiff,za0,za2,Int.reduceEq,Int.reduceLT,Int.reduceLE,Nat.reduceLT,tiA,tiXA, zaI, zaD, zaC, loadOk, hw, hu5, nri]
    refine ACalls.ex2 (zc7 n k u w l y H6 ⟨by omega, by omega⟩ (by omega) (d5.rd 1 rfl) hV (d5.rd 3 rfl) hp.rng) ?_
    rintro u' l' H7 ⟨o7, hV'⟩
    have d6 := d5.calls o7
    refine ⟨.inr (.inr (LE.les (o7.up.le d5.sc))), ?_⟩
    have g2' := d6.rowAt 2 rfl
    have hu7 := o7.one 0 rfl
    have d7 := d6.putRow 2 rfl (cs' := [.int .i64 n, u'])
    try simp (disch := first | omega | (simp only [L3] <;> omega)) only [Sall,evalOp,init,binA_s,binE,binI,unE,convE,okNil,builtE,gv,TD.isAgg,resV,↓reduceIte,Nat.reduceEqDiff,reduceCtorEq,Nat.reduceAdd,Nat.reduceMul,Nat.reduceLeDiff,za0,za2,Int.reduceEq,Int.reduceLT,Int.reduceLE,Nat.reduceLT,tiA,tiXA, zaI, zaD, zaC, loadOk, g2', hu7, nri]
    exact ⟨.inr (.inl (by kernel_rfl)), u', l', hV', d7.map fun B o => Ow.swap1 o⟩
  · rintro t H6 ⟨u, l, h0, h2, h3, hV, d5⟩
    try simp (disch := first | omega | (simp only [L3] <;> omega)) only [Sall,evalOp,init,binA_s,binE,binI,unE,convE,okNil,builtE,gv,TD.isAgg,resV,↓reduceIte,Nat.reduceEqDiff,reduceCtorEq,Nat.reduceAdd,Nat.reduceMul,Nat.reduceLeDiff,za0,za2,Int.reduceEq,Int.reduceLT,Int.reduceLE,Nat.reduceLT,tiA,tiXA, h0]
    refine (nextD 3 d5 hsi hc hsc hnb (by omega)).ex ?_
    rintro z H7 ⟨hz, d6⟩
    refine Holds.mp ?_
    try simp (disch := first | omega | (simp only [L3] <;> omega)) only [Sall,evalOp,init,binA_s,binE,binI,unE,convE,okNil,builtE,gv,TD.isAgg,resV,↓reduceIte,Nat.reduceEqDiff,reduceCtorEq,Nat.reduceAdd,Nat.reduceMul,Nat.reduceLeDiff,za0,za2,Int.reduceEq,Int.reduceLT,Int.reduceLE,Nat.reduceLT,tiA,tiXA, h0]
    refine zcW (fun t H' => ∃ (u : Value) (l : List Int), t 2 = .pointer (some ⟨H.next, 0, none⟩) ∧ t 3 = .pointer (some ⟨ri, 0, none⟩) ∧ VL n l ∧ Dq cv nb si H H' [.row H.next ⟨26, true, [.int .i64 0, .slice none 0 0]⟩, .sl 14 67 u k (ints l), .row ri ⟨26, true, [.int .i64 n, u]⟩]) (fun _ => ?_) (fun _ => ?_) ?_
    · refine ⟨u, l, ?_⟩
      try simp (disch := first | omega | (simp only [L3] <;> omega)) only [Sall,evalOp,init,binA_s,binE,binI,unE,convE,okNil,builtE,gv,TD.isAgg,resV,↓reduceIte,Nat.reduceEqDiff,reduceCtorEq,Nat.reduceAdd,Nat.reduceMul,Nat.reduceLeDiff,za0,za2,Int.reduceEq,Int.reduceLT,Int.reduceLE,Nat.reduceLT,tiA,tiXA, h2, h3]
      exact ⟨hV, d6⟩
    · have g2 := d6.rowAt 2 rfl
      have hu5 := d6.one 1 rfl
      have hlu := (d6.rd 1 rfl).len
      refine zc1 (fun j => j ≠ si) [0, 1, 2, 3, 4, 5, 6, 7] (by kernel_rfl) (by kernel_rfl) (by kernel_rfl) ?_
      try simp (disch := first | omega | (simp only [L3] <;> omega)) only [Sall,evalOp,init,binA_s,binE,binI,unE,convE,okNil,builtE,gv,TD.isAgg,resV,↓reduceIte,Nat.reduceEqDiff,reduceCtorEq,Nat.reduceAdd,Nat.reduceMul,Nat.reduceLeDiff,za0,za2,Int.reduceEq,Int.reduceLT,Int.reduceLE,Nat.reduceLT,tiA,tiXA, zaI, zaD, zaC, loadOk, h0, h2, h3, g2, hu5, nri, builtE, hlu]
      refine (zbG cv nb si k H7 (by omega) hnb (d6.src hsi) (d6.code hc hsc)).mono ?_
      rintro w H8 ⟨y, B8, k8, o8, hp⟩
      rw [Int.toNat_natCast] at o8 hp
      have d7 := d6.call hsi k8 o8
      refine ⟨.inr (.inr (les_of k8 o8 d6.sc)), ?_⟩
      have hw := o8.one 0 rfl
      try simp (disch := first | omega | (simp only [L3] <;> omega)) only [Sall,evalOp,init,binA_s,binE,binI,unE,convE,okNil,builtE,gv,TD.isAgg,resV,↓reduceIte,Nat.reduceEqDiff,reduceCtorEq,Nat.reduceAdd,Nat.reduceMul,Nat.reduceLeDiff,za0,za2,Int.reduceEq,Int.reduceLT,Int.reduceLE,Nat.reduceLT,tiA,tiXA, zaI, zaD, zaC, loadOk, h2, h3, hw, hu5, nri]
      have hyl := hp.len
      refine (ACalls.scz (zdA n u k l w y H8 (d7.rd 1 rfl) (by rw [hyl]; exact d7.rd 3 rfl) hp.rng (by omega) (by omega))).ex ?_
      rintro u' H9 ⟨⟨up9, fr9⟩, sc9⟩
      rw [hyl] at fr9
      have o9 := Ow.of_fr up9 sc9 fr9
      have d8 := d7.calls o9
      refine ⟨.inr (.inr (LE.les (o9.up.le d7.sc))), ?_⟩
      have g2' := d8.rowAt 2 rfl
      have hu7 := o9.one 0 rfl
      have d9 := d8.putRow 2 rfl (cs' := [.int .i64 n, u'])
      try simp (disch := first | omega | (simp only [L3] <;> omega)) only [Sall,evalOp,init,binA_s,binE,binI,unE,convE,okNil,builtE,gv,TD.isAgg,resV,↓reduceIte,Nat.reduceEqDiff,reduceCtorEq,Nat.reduceAdd,Nat.reduceMul,Nat.reduceLeDiff,za0,za2,Int.reduceEq,Int.reduceLT,Int.reduceLE,Nat.reduceLT,tiA,tiXA, zaI, zaD, zaC, loadOk, h2, h3, g2', hu7, nri]
      exact ⟨.inr (.inl (by kernel_rfl)), u', reoL l y, reoVL hV, d9.map fun B o => Ow.swap1 o⟩
    · rintro t H8 ⟨u, l, h2, h3, hV, d7⟩
      have g2 := d7.rowAt 2 rfl
      have g0 := d7.rowAt 0 rfl
      have hu := d7.one 1 rfl
      try simp (disch := first | omega | (simp only [L3] <;> omega)) only [Sall,evalOp,init,binA_s,binE,binI,unE,convE,okNil,builtE,gv,TD.isAgg,resV,↓reduceIte,Nat.reduceEqDiff,reduceCtorEq,Nat.reduceAdd,Nat.reduceMul,Nat.reduceLeDiff,za0,za2,Int.reduceEq,Int.reduceLT,Int.reduceLE,Nat.reduceLT,tiA,tiXA, h2, h3, g2, g0, hu]
      exact ⟨n, k, u, l, rfl, hn.1, hn.2, hk.1, hk.2, hV, (d7.putRow 0 rfl).map fun B o => o.sub (fun _ => 1) (fun j hj => by
          obtain rfl : j = 0 := by simp at hj; omega
          rfl) (fun x y hx hy _ => by simp at hx hy; omega)⟩
end Go.Proofs.YtemgclojolmhbaaGreat.A
end

section
set_option maxRecDepth 100000
set_option maxHeartbeats 2000000
namespace Go.Proofs.YtemgclojolmhbaaGreat.A
open Go Go.Abs Go.RowKit
def DrawnC (cv : Value) (nb si : Nat) (H : AH) (v : Value) (H' : AH) : Prop :=
  ∃ (n k : Nat) (u : Value) (l : List Int), v = .agg #[.int .i64 n, u] ∧ (2 ≤ n ∧ n ≤ 14) ∧ k ≤ 40 ∧ VL n l ∧ Dq cv nb si H H' [.cap 14 67 u k (ints l)]
theorem Dq.sub1 {cv : Value} {nb si : Nat} {H H' : AH} {L : List Th} {p : Th} (h : Dq cv nb si H H' L) (k : Nat) (hk : L[k]? = some p) : Dq cv nb si H H' [p] := h.map fun B o => o.sub (fun _ => k) (fun j hj => by
    obtain rfl : j = 0 := by simp at hj; omega
    exact hk) (fun x y hx hy _ => by simp at hx hy; omega)
theorem Dq.toCap {cv : Value} {nb si : Nat} {H H' : AH} {L : List Th} (h : Dq cv nb si H H' L) (k : Nat) {z n : Nat} {ty : TypeId} {v : Value} {vs : List Value} (hk : L[k]? = some (.sl z ty v n vs)) : Dq cv nb si H H' (L.set k (.cap z ty v n vs)) := h.map fun B o => o.toCap k hk
theorem Dq.cut {cv : Value} {nb si : Nat} {H H' : AH} {L : List Th} (h : Dq cv nb si H H' L) (k : Nat) {z n : Nat} {ty : TypeId} {v : Value} {l : List Int} (hk : L[k]? = some (.cap z ty v n (ints l))) {hi : Option Int} {b : Nat} (hb : hi.getD (n : Int) = (b : Int)) (hbn : b ≤ n) :
    ∃ w, (∀ (P : Program) (E : TI) (K : Value → AH → Prop) (H2 : AH), E.size = z → K w H2 → runOut P H2 (sliceE E v none hi none H2) K) ∧ Dq cv nb si H H' (L.set k (.cap z ty w b (ints (l.take (b * z))))) := by
  obtain ⟨B, b1, o⟩ := h.ex
  obtain ⟨w, h1, h2⟩ := o.cut k hk hb hbn
  exact ⟨w, h1, ⟨⟨B, b1, h2⟩⟩⟩
theorem Dq.appC {cv : Value} {nb si : Nat} {H0 : AH} {P : Program} {E : TI} {z n c : Nat} {ty : TypeId} {H : AH} {L : List Th} {v : Value} {vs ms : List Value} {K : Value → AH → Prop} (h : Dq cv nb si H0 H L) (k : Nat) (hk : L[k]? = some (.cap z ty v n vs)) (hz : E.size = z) (hz0 : 0 < z) (hm : ms.length = c * z) (hc : 0 < c) (hb : E.bytes ≤ 32768) (hn : n + c ≤ 4294967296)
    (hK : ∀ v' H', Dq cv nb si H0 H' (L.set k (.cap z ty v' (n + c) (vs ++ ms))) → K v' H') : runOut P H (appE E ty v ms c H) K := by
  obtain ⟨B, b, o⟩ := h.ex
  exact o.appC k hk hz hz0 hm hc hb hn fun v' H' _ o' => hK v' H' ⟨⟨B, b, o'⟩⟩
theorem SrcB.les {cv : Value} {nb si : Nat} {H H' : AH} (k : SrcB cv nb si H H') : LES (fun j => j ≠ si) H H' := ⟨Nat.le_of_eq k.next.symm, fun i r hi hr => by rw [k.row i hi]; exact hr⟩
theorem nextE {cv : Value} {nb si : Nat} {H Hp : AH} {L : List Th} (n : Int) (d : Dq cv nb si H Hp L) (hsi : si < H.next) (hc : CodeX cv nb si H) (hsc : Sc H) (hnb : nb ≤ 4611686018427387904) (hn : n ≤ 9223372036854775807) :
    ACalls Tryz.prog 31 [.pointer (some ⟨si, 0, none⟩), .int .i64 n] Hp (fun v H' => ∃ x : Nat, v = .int .i64 x ∧ ((n < 1 ∧ x = 0) ∨ (x : Int) < n) ∧ LES (fun j => j ≠ si) Hp H' ∧ Dq cv nb si H H' L) := by
  refine (zc0 cv nb si n Hp hn hnb (d.src hsi) (d.code hc hsc)).mono ?_
  rintro v H' ⟨x, hv, hx, hS⟩
  exact ⟨x, hv, hx, hS.les, d.next hsi hS⟩
theorem Ow.six1 {B H : AH} {a b c d e f : Th} (o : Ow B H [a, b, c, d, e, f]) : Ow B H [a, b, c, e, f] :=
  o.sub (fun j => ([0, 1, 2, 4, 5] : List Nat).getD j 9) (fun j hj => by
    have hj : j < 5 := hj
    rcases j with _ | _ | _ | _ | _ | j <;> first | rfl | omega) (fun x y hx hy h => by
    have hh : ∀ x, x < 5 → ∀ y, y < 5 → ([0, 1, 2, 4, 5] : List Nat).getD x 9 = ([0, 1, 2, 4, 5] : List Nat).getD y 9 → x = y := by decide
    exact hh x hx y hy h)
theorem Ow.six2 {B H : AH} {a b c d e f : Th} (o : Ow B H [a, b, c, d, e, f]) : Ow B H [a, b, c, f, e] :=
  o.sub (fun j => ([0, 1, 2, 5, 4] : List Nat).getD j 9) (fun j hj => by
    have hj : j < 5 := hj
    rcases j with _ | _ | _ | _ | _ | j <;> first | rfl | omega) (fun x y hx hy h => by
    have hh : ∀ x, x < 5 → ∀ y, y < 5 → ([0, 1, 2, 5, 4] : List Nat).getD x 9 = ([0, 1, 2, 5, 4] : List Nat).getD y 9 → x = y := by decide
    exact hh x hx y hy h)
theorem Ow.six3 {B H : AH} {a b c d e f : Th} (o : Ow B H [a, b, c, d, e, f]) : Ow B H [a, b, c, f, d] :=
  o.sub (fun j => ([0, 1, 2, 5, 3] : List Nat).getD j 9) (fun j hj => by
    have hj : j < 5 := hj
    rcases j with _ | _ | _ | _ | _ | j <;> first | rfl | omega) (fun x y hx hy h => by
    have hh : ∀ x, x < 5 → ∀ y, y < 5 → ([0, 1, 2, 5, 3] : List Nat).getD x 9 = ([0, 1, 2, 5, 3] : List Nat).getD y 9 → x = y := by decide
    exact hh x hx y hy h)
theorem VL.take {n : Nat} {l : List Int} (h : VL n l) (k : Nat) : VL n (l.take k) := fun x hx => h x (List.mem_of_mem_take hx)
theorem zhR (cv : Value) (nb si : Nat) (H : AH) (hnb : nb ≤ 4611686018427387904) (hs : Src cv nb si H) (hc : CodeX cv nb si H) :
    ACalls Tryz.prog 32 [.pointer (some ⟨si, 0, none⟩)] H (DrawnC cv nb si H) := by
  refine ACalls.wf (by kernel_rfl) fun hsc => za3 [.cell 2 26] Tryz.func32 (by kernel_rfl) rfl rfl (Nat.le_of_ble_eq_true rfl) (by kernel_rfl) ?_
  obtain ⟨_, _, hrow, _⟩ := id hs
  have hsi := hsc _ _ hrow
  clear hrow
  have d0 := (Dq.start hs hsc).push ⟨26, true, [.int .i64 0, .slice none 0 0]⟩
  try simp (disch := first | omega | (simp only [L3] <;> omega)) only [Sall,evalOp,init,binA_s,binE,binI,unE,convE,okNil,builtE,gv,TD.isAgg,resV,↓reduceIte,Nat.reduceEqDiff,reduceCtorEq,Nat.reduceAdd,Nat.reduceMul,Nat.reduceLeDiff,za0,za2,Int.reduceEq,Int.reduceLT,Int.reduceLE,Nat.reduceLT,tiA,tiXA, true_and]
  generalize H.push ⟨26, true, [.int .i64 0, .slice none 0 0]⟩ = H1 at d0 ⊢
  refine ACalls.ex4 (g := fun n _ u _ => .agg #[.int .i64 (n : Nat), u]) (l01DrawRobin_c cv nb si H1 hnb (d0.src hsi) (d0.code hc hsc)) ?_
  rintro n k u l H2 ⟨hn1, hn2, hk1, hk2, hV, e1⟩
  have d1 := d0.bind hsi e1
  have hu := d1.one 1 rfl
  have d2 := ((d1.push ⟨26, true, [.int .i64 0, .slice none 0 0]⟩).putRow 2 rfl (cs' := [.int .i64 n, u])).toCap 1 rfl
  refine Holds.mp ?_
  try simp (disch := first | omega | (simp only [L3] <;> omega)) only [Sall,evalOp,init,binA_s,binE,binI,unE,convE,okNil,builtE,gv,TD.isAgg,resV,↓reduceIte,Nat.reduceEqDiff,reduceCtorEq,Nat.reduceAdd,Nat.reduceMul,Nat.reduceLeDiff,za0,za2,Int.reduceEq,Int.reduceLT,Int.reduceLE,Nat.reduceLT,tiA,tiXA, hu]
  obtain ⟨ri, eri⟩ : ∃ ri, ri = H2.next := ⟨_, rfl⟩
  have nri : ¬ ri = si := by have := d1.le; omega
  rw [← eri] at d2 ⊢
  generalize (H2.push ⟨26, true, [.int .i64 0, .slice none 0 0]⟩).setCells ri [.int .i64 n, u] = H3 at d2 ⊢
  refine (nextD 4 d2 hsi hc hsc hnb (by omega)).ex ?_
  rintro x H4 ⟨hx, d3⟩
  have d3 : Dq cv nb si H H4 [.row H.next ⟨26, true, [.int .i64 0, .slice none 0 0]⟩, .cap 14 67 u k (ints l), .row ri ⟨26, true, [.int .i64 n, u]⟩] := d3
  have g0 := d3.rowAt 0 rfl
  have g2 := d3.rowAt 2 rfl
  have hu3 := d3.capOne 1 rfl
  have hlu := (d3.capRs 1 rfl).rd.len
  refine Holds.mp ?_
  by_cases c0 : (x : Int) = 0
  · have f0 : ((x : Int) == 0) = true := beq_iff_eq.2 c0
    try simp (disch := first | omega | (simp only [L3] <;> omega)) only [Sall,evalOp,init,binA_s,binE,binI,unE,convE,okNil,builtE,gv,TD.isAgg,resV,↓reduceIte,Nat.reduceEqDiff,reduceCtorEq,Nat.reduceAdd,Nat.reduceMul,Nat.reduceLeDiff,za0,za2,Int.reduceEq,Int.reduceLT,Int.reduceLE,Nat.reduceLT,tiA,tiXA, f0, g0, g2, hu3]
    exact ⟨n, k, u, l, rfl, ⟨hn1, hn2⟩, by omega, hV, (d3.putRow 0 rfl).sub1 1 rfl⟩
  have f0 : ((x : Int) == 0) = false := beq_eq_false_iff_ne.2 c0
  by_cases c1 : (x : Int) = 1
  · have f1 : ((x : Int) == 1) = true := beq_iff_eq.2 c1
    try simp (disch := first | omega | (simp only [L3] <;> omega)) only [Sall,evalOp,init,binA_s,binE,binI,unE,convE,okNil,builtE,gv,TD.isAgg,resV,↓reduceIte,Nat.reduceEqDiff,reduceCtorEq,Nat.reduceAdd,Nat.reduceMul,Nat.reduceLeDiff,za0,za2,Int.reduceEq,Int.reduceLT,Int.reduceLE,Nat.reduceLT,tiA,tiXA, f0, f1]
    refine zc1 (fun j => j ≠ si) [0, 1, 2, 3, 4, 5, 6, 7, 8, 9, 10] (by kernel_rfl) (by kernel_rfl) (by kernel_rfl) ?_
    try simp (disch := first | omega | (simp only [L3] <;> omega)) only [Sall,evalOp,init,binA_s,binE,binI,unE,convE,okNil,builtE,gv,TD.isAgg,resV,↓reduceIte,Nat.reduceEqDiff,reduceCtorEq,Nat.reduceAdd,Nat.reduceMul,Nat.reduceLeDiff,za0,za2,Int.reduceEq,Int.reduceLT,Int.reduceLE,Nat.reduceLT,tiA,tiXA, zaI, zaD, zaC, loadOk, g2, hu3, nri, builtE, hlu, w64]
    refine (nextE ((k : Int) + 1) d3 hsi hc hsc hnb (by omega)).ex ?_
    rintro y H5 ⟨hy, les5, d4⟩
    have hyk : y ≤ k := by omega
    obtain ⟨w, hw, d5⟩ := d4.cut 1 rfl (hi := some (y : Int)) (b := y) rfl hyk
    have g2' := d5.rowAt 2 rfl
    have hw1 := d5.capOne 1 rfl
    refine ⟨.inr (.inr les5), ?_⟩
    try simp (disch := first | omega | (simp only [L3] <;> omega)) only [Sall,evalOp,init,binA_s,binE,binI,unE,convE,okNil,builtE,gv,TD.isAgg,resV,↓reduceIte,Nat.reduceEqDiff,reduceCtorEq,Nat.reduceAdd,Nat.reduceMul,Nat.reduceLeDiff,za0,za2,Int.reduceEq,Int.reduceLT,Int.reduceLE,Nat.reduceLT,tiA,tiXA, zaI, zaD, zaC, loadOk, nri]
    refine hw _ _ _ _ rfl ?_
    try simp (disch := first | omega | (simp only [L3] <;> omega)) only [Sall,evalOp,init,binA_s,binE,binI,unE,convE,okNil,builtE,gv,TD.isAgg,resV,↓reduceIte,Nat.reduceEqDiff,reduceCtorEq,Nat.reduceAdd,Nat.reduceMul,Nat.reduceLeDiff,za0,za2,Int.reduceEq,Int.reduceLT,Int.reduceLE,Nat.reduceLT,tiA,tiXA, zaI, zaD, zaC, loadOk, g2', hw1, nri]
    have d6 := d5.putRow 2 rfl (cs' := [.int .i64 n, w])
    have hVy := hV.take (y * 14)
    have hy13 : y ≤ 13 := by omega
    refine ⟨.inr (.inl (by kernel_rfl)), ?_⟩
    generalize H5.setCells ri [.int .i64 n, w] = H6 at d6 ⊢
    generalize l.take (y * 14) = l2 at d6 hVy ⊢
    refine (nextD 3 d6 hsi hc hsc hnb (by omega)).ex ?_
    rintro cc H7 ⟨hcc, d7⟩
    refine Holds.mp ?_
    try simp (disch := first | omega | (simp only [L3] <;> omega)) only [Sall,evalOp,init,binA_s,binE,binI,unE,convE,okNil,builtE,gv,TD.isAgg,resV,↓reduceIte,Nat.reduceEqDiff,reduceCtorEq,Nat.reduceAdd,Nat.reduceMul,Nat.reduceLeDiff,za0,za2,Int.reduceEq,Int.reduceLT,Int.reduceLE,Nat.reduceLT,tiA,tiXA, true_and]
    refine za5 (fun z t H' => ∃ (c k' : Nat) (u' : Value) (l' : List Int), z = c ∧ k' + c ≤ 15 ∧ t 4 = .int .i64 c ∧ t 0 = .pointer (some ⟨si, 0, none⟩) ∧ t 2 = .pointer (some ⟨H.next, 0, none⟩) ∧ t 3 = .pointer (some ⟨ri, 0, none⟩) ∧ VL n l' ∧ Dq cv nb si H H' [.row H.next ⟨26, true, [.int .i64 0, .slice none 0 0]⟩, .cap 14 67 u' k' (ints l'), .row ri ⟨26, true, [.int .i64 n, u']⟩]) cc ?_ ?_
    · refine ⟨cc, y, w, l2, rfl, by omega, ?_⟩
      try simp (disch := first | omega | (simp only [L3] <;> omega)) only [Sall,evalOp,init,binA_s,binE,binI,unE,convE,okNil,builtE,gv,TD.isAgg,resV,↓reduceIte,Nat.reduceEqDiff,reduceCtorEq,Nat.reduceAdd,Nat.reduceMul,Nat.reduceLeDiff,za0,za2,Int.reduceEq,Int.reduceLT,Int.reduceLE,Nat.reduceLT,tiA,tiXA, true_and]
      exact ⟨hVy, d7⟩
    · rintro z t H' ⟨c, k', u', l', hz, hkc, h4, h0, h2, h3, hV', d8⟩
      have q0 := d8.rowAt 0 rfl
      have q2 := d8.rowAt 2 rfl
      have hu8 := d8.capOne 1 rfl
      try simp (disch := first | omega | (simp only [L3] <;> omega)) only [Sall,evalOp,init,binA_s,binE,binI,unE,convE,okNil,builtE,gv,TD.isAgg,resV,↓reduceIte,Nat.reduceEqDiff,reduceCtorEq,Nat.reduceAdd,Nat.reduceMul,Nat.reduceLeDiff,za0,za2,Int.reduceEq,Int.reduceLT,Int.reduceLE,Nat.reduceLT,tiA,tiXA, h4]
      refine za4 (fun hh => ?_) (fun hh => ?_)
      · try simp (disch := first | omega | (simp only [L3] <;> omega)) only [Sall,evalOp,init,binA_s,binE,binI,unE,convE,okNil,builtE,gv,TD.isAgg,resV,↓reduceIte,Nat.reduceEqDiff,reduceCtorEq,Nat.reduceAdd,Nat.reduceMul,Nat.reduceLeDiff,za0,za2,Int.reduceEq,Int.reduceLT,Int.reduceLE,Nat.reduceLT,tiA,tiXA, true_and]
        refine zc1 (fun j => j ≠ si) [0, 1, 2, 3, 4, 5, 6, 7, 8, 9] (by kernel_rfl) (by kernel_rfl) (by kernel_rfl) ?_
        try simp (disch := first | omega | (simp only [L3] <;> omega)) only [Sall,evalOp,init,binA_s,binE,binI,unE,convE,okNil,builtE,gv,TD.isAgg,resV,↓reduceIte,Nat.reduceEqDiff,reduceCtorEq,Nat.reduceAdd,Nat.reduceMul,Nat.reduceLeDiff,za0,za2,Int.reduceEq,Int.reduceLT,Int.reduceLE,Nat.reduceLT,tiA,tiXA, zaI, zaD, zaC, loadOk, h0, h2, h3, q2, hu8, nri]
        refine (zdD cv nb si n H' ⟨by omega, hn2⟩ hnb (d8.src hsi) (d8.code hc hsc)).ex ?_
        rintro rd H9 ⟨hrl, hR, e9⟩
        have d9 := d8.bind hsi e9
        refine ⟨.inr (.inr (e9.les d8.sc)), ?_⟩
        try simp (disch := first | omega | (simp only [L3] <;> omega)) only [Sall,evalOp,init,binA_s,binE,binI,unE,convE,okNil,builtE,gv,TD.isAgg,resV,↓reduceIte,Nat.reduceEqDiff,reduceCtorEq,Nat.reduceAdd,Nat.reduceMul,Nat.reduceLeDiff,za0,za2,Int.reduceEq,Int.reduceLT,Int.reduceLE,Nat.reduceLT,tiA,tiXA, zaI, zaD, zaC, loadOk, nri, hrl, zaL, zbT]
        (repeat refine And.intro (by omega) ?_)
        refine ⟨.inr (.inr (LE.les (d9.sc.le _))), ?_⟩
        refine (d9.tmp ⟨67, true, ints rd⟩).appC 1 (c := 1) (ms := ints rd) rfl rfl (by omega) (by rw [za1, hrl]) (by omega) (by decide) (by omega) ?_
        intro v' H10 d10
        rw [zaK] at d10
        have q2' := d10.rowAt 2 rfl
        have hv' := d10.capOne 1 rfl
        refine ⟨.inr (.inl (by kernel_rfl)), ?_⟩
        try simp (disch := first | omega | (simp only [L3] <;> omega)) only [Sall,evalOp,init,binA_s,binE,binI,unE,convE,okNil,builtE,gv,TD.isAgg,resV,↓reduceIte,Nat.reduceEqDiff,reduceCtorEq,Nat.reduceAdd,Nat.reduceMul,Nat.reduceLeDiff,za0,za2,Int.reduceEq,Int.reduceLT,Int.reduceLE,Nat.reduceLT,tiA,tiXA, zaI, zaD, zaC, loadOk, h3, q2', hv', nri]
        have d11 := d10.putRow 2 rfl (cs' := [.int .i64 n, v'])
        refine ⟨.inr (.inl (by kernel_rfl)), ?_⟩
        try simp (disch := first | omega | (simp only [L3] <;> omega)) only [Sall,evalOp,init,binA_s,binE,binI,unE,convE,okNil,builtE,gv,TD.isAgg,resV,↓reduceIte,Nat.reduceEqDiff,reduceCtorEq,Nat.reduceAdd,Nat.reduceMul,Nat.reduceLeDiff,za0,za2,Int.reduceEq,Int.reduceLT,Int.reduceLE,Nat.reduceLT,tiA,tiXA, h4, h0, h2, h3, w64]
        exact ⟨c - 1, by omega, c - 1, k' + 1, v', _, rfl, by omega, by omega, hV'.app hR, d11⟩
      · try simp (disch := first | omega | (simp only [L3] <;> omega)) only [Sall,evalOp,init,binA_s,binE,binI,unE,convE,okNil,builtE,gv,TD.isAgg,resV,↓reduceIte,Nat.reduceEqDiff,reduceCtorEq,Nat.reduceAdd,Nat.reduceMul,Nat.reduceLeDiff,za0,za2,Int.reduceEq,Int.reduceLT,Int.reduceLE,Nat.reduceLT,tiA,tiXA, h2, h3, q0, q2, hu8]
        exact ⟨n, k', u', l', rfl, ⟨hn1, hn2⟩, by omega, hV', (d8.putRow 0 rfl).sub1 1 rfl⟩
  have f1 : ((x : Int) == 1) = false := beq_eq_false_iff_ne.2 c1
  by_cases c2 : (x : Int) = 2
  · have f2 : ((x : Int) == 2) = true := beq_iff_eq.2 c2
    have f3 : decide ((2 : Int) * (k : Int) ≤ 40) = true := decide_eq_true (by omega)
    try simp (disch := first | omega | (simp only [L3] <;> omega)) only [Sall,evalOp,init,binA_s,binE,binI,unE,convE,okNil,builtE,gv,TD.isAgg,resV,↓reduceIte,Nat.reduceEqDiff,reduceCtorEq,Nat.reduceAdd,Nat.reduceMul,Nat.reduceLeDiff,za0,za2,Int.reduceEq,Int.reduceLT,Int.reduceLE,Nat.reduceLT,tiA,tiXA, f0, f1, f2, g2, hu3, builtE, hlu, w64, f3]
    refine (nextD 2 d3 hsi hc hsc hnb (by omega)).ex ?_
    rintro y H5 ⟨hy, d4⟩
    have q2 := d4.rowAt 2 rfl
    have hu4 := d4.capOne 1 rfl
    refine Holds.mp ?_
    try simp (disch := first | omega | (simp only [L3] <;> omega)) only [Sall,evalOp,init,binA_s,binE,binI,unE,convE,okNil,builtE,gv,TD.isAgg,resV,↓reduceIte,Nat.reduceEqDiff,reduceCtorEq,Nat.reduceAdd,Nat.reduceMul,Nat.reduceLeDiff,za0,za2,Int.reduceEq,Int.reduceLT,Int.reduceLE,Nat.reduceLT,tiA,tiXA, true_and]
    refine zcW (fun t H' => ∃ (k' : Nat) (u' : Value) (l' : List Int), t 2 = .pointer (some ⟨H.next, 0, none⟩) ∧ t 3 = .pointer (some ⟨ri, 0, none⟩) ∧ k' ≤ 40 ∧ VL n l' ∧ Dq cv nb si H H' [.row H.next ⟨26, true, [.int .i64 0, .slice none 0 0]⟩, .cap 14 67 u' k' (ints l'), .row ri ⟨26, true, [.int .i64 n, u']⟩]) (fun _ => ?_) (fun _ => ?_) ?_
    · refine ⟨k, u, l, ?_⟩
      try simp (disch := first | omega | (simp only [L3] <;> omega)) only [Sall,evalOp,init,binA_s,binE,binI,unE,convE,okNil,builtE,gv,TD.isAgg,resV,↓reduceIte,Nat.reduceEqDiff,reduceCtorEq,Nat.reduceAdd,Nat.reduceMul,Nat.reduceLeDiff,za0,za2,Int.reduceEq,Int.reduceLT,Int.reduceLE,Nat.reduceLT,tiA,tiXA, true_and]
      exact ⟨by omega, hV, d4⟩
    · try simp (disch := first | omega | (simp only [L3] <;> omega)) only [Sall,evalOp,init,binA_s,binE,binI,unE,convE,okNil,builtE,gv,TD.isAgg,resV,↓reduceIte,Nat.reduceEqDiff,reduceCtorEq,Nat.reduceAdd,Nat.reduceMul,Nat.reduceLeDiff,za0,za2,Int.reduceEq,Int.reduceLT,Int.reduceLE,Nat.reduceLT,tiA,tiXA, true_and]
      refine awp_cutQ (fun t H' => ∃ (rk : Nat) (u2 : Value) (l2 : List Int), t 2 = .pointer (some ⟨H.next, 0, none⟩) ∧ t 3 = .pointer (some ⟨ri, 0, none⟩) ∧ t 5 = .pointer (some ⟨rk, 0, none⟩) ∧ VL n l2 ∧ Dq cv nb si H H' [.row H.next ⟨26, true, [.int .i64 0, .slice none 0 0]⟩, .cap 14 67 u k (ints l), .row ri ⟨26, true, [.int .i64 n, u]⟩, .sl 14 67 u2 k (ints l2), .row rk ⟨26, true, [.int .i64 n, u2]⟩]) ?_ ?_
      · refine draw_treeS (fun j => j ≠ si) (OT.run [0, 1, 2, 3] (.two 4 6 (OT.run [] (.two 5 6 (OT.run [6, 7] .nil) (OT.run [5, 7] .nil))) (OT.run [4, 5, 7] .nil))) (by kernel_rfl) (by kernel_rfl) (Nat.le_of_ble_eq_true rfl) ?_
        try simp (disch := first | omega | (simp only [L3] <;> omega)) only [Sall,evalOp,init,binA_s,binE,binI,unE,convE,okNil,builtE,gv,TD.isAgg,resV,↓reduceIte,Nat.reduceEqDiff,reduceCtorEq,Nat.reduceAdd,Nat.reduceMul,Nat.reduceLeDiff,za0,za2,Int.reduceEq,Int.reduceLT,Int.reduceLE,Nat.reduceLT,tiA,tiXA, zaM, zaH, zb5, zb6, zaC, loadOk, q2, hu4, nri]
        refine zhK ?_ ?_
        · try simp (disch := first | omega | (simp only [L3] <;> omega)) only [Sall,evalOp,init,binA_s,binE,binI,unE,convE,okNil,builtE,gv,TD.isAgg,resV,↓reduceIte,Nat.reduceEqDiff,reduceCtorEq,Nat.reduceAdd,Nat.reduceMul,Nat.reduceLeDiff,za0,za2,Int.reduceEq,Int.reduceLT,Int.reduceLE,Nat.reduceLT,tiA,tiXA, zaM, zaH, zb5, zb6, zaC, loadOk, hu4, nri]
          refine (zbG cv nb si n H5 (by omega) hnb (d4.src hsi) (d4.code hc hsc)).mono ?_
          rintro w H6 ⟨y, B6, k6, o6, hp⟩
          rw [Int.toNat_natCast] at o6 hp
          have d5 := d4.call hsi k6 o6
          have hw := o6.one 0 rfl
          refine ⟨.inr (.inr (les_of k6 o6 d4.sc)), ?_⟩
          try simp (disch := first | omega | (simp only [L3] <;> omega)) only [Sall,evalOp,init,binA_s,binE,binI,unE,convE,okNil,builtE,gv,TD.isAgg,resV,↓reduceIte,Nat.reduceEqDiff,reduceCtorEq,Nat.reduceAdd,Nat.reduceMul,Nat.reduceLeDiff,za0,za2,Int.reduceEq,Int.reduceLT,Int.reduceLE,Nat.reduceLT,tiA,tiXA, zaM, zaH, zb5, zb6, zaC, loadOk, hu4, nri, hw]
          refine zhK ?_ ?_
          · try simp (disch := first | omega | (simp only [L3] <;> omega)) only [Sall,evalOp,init,binA_s,binE,binI,unE,convE,okNil,builtE,gv,TD.isAgg,resV,↓reduceIte,Nat.reduceEqDiff,reduceCtorEq,Nat.reduceAdd,Nat.reduceMul,Nat.reduceLeDiff,za0,za2,Int.reduceEq,Int.reduceLT,Int.reduceLE,Nat.reduceLT,tiA,tiXA, zaM, zaH, zb5, zb6, zaC, loadOk, hu4, nri]
            refine ACalls.ex2 (zc7 n k u w l y H6 ⟨by omega, by omega⟩ (by omega) (d5.capRs 1 rfl).rd hV (d5.rd 3 rfl) hp.rng) ?_
            rintro u' l' H7 ⟨o7, hV'⟩
            have d6 := d5.calls o7
            have hu7 := o7.one 0 rfl
            refine ⟨.inr (.inr (LE.les (o7.up.le d5.sc))), ?_⟩
            try simp (disch := first | omega | (simp only [L3] <;> omega)) only [Sall,evalOp,init,binA_s,binE,binI,unE,convE,okNil,builtE,gv,TD.isAgg,resV,↓reduceIte,Nat.reduceEqDiff,reduceCtorEq,Nat.reduceAdd,Nat.reduceMul,Nat.reduceLeDiff,za0,za2,Int.reduceEq,Int.reduceLT,Int.reduceLE,Nat.reduceLT,tiA,tiXA, zaM, zaH, zb5, zb6, zaC, loadOk, hu4, nri, hu7]
            have d7 := (d6.push ⟨26, true, [.int .i64 0, .slice none 0 0]⟩).putRow 5 rfl (cs' := [.int .i64 n, u'])
            exact ⟨.inr (.inr (LE.les (d6.sc.le _))), .inr (.inl (by kernel_rfl)), _, u', l', rfl, hV', d7.map fun B o => Ow.six1 o⟩
          · try simp (disch := first | omega | (simp only [L3] <;> omega)) only [Sall,evalOp,init,binA_s,binE,binI,unE,convE,okNil,builtE,gv,TD.isAgg,resV,↓reduceIte,Nat.reduceEqDiff,reduceCtorEq,Nat.reduceAdd,Nat.reduceMul,Nat.reduceLeDiff,za0,za2,Int.reduceEq,Int.reduceLT,Int.reduceLE,Nat.reduceLT,tiA,tiXA, zaM, zaH, zb5, zb6, zaC, loadOk, hu4, nri]
            have d6 := d5.push ⟨26, true, [.int .i64 0, .slice none 0 0]⟩
            refine ⟨.inr (.inr (LE.les (d5.sc.le _))), ?_⟩
            obtain ⟨rk, erk⟩ : ∃ rk, rk = H6.next := ⟨_, rfl⟩
            rw [← erk] at d6 ⊢
            generalize H6.push ⟨26, true, [.int .i64 0, .slice none 0 0]⟩ = H7 at d6 ⊢
            try simp (disch := first | omega | (simp only [L3] <;> omega)) only [Sall,evalOp,init,binA_s,binE,binI,unE,convE,okNil,builtE,gv,TD.isAgg,resV,↓reduceIte,Nat.reduceEqDiff,reduceCtorEq,Nat.reduceAdd,Nat.reduceMul,Nat.reduceLeDiff,za0,za2,Int.reduceEq,Int.reduceLT,Int.reduceLE,Nat.reduceLT,tiA,tiXA, zaM, zaH, zb5, zb6, zaC, loadOk, hu4, nri, hw]
            refine ACalls.ex2 (zc7 n k u w l y H7 ⟨by omega, by omega⟩ (by omega) (d6.capRs 1 rfl).rd hV (d6.rd 3 rfl) hp.rng) ?_
            rintro u' l' H8 ⟨o7, hV'⟩
            have d7 := d6.calls o7
            have hu7 := o7.one 0 rfl
            refine ⟨.inr (.inr (LE.les (o7.up.le d6.sc))), ?_⟩
            have g7 := d7.rowAt 4 rfl
            try simp (disch := first | omega | (simp only [L3] <;> omega)) only [Sall,evalOp,init,binA_s,binE,binI,unE,convE,okNil,builtE,gv,TD.isAgg,resV,↓reduceIte,Nat.reduceEqDiff,reduceCtorEq,Nat.reduceAdd,Nat.reduceMul,Nat.reduceLeDiff,za0,za2,Int.reduceEq,Int.reduceLT,Int.reduceLE,Nat.reduceLT,tiA,tiXA, zaM, zaH, zb5, zb6, zaC, loadOk, hu4, nri, hu7, g7]
            exact ⟨.inr (.inl (by kernel_rfl)), _, u', l', rfl, hV', (d7.putRow 4 rfl).map fun B o => Ow.six2 o⟩
        · try simp (disch := first | omega | (simp only [L3] <;> omega)) only [Sall,evalOp,init,binA_s,binE,binI,unE,convE,okNil,builtE,gv,TD.isAgg,resV,↓reduceIte,Nat.reduceEqDiff,reduceCtorEq,Nat.reduceAdd,Nat.reduceMul,Nat.reduceLeDiff,za0,za2,Int.reduceEq,Int.reduceLT,Int.reduceLE,Nat.reduceLT,tiA,tiXA, zaM, zaH, zb5, zb6, zaC, loadOk, hu4, nri]
          have d5 := d4.push ⟨26, true, [.int .i64 0, .slice none 0 0]⟩
          refine ⟨.inr (.inr (LE.les (d4.sc.le _))), ?_⟩
          obtain ⟨rk, erk⟩ : ∃ rk, rk = H5.next := ⟨_, rfl⟩
          rw [← erk] at d5 ⊢
          generalize H5.push ⟨26, true, [.int .i64 0, .slice none 0 0]⟩ = H6 at d5 ⊢
          try simp (disch := first | omega | (simp only [L3] <;> omega)) only [Sall,evalOp,init,binA_s,binE,binI,unE,convE,okNil,builtE,gv,TD.isAgg,resV,↓reduceIte,Nat.reduceEqDiff,reduceCtorEq,Nat.reduceAdd,Nat.reduceMul,Nat.reduceLeDiff,za0,za2,Int.reduceEq,Int.reduceLT,Int.reduceLE,Nat.reduceLT,tiA,tiXA, zaM, zaH, zb5, zb6, zaC, loadOk, hu4, nri]
          refine (zbG cv nb si n H6 (by omega) hnb (d5.src hsi) (d5.code hc hsc)).mono ?_
          rintro w H7 ⟨y, B6, k6, o6, hp⟩
          rw [Int.toNat_natCast] at o6 hp
          have d6 := d5.call hsi k6 o6
          have hw := o6.one 0 rfl
          refine ⟨.inr (.inr (les_of k6 o6 d5.sc)), ?_⟩
          try simp (disch := first | omega | (simp only [L3] <;> omega)) only [Sall,evalOp,init,binA_s,binE,binI,unE,convE,okNil,builtE,gv,TD.isAgg,resV,↓reduceIte,Nat.reduceEqDiff,reduceCtorEq,Nat.reduceAdd,Nat.reduceMul,Nat.reduceLeDiff,za0,za2,Int.reduceEq,Int.reduceLT,Int.reduceLE,Nat.reduceLT,tiA,tiXA, zaM, zaH, zb5, zb6, zaC, loadOk, hu4, nri, hw]
          refine ACalls.ex2 (zc7 n k u w l y H7 ⟨by omega, by omega⟩ (by omega) (d6.capRs 1 rfl).rd hV (d6.rd 4 rfl) hp.rng) ?_
          rintro u' l' H8 ⟨o7, hV'⟩
          have d7 := d6.calls o7
          have hu7 := o7.one 0 rfl
          refine ⟨.inr (.inr (LE.les (o7.up.le d6.sc))), ?_⟩
          have g7 := d7.rowAt 3 rfl
          try simp (disch := first | omega | (simp only [L3] <;> omega)) only [Sall,evalOp,init,binA_s,binE,binI,unE,convE,okNil,builtE,gv,TD.isAgg,resV,↓reduceIte,Nat.reduceEqDiff,reduceCtorEq,Nat.reduceAdd,Nat.reduceMul,Nat.reduceLeDiff,za0,za2,Int.reduceEq,Int.reduceLT,Int.reduceLE,Nat.reduceLT,tiA,tiXA, zaM, zaH, zb5, zb6, zaC, loadOk, hu4, nri, hu7, g7]
          exact ⟨.inr (.inl (by kernel_rfl)), _, u', l', rfl, hV', (d7.putRow 3 rfl).map fun B o => Ow.six3 o⟩
      · rintro t H6 ⟨rk, u2, l2, h2, h3, h5, hV2, d5⟩
        have p2 := d5.rowAt 2 rfl
        have p4 := d5.rowAt 4 rfl
        have hu5 := d5.capOne 1 rfl
        have hu6 := d5.one 3 rfl
        obtain ⟨Bq, bq, oq⟩ := id d5.ex
        obtain ⟨qi, _, _, rfl, hqr⟩ := oq.get 3 rfl (by omega)
        have hl2 := oq.len 3 rfl
        rw [za1] at hl2
        have hsg : seg (ints l2) 0 (k * 14) = ints l2 := zdW _ _ (by rw [za1, hl2])
        try simp (disch := first | omega | (simp only [L3] <;> omega)) only [Sall,evalOp,init,binA_s,binE,binI,unE,convE,okNil,builtE,gv,TD.isAgg,resV,↓reduceIte,Nat.reduceEqDiff,reduceCtorEq,Nat.reduceAdd,Nat.reduceMul,Nat.reduceLeDiff,za0,za2,Int.reduceEq,Int.reduceLT,Int.reduceLE,Nat.reduceLT,tiA,tiXA, h2, h3, h5, p2, p4, hu5, zaL, hqr, hsg, hl2]
        (repeat refine And.intro (by omega) ?_)
        refine d5.appC 1 (c := k) (ms := ints l2) rfl rfl (by omega) (by rw [za1, hl2]) (by omega) (by decide) (by omega) ?_
        intro v' H7 d6
        rw [zaK] at d6
        have p2' := d6.rowAt 2 rfl
        have hv' := d6.capOne 1 rfl
        try simp (disch := first | omega | (simp only [L3] <;> omega)) only [Sall,evalOp,init,binA_s,binE,binI,unE,convE,okNil,builtE,gv,TD.isAgg,resV,↓reduceIte,Nat.reduceEqDiff,reduceCtorEq,Nat.reduceAdd,Nat.reduceMul,Nat.reduceLeDiff,za0,za2,Int.reduceEq,Int.reduceLT,Int.reduceLE,Nat.reduceLT,tiA,tiXA, h2, h3, p2', hv']
        exact ⟨k + k, v', l ++ l2, by omega, hV.app hV2, Dq.left (L := [_, _, _]) (d6.putRow 2 rfl)⟩
    · rintro t H6 ⟨k', u', l', h2, h3, hk', hV', d5⟩
      have p0 := d5.rowAt 0 rfl
      have p2 := d5.rowAt 2 rfl
      have hu5 := d5.capOne 1 rfl
      try simp (disch := first | omega | (simp only [L3] <;> omega)) only [Sall,evalOp,init,binA_s,binE,binI,unE,convE,okNil,builtE,gv,TD.isAgg,resV,↓reduceIte,Nat.reduceEqDiff,reduceCtorEq,Nat.reduceAdd,Nat.reduceMul,Nat.reduceLeDiff,za0,za2,Int.reduceEq,Int.reduceLT,Int.reduceLE,Nat.reduceLT,tiA,tiXA, h2, h3, p0, p2, hu5]
      exact ⟨n, k', u', l', rfl, ⟨hn1, hn2⟩, hk', hV', (d5.putRow 0 rfl).sub1 1 rfl⟩
  have f2 : ((x : Int) == 2) = false := beq_eq_false_iff_ne.2 c2
  try simp (disch := first | omega | (simp only [L3] <;> omega)) only [Sall,evalOp,init,binA_s,binE,binI,unE,convE,okNil,builtE,gv,TD.isAgg,resV,↓reduceIte,Nat.reduceEqDiff,reduceCtorEq,Nat.reduceAdd,Nat.reduceMul,Nat.reduceLeDiff,za0,za2,Int.reduceEq,Int.reduceLT,Int.reduceLE,Nat.reduceLT,tiA,tiXA, f0, f1, f2]
  have e3 := d3.sub1 0 rfl
  refine (nextD 13 e3 hsi hc hsc hnb (by omega)).ex ?_
  rintro y H5 ⟨hy, d4⟩
  obtain ⟨m, hm⟩ : ∃ m : Nat, m = y + 2 := ⟨_, rfl⟩
  have em : (2 : Int) + (y : Int) = (m : Int) := by omega
  refine Holds.mp ?_
  try simp (disch := first | omega | (simp only [L3] <;> omega)) only [Sall,evalOp,init,binA_s,binE,binI,unE,convE,okNil,builtE,gv,TD.isAgg,resV,↓reduceIte,Nat.reduceEqDiff,reduceCtorEq,Nat.reduceAdd,Nat.reduceMul,Nat.reduceLeDiff,za0,za2,Int.reduceEq,Int.reduceLT,Int.reduceLE,Nat.reduceLT,tiA,tiXA, w64, em, zaV]
  have d5 := ((d4.map fun B o => o.pushSl (k := 14) (n := 0) (ty := 67) (vs := ints []) rfl).toCap 1 rfl).push ⟨26, true, [.int .i64 0, .slice none 0 0]⟩
  have d6 := d5.putRow 2 rfl (cs' := [.int .i64 m, .slice (some ⟨H5.next, 0, some 14⟩) 0 0])
  obtain ⟨w, hw⟩ : ∃ w, w = Value.slice (some ⟨H5.next, 0, some 14⟩) 0 0 := ⟨_, rfl⟩
  obtain ⟨rj, erj⟩ : ∃ rj, rj = (H5.push ⟨67, true, ints []⟩).next := ⟨_, rfl⟩
  have nrj : ¬ rj = si := by have h1 : (H5.push ⟨67, true, ints []⟩).next = H5.next + 1 := rfl; have := d4.le; omega
  have erj' : H5.next + 1 = rj := erj.symm
  rw [← hw, ← erj] at d6
  rw [← hw, erj']
  have d6 : Dq cv nb si H (((H5.push ⟨67, true, []⟩).push ⟨26, true, [.int .i64 0, .slice none 0 0]⟩).setCells rj [.int .i64 m, w]) [.row H.next ⟨26, true, [.int .i64 0, .slice none 0 0]⟩, .cap 14 67 w 0 (ints []), .row rj ⟨26, true, [.int .i64 m, w]⟩] := d6
  have nx : H5.next + 2 = (((H5.push ⟨67, true, []⟩).push ⟨26, true, [.int .i64 0, .slice none 0 0]⟩).setCells rj [.int .i64 m, w]).next := rfl
  generalize ((H5.push ⟨67, true, []⟩).push ⟨26, true, [.int .i64 0, .slice none 0 0]⟩).setCells rj [.int .i64 m, w] = H6 at d6 nx ⊢
  have zz3 : zeros 3 [.int .i64 0] = [.int .i64 0, .int .i64 0, .int .i64 0] := rfl
  rw [nx]
  try simp (disch := first | omega | (simp only [L3] <;> omega)) only [Sall,evalOp,init,binA_s,binE,binI,unE,convE,okNil,builtE,gv,TD.isAgg,resV,↓reduceIte,Nat.reduceEqDiff,reduceCtorEq,Nat.reduceAdd,Nat.reduceMul,Nat.reduceLeDiff,za0,za2,Int.reduceEq,Int.reduceLT,Int.reduceLE,Nat.reduceLT,tiA,tiXA, zz3]
  refine (pickL [4, 10, 41] 3 rfl (by omega) (by omega) d6 hsi hc hsc hnb).ex ?_
  rintro p H7 ⟨hp, d7⟩
  have hp2 : p ≤ 41 := by
    simp only [List.mem_cons, List.not_mem_nil, or_false] at hp
    omega
  have hp3 : 4 ≤ p := by
    simp only [List.mem_cons, List.not_mem_nil, or_false] at hp
    omega
  refine Holds.mp ?_
  try simp (disch := first | omega | (simp only [L3] <;> omega)) only [Sall,evalOp,init,binA_s,binE,binI,unE,convE,okNil,builtE,gv,TD.isAgg,resV,↓reduceIte,Nat.reduceEqDiff,reduceCtorEq,Nat.reduceAdd,Nat.reduceMul,Nat.reduceLeDiff,za0,za2,Int.reduceEq,Int.reduceLT,Int.reduceLE,Nat.reduceLT,tiA,tiXA, true_and]
  refine (nextD p d7 hsi hc hsc hnb (by omega)).ex ?_
  rintro cc H8 ⟨hcc, d8⟩
  refine Holds.mp ?_
  try simp (disch := first | omega | (simp only [L3] <;> omega)) only [Sall,evalOp,init,binA_s,binE,binI,unE,convE,okNil,builtE,gv,TD.isAgg,resV,↓reduceIte,Nat.reduceEqDiff,reduceCtorEq,Nat.reduceAdd,Nat.reduceMul,Nat.reduceLeDiff,za0,za2,Int.reduceEq,Int.reduceLT,Int.reduceLE,Nat.reduceLT,tiA,tiXA, true_and]
  refine za5 (fun z t H' => ∃ (c k' : Nat) (u' : Value) (l' : List Int), z = c ∧ k' + c ≤ 40 ∧ t 7 = .int .i64 c ∧ t 0 = .pointer (some ⟨si, 0, none⟩) ∧ t 2 = .pointer (some ⟨H.next, 0, none⟩) ∧ t 6 = .pointer (some ⟨rj, 0, none⟩) ∧ VL m l' ∧ Dq cv nb si H H' [.row H.next ⟨26, true, [.int .i64 0, .slice none 0 0]⟩, .cap 14 67 u' k' (ints l'), .row rj ⟨26, true, [.int .i64 m, u']⟩]) cc ?_ ?_
  · refine ⟨cc, 0, w, [], rfl, by omega, ?_⟩
    try simp (disch := first | omega | (simp only [L3] <;> omega)) only [Sall,evalOp,init,binA_s,binE,binI,unE,convE,okNil,builtE,gv,TD.isAgg,resV,↓reduceIte,Nat.reduceEqDiff,reduceCtorEq,Nat.reduceAdd,Nat.reduceMul,Nat.reduceLeDiff,za0,za2,Int.reduceEq,Int.reduceLT,Int.reduceLE,Nat.reduceLT,tiA,tiXA, true_and]
    exact ⟨VL.nil m, d8⟩
  · rintro z t H' ⟨c, k', u', l', hz, hkc, h7, h0, h2, h6, hV', d8⟩
    have q0 := d8.rowAt 0 rfl
    have q2 := d8.rowAt 2 rfl
    have hu8 := d8.capOne 1 rfl
    try simp (disch := first | omega | (simp only [L3] <;> omega)) only [Sall,evalOp,init,binA_s,binE,binI,unE,convE,okNil,builtE,gv,TD.isAgg,resV,↓reduceIte,Nat.reduceEqDiff,reduceCtorEq,Nat.reduceAdd,Nat.reduceMul,Nat.reduceLeDiff,za0,za2,Int.reduceEq,Int.reduceLT,Int.reduceLE,Nat.reduceLT,tiA,tiXA, h7]
    refine za4 (fun hh => ?_) (fun hh => ?_)
    · try simp (disch := first | omega | (simp only [L3] <;> omega)) only [Sall,evalOp,init,binA_s,binE,binI,unE,convE,okNil,builtE,gv,TD.isAgg,resV,↓reduceIte,Nat.reduceEqDiff,reduceCtorEq,Nat.reduceAdd,Nat.reduceMul,Nat.reduceLeDiff,za0,za2,Int.reduceEq,Int.reduceLT,Int.reduceLE,Nat.reduceLT,tiA,tiXA, true_and]
      refine zc1 (fun j => j ≠ si) [0, 1, 2, 3, 4, 5, 6, 7, 8, 9] (by kernel_rfl) (by kernel_rfl) (by kernel_rfl) ?_
      try simp (disch := first | omega | (simp only [L3] <;> omega)) only [Sall,evalOp,init,binA_s,binE,binI,unE,convE,okNil,builtE,gv,TD.isAgg,resV,↓reduceIte,Nat.reduceEqDiff,reduceCtorEq,Nat.reduceAdd,Nat.reduceMul,Nat.reduceLeDiff,za0,za2,Int.reduceEq,Int.reduceLT,Int.reduceLE,Nat.reduceLT,tiA,tiXA, zaI, zaD, zaC, loadOk, h0, h2, h6, q2, hu8, nrj]
      refine (zdD cv nb si m H' ⟨by omega, by omega⟩ hnb (d8.src hsi) (d8.code hc hsc)).ex ?_
      rintro rd H9 ⟨hrl, hR, e9⟩
      have d9 := d8.bind hsi e9
      refine ⟨.inr (.inr (e9.les d8.sc)), ?_⟩
      try simp (disch := first | omega | (simp only [L3] <;> omega)) only [Sall,evalOp,init,binA_s,binE,binI,unE,convE,okNil,builtE,gv,TD.isAgg,resV,↓reduceIte,Nat.reduceEqDiff,reduceCtorEq,Nat.reduceAdd,Nat.reduceMul,Nat.reduceLeDiff,za0,za2,Int.reduceEq,Int.reduceLT,Int.reduceLE,Nat.reduceLT,tiA,tiXA, zaI, zaD, zaC, loadOk, nrj, hrl, zaL, zbT]
      (repeat refine And.intro (by omega) ?_)
      refine ⟨.inr (.inr (LE.les (d9.sc.le _))), ?_⟩
      refine (d9.tmp ⟨67, true, ints rd⟩).appC 1 (c := 1) (ms := ints rd) rfl rfl (by omega) (by rw [za1, hrl]) (by omega) (by decide) (by omega) ?_
      intro v' H10 d10
      rw [zaK] at d10
      have q2' := d10.rowAt 2 rfl
      have hv' := d10.capOne 1 rfl
      refine ⟨.inr (.inl (by kernel_rfl)), ?_⟩
      try simp (disch := first | omega | (simp only [L3] <;> omega)) only [Sall,evalOp,init,binA_s,binE,binI,unE,convE,okNil,builtE,gv,TD.isAgg,resV,↓reduceIte,Nat.reduceEqDiff,reduceCtorEq,Nat.reduceAdd,Nat.reduceMul,Nat.reduceLeDiff,za0,za2,Int.reduceEq,Int.reduceLT,Int.reduceLE,Nat.reduceLT,tiA,tiXA, zaI, zaD, zaC, loadOk, h6, q2', hv', nrj]
      have d11 := d10.putRow 2 rfl (cs' := [.int .i64 m, v'])
      refine ⟨.inr (.inl (by kernel_rfl)), ?_⟩
      try simp (disch := first | omega | (simp only [L3] <;> omega)) only [Sall,evalOp,init,binA_s,binE,binI,unE,convE,okNil,builtE,gv,TD.isAgg,resV,↓reduceIte,Nat.reduceEqDiff,reduceCtorEq,Nat.reduceAdd,Nat.reduceMul,Nat.reduceLeDiff,za0,za2,Int.reduceEq,Int.reduceLT,Int.reduceLE,Nat.reduceLT,tiA,tiXA, h7, h0, h2, h6, w64]
      exact ⟨c - 1, by omega, c - 1, k' + 1, v', _, rfl, by omega, by omega, hV'.app hR, d11⟩
    · try simp (disch := first | omega | (simp only [L3] <;> omega)) only [Sall,evalOp,init,binA_s,binE,binI,unE,convE,okNil,builtE,gv,TD.isAgg,resV,↓reduceIte,Nat.reduceEqDiff,reduceCtorEq,Nat.reduceAdd,Nat.reduceMul,Nat.reduceLeDiff,za0,za2,Int.reduceEq,Int.reduceLT,Int.reduceLE,Nat.reduceLT,tiA,tiXA, h2, h6, q0, q2, hu8]
      exact ⟨m, k', u', l', rfl, ⟨by omega, by omega⟩, by omega, hV', (d8.putRow 0 rfl).sub1 1 rfl⟩
end Go.Proofs.YtemgclojolmhbaaGreat.A
end

section
set_option maxRecDepth 100000
set_option maxHeartbeats 2000000
namespace Go.Proofs.YtemgclojolmhbaaGreat.A
open Go Go.Abs Go.RowKit
theorem l01Copy_c (q : Int) (v : Value) (k : Nat) (l : List Int) (H : AH) (hk : k ≤ 4294967290) (hv : Rd 14 H v k l) (hrow : ∀ i o u n c, v = .slice (some ⟨i, o, u⟩) n c → ∃ r, H.row i = some r ∧ o ≤ r.cells.length) :
    ACalls Tryz.prog 77 [.agg #[.int .i64 q, v]] H (fun r H' => ∃ u, r = .agg #[.int .i64 q, u] ∧ Ow H H' [.cap 14 67 u k (ints l)]) := by
  refine ACalls.wf (by kernel_rfl) fun hs => za3 [.cell 2 26] Tryz.func77 (by kernel_rfl) rfl rfl (Nat.le_of_ble_eq_true rfl) (by kernel_rfl) ?_
  have hone := hv.one
  have hl0 := hv.1
  have o1 := (((Ow.refl hs).push ⟨26, true, [.int .i64 q, v]⟩).push ⟨26, true, [.int .i64 0, .slice none 0 0]⟩)
  have g0 := (o1.rowAt 0 rfl).1
  have g1 := (o1.rowAt 1 rfl).1
  try simp (disch := first | omega | (simp only [L3] <;> omega)) only [Sall,evalOp,init,binA_s,binE,binI,unE,convE,okNil,builtE,gv,TD.isAgg,resV,↓reduceIte,Nat.reduceEqDiff,reduceCtorEq,Nat.reduceAdd,Nat.reduceMul,Nat.reduceLeDiff,za0,za2,Int.reduceEq,Int.reduceLT,Int.reduceLE,Nat.reduceLT,tiA,tiXA, hone]
  generalize (H.push ⟨26, true, [.int .i64 q, v]⟩).push ⟨26, true, [.int .i64 0, .slice none 0 0]⟩ = H1 at o1 g0 g1 ⊢
  have b0 : H.next < H1.next := (o1.rowAt 0 rfl).2.2
  have b1 : H.next + 1 < H1.next := (o1.rowAt 1 rfl).2.2
  refine zc1 (fun j => j < H1.next) [0, 1, 3, 4, 2, 5, 6, 7] (by kernel_rfl) (by kernel_rfl) rfl ?_
  try simp (disch := first | omega | (simp only [L3] <;> omega)) only [Sall,evalOp,init,binA_s,binE,binI,unE,convE,okNil,builtE,gv,TD.isAgg,resV,↓reduceIte,Nat.reduceEqDiff,reduceCtorEq,Nat.reduceAdd,Nat.reduceMul,Nat.reduceLeDiff,za0,za2,Int.reduceEq,Int.reduceLT,Int.reduceLE,Nat.reduceLT,tiA,tiXA, zaI, zaD, zaC, loadOk, g0, g1, hone, zaV, b0, b1]
  refine ⟨.inr (.inr (LE.les (o1.sc.le _))), ?_⟩
  have o2 := ((Ow.refl o1.sc).pushSl (k := 14) (n := 0) (ty := 67) (vs := ints []) rfl).toCap 0 rfl
  obtain ⟨w, hw⟩ : ∃ w, w = Value.slice (some ⟨H1.next, 0, some 14⟩) 0 0 := ⟨_, rfl⟩
  rw [← hw] at o2 ⊢
  have o2 : Ow H1 (H1.push ⟨67, true, []⟩) [.cap 14 67 w 0 (ints [])] := o2
  generalize H1.push ⟨67, true, []⟩ = H2 at o2 ⊢
  have oldH : ∀ i r, H.row i = some r → H2.row i = some r := fun i r hr => o2.old o1.sc _ _ (o1.old hs _ _ hr)
  refine o2.appR 0 (c := k) (l := l) rfl (hv.same oldH) (fun i o u n c e => ?_) rfl (by omega) (by decide) (by omega) ?_
  · obtain ⟨r, h1, h2⟩ := hrow i o u n c e
    exact ⟨r, oldH _ _ h1, h2⟩
  intro v' H3 n3 o3
  rw [zaK] at o3
  have g1' : H3.row (H.next + 1) = _ := (o3.low _ b1).trans g1
  have hv1 := o3.capOne 0 rfl
  have hv2 := zbB hv1
  have hv3 := zb0 hv1
  refine ⟨.inr (.inr ⟨by have := o2.next; omega, fun i r hi hr => by rw [o3.low i hi, ← o2.low i hi]; exact hr⟩), ?_⟩
  try simp (disch := first | omega | (simp only [L3] <;> omega)) only [Sall,evalOp,init,binA_s,binE,binI,unE,convE,okNil,builtE,gv,TD.isAgg,resV,↓reduceIte,Nat.reduceEqDiff,reduceCtorEq,Nat.reduceAdd,Nat.reduceMul,Nat.reduceLeDiff,za0,za2,Int.reduceEq,Int.reduceLT,Int.reduceLE,Nat.reduceLT,tiA,tiXA, zaI, zaD, zaC, loadOk, hv1, hv2, hv3, g1']
  have o4 := (o1.call o3).putRow 1 rfl (cs' := [.int .i64 q, v'])
  refine ⟨.inr (.inl (by kernel_rfl)), v', rfl, ?_⟩
  refine o4.sub (fun _ => 2) (fun j hj => ?_) fun x y hx hy _ => by simp at hx hy; omega
  obtain rfl : j = 0 := by simp at hj; omega
  show some (Th.cap 14 67 v' (0 + k) (ints ([] ++ l))) = _
  rw [Nat.zero_add]; rfl
end Go.Proofs.YtemgclojolmhbaaGreat.A
end

section
set_option maxRecDepth 100000
set_option maxHeartbeats 2000000
namespace Go.Proofs.YtemgclojolmhbaaGreat.A
open Go Go.Abs Go.RowKit
def RsX (si z : Nat) (H : AH) (v : Value) (k : Nat) (l : List Int) : Prop :=
  ∀ H', (∀ i r, i ≠ si → H.row i = some r → H'.row i = some r) → Rs z H' v k l ∧ ∀ i o u n c, v = .slice (some ⟨i, o, u⟩) n c → ∃ r, H'.row i = some r ∧ o ≤ r.cells.length
def BadS (cv : Value) (nb si : Nat) (v : Value) (k0 : Nat) (l0 : List Int) (H : AH) (r : Value) (H' : AH) : Prop :=
  ∃ (q : Int) (k : Nat) (u : Value) (l : List Int), r = .agg #[.int .i64 q, u] ∧ (-1 ≤ q ∧ q ≤ 15) ∧ k ≤ 41 ∧ (∀ x, x ∈ l → -1 ≤ x ∧ x ≤ 14) ∧ ∃ L, Dq cv nb si H H' L ∧ ((u = v ∧ k = k0 ∧ l = l0) ∨ L[0]? = some (.cap 14 67 u k (ints l)))
theorem VL.bad {n : Nat} {l : List Int} (h : VL n l) (hn : n ≤ 14) : ∀ x, x ∈ l → -1 ≤ x ∧ x ≤ 14 := fun x hx => by
  have := h x hx
  omega
theorem l01Bad_c (cv : Value) (nb si n k : Nat) (v : Value) (l : List Int) (H : AH) (hn : 2 ≤ n ∧ n ≤ 14) (hk : k ≤ 40) (hV : VL n l) (hv : RsX si 14 H v k l) (hnb : nb ≤ 4611686018427387904) (hs : Src cv nb si H) (hc : CodeX cv nb si H) :
    ACalls Tryz.prog 35 [.pointer (some ⟨si, 0, none⟩), .agg #[.int .i64 n, v]] H (BadS cv nb si v k l H) := by
  refine ACalls.wf (by kernel_rfl) fun hsc => za3 [.cell 4 26] Tryz.func35 (by kernel_rfl) rfl rfl (Nat.le_of_ble_eq_true rfl) (by kernel_rfl) ?_
  obtain ⟨_, _, hrow, _⟩ := id hs
  have hsi := hsc _ _ hrow
  clear hrow
  have hone := (hv H fun _ _ _ h => h).1.rd.one
  have d0 := ((Dq.start hs hsc).push ⟨26, true, [.int .i64 n, v]⟩).push ⟨26, true, [.int .i64 0, .slice none 0 0]⟩
  have d0 : Dq cv nb si H ((H.push ⟨26, true, [.int .i64 n, v]⟩).push ⟨26, true, [.int .i64 0, .slice none 0 0]⟩) [.row H.next ⟨26, true, [.int .i64 n, v]⟩, .row (H.next + 1) ⟨26, true, [.int .i64 0, .slice none 0 0]⟩] := d0
  try simp (disch := first | omega | (simp only [L3] <;> omega)) only [Sall,evalOp,init,binA_s,binE,binI,unE,convE,okNil,builtE,gv,TD.isAgg,resV,↓reduceIte,Nat.reduceEqDiff,reduceCtorEq,Nat.reduceAdd,Nat.reduceMul,Nat.reduceLeDiff,za0,za2,Int.reduceEq,Int.reduceLT,Int.reduceLE,Nat.reduceLT,tiA,tiXA, hone]
  generalize (H.push ⟨26, true, [.int .i64 n, v]⟩).push ⟨26, true, [.int .i64 0, .slice none 0 0]⟩ = H1 at d0 ⊢
  obtain ⟨hv1, hv2⟩ := hv H1 (d0.old hsc)
  refine ACalls.ex (g := fun u => .agg #[.int .i64 (n : Int), u]) (l01Copy_c n v k l H1 (by omega) hv1.rd hv2) ?_
  rintro w H2 o2
  have d1 := (d0.calls o2).push ⟨26, true, [.int .i64 0, .slice none 0 0]⟩
  have hw := o2.capOne 0 rfl
  have d2 := d1.putRow 3 rfl (cs' := [.int .i64 n, w])
  refine Holds.mp ?_
  try simp (disch := first | omega | (simp only [L3] <;> omega)) only [Sall,evalOp,init,binA_s,binE,binI,unE,convE,okNil,builtE,gv,TD.isAgg,resV,↓reduceIte,Nat.reduceEqDiff,reduceCtorEq,Nat.reduceAdd,Nat.reduceMul,Nat.reduceLeDiff,za0,za2,Int.reduceEq,Int.reduceLT,Int.reduceLE,Nat.reduceLT,tiA,tiXA, hw]
  obtain ⟨rt, ert⟩ : ∃ rt, rt = H2.next := ⟨_, rfl⟩
  rw [← ert] at d2 ⊢
  have d2 : Dq cv nb si H ((H2.push ⟨26, true, [.int .i64 0, .slice none 0 0]⟩).setCells rt [.int .i64 n, w]) [.row H.next ⟨26, true, [.int .i64 n, v]⟩, .row (H.next + 1) ⟨26, true, [.int .i64 0, .slice none 0 0]⟩, .cap 14 67 w k (ints l), .row rt ⟨26, true, [.int .i64 n, w]⟩] := d2
  generalize (H2.push ⟨26, true, [.int .i64 0, .slice none 0 0]⟩).setCells rt [.int .i64 n, w] = H3 at d2 ⊢
  refine (nextD 50 d2 hsi hc hsc hnb (by omega)).ex ?_
  rintro x H4 ⟨hx, d3⟩
  have g0 := d3.rowAt 0 rfl
  have g1 := d3.rowAt 1 rfl
  have g3 := d3.rowAt 3 rfl
  have hw3 := d3.capOne 2 rfl
  have hlw := (d3.capRs 2 rfl).rd.len
  refine Holds.mp ?_
  -- what is given is handed back
  have back : ∀ H', Dq cv nb si H H' [.row H.next ⟨26, true, [.int .i64 n, v]⟩, .row (H.next + 1) ⟨26, true, [.int .i64 0, .slice none 0 0]⟩] → BadS cv nb si v k l H (.agg #[.int .i64 n, v]) (H'.setCells (H.next + 1) [.int .i64 n, v]) := fun H' d => by
    have d' := d.putRow 1 rfl (cs' := [.int .i64 n, v])
    exact ⟨n, k, v, l, rfl, ⟨by omega, by omega⟩, by omega, hV.bad hn.2, [], Dq.left (L := []) d', .inl ⟨rfl, rfl, rfl⟩⟩
  by_cases c0 : (x : Int) = 0
  · have f0 : ((x : Int) == 0) = true := beq_iff_eq.2 c0
    have zz5 : zeros 5 [.int .i64 0] = [.int .i64 0, .int .i64 0, .int .i64 0, .int .i64 0, .int .i64 0] := rfl
    simp (config := {maxSteps := 3000000}) (disch := first | omega | (simp only [L3] <;> omega)) only [Sall,evalOp,init,binA_s,binE,binI,unE,convE,okNil,builtE,gv,TD.isAgg,resV,↓reduceIte,Nat.reduceEqDiff,reduceCtorEq,Nat.reduceAdd,Nat.reduceMul,Nat.reduceLeDiff,za0,za2,Int.reduceEq,Int.reduceLT,Int.reduceLE,Nat.reduceLT,tiA,tiXA, f0, g0, g1, g3, hone, w64, zz5]
    refine (pickL [1, 15, 0, -1, (n : Int) + 1] 5 rfl (by omega) (by omega) d3 hsi hc hsc hnb).ex ?_
    rintro p H5 ⟨hp, d4⟩
    have hp2 : -1 ≤ p ∧ p ≤ 15 := by
      simp only [List.mem_cons, List.not_mem_nil, or_false] at hp
      omega
    have g1' := d4.rowAt 1 rfl
    have g3' := d4.rowAt 3 rfl
    have hw4 := d4.capOne 2 rfl
    have ne1 : ¬ H.next + 1 = rt := by
      obtain ⟨B, b, o⟩ := d4.ex
      exact o.ne (j := 1) (k := 3) rfl rfl (by omega) (fun S h => h.1) (fun S h => h.1)
    have ne2 : ¬ rt = H.next + 1 := fun e => ne1 e.symm
    have d5 := (d4.putRow 3 rfl (cs' := [.int .i64 p, w])).putRow 1 rfl (cs' := [.int .i64 p, w])
    refine Holds.mp ?_
    try simp (disch := first | omega | (simp only [L3] <;> omega)) only [Sall,evalOp,init,binA_s,binE,binI,unE,convE,okNil,builtE,gv,TD.isAgg,resV,↓reduceIte,Nat.reduceEqDiff,reduceCtorEq,Nat.reduceAdd,Nat.reduceMul,Nat.reduceLeDiff,za0,za2,Int.reduceEq,Int.reduceLT,Int.reduceLE,Nat.reduceLT,tiA,tiXA, g1', g3', hw4, ne1, ne2]
    exact ⟨p, k, w, l, rfl, hp2, by omega, hV.bad hn.2, [_], d5.sub1 2 rfl, .inr rfl⟩
  have f0 : ((x : Int) == 0) = false := beq_eq_false_iff_ne.2 c0
  by_cases c1 : (x : Int) = 1
  · have f1 : ((x : Int) == 1) = true := beq_iff_eq.2 c1
    by_cases hk0 : 0 < k
    · have f2 : decide ((0 : Int) < (k : Int)) = true := decide_eq_true (by omega)
      obtain ⟨B3, b3, o3⟩ := id d3.ex
      obtain ⟨wi, rest, _, _, rfl, hwr⟩ := o3.capGet 2 rfl hk0
      have hll := o3.capLen 2 rfl
      rw [za1] at hll
      have hl14 : (l.take 14).length = 14 := by rw [List.length_take]; omega
      have sg : seg (ints l ++ rest) 0 14 = ints (l.take 14) := by
        simp only [seg, List.drop_zero]
        rw [List.take_append_of_le_length (by rw [za1]; omega)]
        simp [ints, List.map_take]
      have lg : 14 ≤ (ints l ++ rest).length := by rw [List.length_append, za1]; omega
      try simp (disch := first | omega | (simp only [L3] <;> omega)) only [Sall,evalOp,init,binA_s,binE,binI,unE,convE,okNil,builtE,gv,TD.isAgg,resV,↓reduceIte,Nat.reduceEqDiff,reduceCtorEq,Nat.reduceAdd,Nat.reduceMul,Nat.reduceLeDiff,za0,za2,Int.reduceEq,Int.reduceLT,Int.reduceLE,Nat.reduceLT,tiA,tiXA, f0, f1, g3, hw3, builtE, hlw, f2, Int.toNat_zero, hwr, sg, lg, hl14]
      have d4 := (d3.push ⟨67, true, ints (List.replicate 14 0)⟩).putRow 4 rfl (cs' := ints (l.take 14))
      obtain ⟨rk, erk⟩ : ∃ rk, rk = H4.next := ⟨_, rfl⟩
      rw [← erk] at d4 ⊢
      have nwk : ¬ wi = rk := by omega
      have hwr4 : ((H4.push ⟨67, true, ints (List.replicate 14 0)⟩).setCells rk (ints (l.take 14))).row wi = some ⟨67, true, ints l ++ rest⟩ := by
        rw [AH.setCells_row, if_neg nwk, AH.push_row, if_neg (by omega)]; exact hwr
      have d4 : Dq cv nb si H ((H4.push ⟨67, true, ints (List.replicate 14 0)⟩).setCells rk (ints (l.take 14))) [.row H.next ⟨26, true, [.int .i64 n, v]⟩, .row (H.next + 1) ⟨26, true, [.int .i64 0, .slice none 0 0]⟩, .cap 14 67 (.slice (some ⟨wi, 0, some 14⟩) k k) k (ints l), .row rt ⟨26, true, [.int .i64 n, .slice (some ⟨wi, 0, some 14⟩) k k]⟩, .row rk ⟨67, true, ints (l.take 14)⟩] := d4
      generalize (H4.push ⟨67, true, ints (List.replicate 14 0)⟩).setCells rk (ints (l.take 14)) = H5 at d4 hwr4 ⊢
      refine ⟨by omega, ?_⟩
      refine (nextD 14 d4 hsi hc hsc hnb (by omega)).ex ?_
      rintro y H6 ⟨hy, d5⟩
      have zz4 : zeros 4 [.int .i64 0] = [.int .i64 0, .int .i64 0, .int .i64 0, .int .i64 0] := rfl
      refine Holds.mp ?_
      try simp (disch := first | omega | (simp only [L3] <;> omega)) only [Sall,evalOp,init,binA_s,binE,binI,unE,convE,okNil,builtE,gv,TD.isAgg,resV,↓reduceIte,Nat.reduceEqDiff,reduceCtorEq,Nat.reduceAdd,Nat.reduceMul,Nat.reduceLeDiff,za0,za2,Int.reduceEq,Int.reduceLT,Int.reduceLE,Nat.reduceLT,tiA,tiXA, zz4]
      refine (pickL [1, 0, -1, 14] 4 rfl (by omega) (by omega) d5 hsi hc hsc hnb).ex ?_
      rintro p H7 ⟨hp, d6⟩
      have hp2 : -1 ≤ p ∧ p ≤ 14 := by
        simp only [List.mem_cons, List.not_mem_nil, or_false] at hp
        omega
      obtain ⟨B7, b7, o7⟩ := id d6.ex
      obtain ⟨wi', rest', _, _, ew, hwr7⟩ := o7.capGet 2 rfl hk0
      cases ew
      have g1' := d6.rowAt 1 rfl
      have g3' := d6.rowAt 3 rfl
      have g4 := d6.rowAt 4 rfl
      have cm : ∀ S, (Th.cap 14 67 (.slice (some ⟨wi, 0, some 14⟩) k k) k (ints l)).p H7 S → S wi := fun S h => by
        rcases h.2 with ⟨_, h1⟩ | ⟨i', _, h1, h2, _⟩
        · cases h1
        · cases h2; exact h1
      have n1 : ¬ rt = rk := o7.ne (j := 3) (k := 4) rfl rfl (by omega) (fun S h => h.1) (fun S h => h.1)
      have n2 : ¬ wi = rk := o7.ne (j := 2) (k := 4) rfl rfl (by omega) cm (fun S h => h.1)
      have n3 : ¬ rt = wi := o7.ne (j := 3) (k := 2) rfl rfl (by omega) (fun S h => h.1) cm
      have n4 : ¬ H.next + 1 = wi := o7.ne (j := 1) (k := 2) rfl rfl (by omega) (fun S h => h.1) cm
      have n5 : ¬ H.next + 1 = rk := o7.ne (j := 1) (k := 4) rfl rfl (by omega) (fun S h => h.1) (fun S h => h.1)
      have n6 : ¬ rk = wi := fun e => n2 e.symm
      have d7 := d6.putRow 4 rfl (cs' := ints ((l.take 14).set y p))
      have hwr8 : (H7.setCells rk (ints ((l.take 14).set y p))).row wi = some ⟨67, true, ints l ++ rest'⟩ := by rw [AH.setCells_row, if_neg n2]; exact hwr7
      have yn : ((y : Nat) : Int).toNat = y := rfl
      obtain ⟨r2, er⟩ : ∃ r2, r2 = (l.take 14).set y p := ⟨_, rfl⟩
      rw [← er] at d7 hwr8
      have hr14 : r2.length = 14 := by rw [er, List.length_set]; exact hl14
      have hr2 : ∀ x, x ∈ r2 ++ l.drop 14 → -1 ≤ x ∧ x ≤ 14 := by
        intro x hx
        rcases List.mem_append.1 hx with h | h
        · rw [er] at h
          rcases List.mem_or_eq_of_mem_set h with h | h
          · exact hV.bad hn.2 x (List.mem_of_mem_take h)
          · rw [h]; exact hp2
        · exact hV.bad hn.2 x (List.mem_of_mem_drop h)
      have lg' : 14 ≤ (ints l ++ rest').length := by rw [List.length_append, za1]; omega
      have hsp : splice (ints l ++ rest') 0 (ints r2) = ints (r2 ++ l.drop 14) ++ rest' := by
        unfold splice
        rw [List.take_zero, List.nil_append, za1, hr14, Nat.zero_add, List.drop_append_of_le_length (by rw [za1]; omega), ← zaK, List.append_assoc]
        simp [ints, List.map_drop]
      have hl' : (r2 ++ l.drop 14).length = l.length := by rw [List.length_append, List.length_drop, hr14]; omega
      obtain ⟨B8, b8, o8⟩ := id d7.ex
      have d8 : Dq cv nb si H ((H7.setCells rk (ints r2)).setCells wi (ints (r2 ++ l.drop 14) ++ rest')) [.row H.next ⟨26, true, [.int .i64 n, v]⟩, .row (H.next + 1) ⟨26, true, [.int .i64 0, .slice none 0 0]⟩, .cap 14 67 (.slice (some ⟨wi, 0, some 14⟩) k k) k (ints (r2 ++ l.drop 14)), .row rt ⟨26, true, [.int .i64 n, .slice (some ⟨wi, 0, some 14⟩) k k]⟩, .row rk ⟨67, true, ints r2⟩] :=
        ⟨⟨B8, b8, o8.capPut 2 rfl hwr8 (by rw [za1, za1, hl'])⟩⟩
      have d9 := d8.putRow 1 rfl (cs' := [.int .i64 n, .slice (some ⟨wi, 0, some 14⟩) k k])
      have hset : (ints (l.take 14)).set y (.int .i64 p) = ints r2 := by rw [er, zaR]
      refine Holds.mp ?_
      try simp (disch := first | omega | (simp only [L3] <;> omega)) only [Sall,evalOp,init,binA_s,binE,binI,unE,convE,okNil,builtE,gv,TD.isAgg,resV,↓reduceIte,Nat.reduceEqDiff,reduceCtorEq,Nat.reduceAdd,Nat.reduceMul,Nat.reduceLeDiff,za0,za2,Int.reduceEq,Int.reduceLT,Int.reduceLE,Nat.reduceLT,tiA,tiXA, g4, hl14, hset, hr14, g3', g1', hwr7, n1, n2, n3, n4, n5, n6, Int.toNat_zero, lg', hsp]
      (repeat refine And.intro (by omega) ?_)
      exact ⟨n, k, _, _, rfl, ⟨by omega, by omega⟩, by omega, hr2, [_], d9.sub1 2 rfl, .inr rfl⟩
    · have f2 : decide ((0 : Int) < (k : Int)) = false := decide_eq_false (by omega)
      try simp (disch := first | omega | (simp only [L3] <;> omega)) only [Sall,evalOp,init,binA_s,binE,binI,unE,convE,okNil,builtE,gv,TD.isAgg,resV,↓reduceIte,Nat.reduceEqDiff,reduceCtorEq,Nat.reduceAdd,Nat.reduceMul,Nat.reduceLeDiff,za0,za2,Int.reduceEq,Int.reduceLT,Int.reduceLE,Nat.reduceLT,tiA,tiXA, f0, f1, g0, g1, g3, hw3, builtE, hlw, f2, hone]
      exact back _ (Dq.left (L := [_, _]) d3)
  have f1 : ((x : Int) == 1) = false := beq_eq_false_iff_ne.2 c1
  by_cases c2 : (x : Int) = 2
  · have f2 : ((x : Int) == 2) = true := beq_iff_eq.2 c2
    try simp (disch := first | omega | (simp only [L3] <;> omega)) only [Sall,evalOp,init,binA_s,binE,binI,unE,convE,okNil,builtE,gv,TD.isAgg,resV,↓reduceIte,Nat.reduceEqDiff,reduceCtorEq,Nat.reduceAdd,Nat.reduceMul,Nat.reduceLeDiff,za0,za2,Int.reduceEq,Int.reduceLT,Int.reduceLE,Nat.reduceLT,tiA,tiXA, f0, f1, f2]
    refine za5 (fun z t H' => ∃ (k' : Nat) (w' : Value) (l' : List Int), z = 41 - k' ∧ k' ≤ 41 ∧ t 3 = .pointer (some ⟨H.next, 0, none⟩) ∧ t 4 = .pointer (some ⟨H.next + 1, 0, none⟩) ∧ t 5 = .pointer (some ⟨rt, 0, none⟩) ∧ VL n l' ∧ Dq cv nb si H H' [.row H.next ⟨26, true, [.int .i64 n, v]⟩, .row (H.next + 1) ⟨26, true, [.int .i64 0, .slice none 0 0]⟩, .cap 14 67 w' k' (ints l'), .row rt ⟨26, true, [.int .i64 n, w']⟩]) (41 - k) ?_ ?_
    · refine ⟨k, w, l, rfl, by omega, ?_⟩
      try simp (disch := first | omega | (simp only [L3] <;> omega)) only [Sall,evalOp,init,binA_s,binE,binI,unE,convE,okNil,builtE,gv,TD.isAgg,resV,↓reduceIte,Nat.reduceEqDiff,reduceCtorEq,Nat.reduceAdd,Nat.reduceMul,Nat.reduceLeDiff,za0,za2,Int.reduceEq,Int.reduceLT,Int.reduceLE,Nat.reduceLT,tiA,tiXA, true_and]
      exact ⟨hV, d3⟩
    · rintro z t H' ⟨k', w', l', hz, hk', h3, h4, h5, hV', d4⟩
      have p0 := d4.rowAt 0 rfl
      have p1 := d4.rowAt 1 rfl
      have p3 := d4.rowAt 3 rfl
      have hw4 := d4.capOne 2 rfl
      have hlw4 := (d4.capRs 2 rfl).rd.len
      try simp (disch := first | omega | (simp only [L3] <;> omega)) only [Sall,evalOp,init,binA_s,binE,binI,unE,convE,okNil,builtE,gv,TD.isAgg,resV,↓reduceIte,Nat.reduceEqDiff,reduceCtorEq,Nat.reduceAdd,Nat.reduceMul,Nat.reduceLeDiff,za0,za2,Int.reduceEq,Int.reduceLT,Int.reduceLE,Nat.reduceLT,tiA,tiXA, h5, p3, hw4, builtE, hlw4]
      refine za4 (fun hh => ?_) (fun hh => ?_)
      · try simp (disch := first | omega | (simp only [L3] <;> omega)) only [Sall,evalOp,init,binA_s,binE,binI,unE,convE,okNil,builtE,gv,TD.isAgg,resV,↓reduceIte,Nat.reduceEqDiff,reduceCtorEq,Nat.reduceAdd,Nat.reduceMul,Nat.reduceLeDiff,za0,za2,Int.reduceEq,Int.reduceLT,Int.reduceLE,Nat.reduceLT,tiA,tiXA, true_and]
        refine zb2 (by kernel_rfl) (by kernel_rfl) ?_
        try simp (disch := first | omega | (simp only [L3] <;> omega)) only [Sall,evalOp,init,binA_s,binE,binI,unE,convE,okNil,builtE,gv,TD.isAgg,resV,↓reduceIte,Nat.reduceEqDiff,reduceCtorEq,Nat.reduceAdd,Nat.reduceMul,Nat.reduceLeDiff,za0,za2,Int.reduceEq,Int.reduceLT,Int.reduceLE,Nat.reduceLT,tiA,tiXA, h3, h5, p0, p3, hw4, hone]
        refine (freeS_c n (by omega) H').to ?_
        have hfl := zaJ (n : Int)
        refine ⟨.inr (.inr (LE.refl _)), ?_⟩
        try simp (disch := first | omega | (simp only [L3] <;> omega)) only [Sall,evalOp,init,binA_s,binE,binI,unE,convE,okNil,builtE,gv,TD.isAgg,resV,↓reduceIte,Nat.reduceEqDiff,reduceCtorEq,Nat.reduceAdd,Nat.reduceMul,Nat.reduceLeDiff,za0,za2,Int.reduceEq,Int.reduceLT,Int.reduceLE,Nat.reduceLT,tiA,tiXA, h5, hfl, zaL, zbT]
        (repeat refine And.intro (by omega) ?_)
        refine ⟨.inr (.inr (d4.sc.le _)), ?_⟩
        refine (d4.tmp ⟨67, true, ints (freeL n)⟩).appC 2 (c := 1) (ms := ints (freeL n)) rfl rfl (by omega) (by rw [za1, hfl]) (by omega) (by decide) (by omega) ?_
        intro v' H10 d10
        rw [zaK] at d10
        have q3 := d10.rowAt 3 rfl
        have hv' := d10.capOne 2 rfl
        refine ⟨.inr (.inl (by kernel_rfl)), ?_⟩
        try simp (disch := first | omega | (simp only [L3] <;> omega)) only [Sall,evalOp,init,binA_s,binE,binI,unE,convE,okNil,builtE,gv,TD.isAgg,resV,↓reduceIte,Nat.reduceEqDiff,reduceCtorEq,Nat.reduceAdd,Nat.reduceMul,Nat.reduceLeDiff,za0,za2,Int.reduceEq,Int.reduceLT,Int.reduceLE,Nat.reduceLT,tiA,tiXA, h5, q3, hv']
        have d11 := d10.putRow 3 rfl (cs' := [.int .i64 n, v'])
        refine ⟨.inr (.inl (by kernel_rfl)), ?_⟩
        try simp (disch := first | omega | (simp only [L3] <;> omega)) only [Sall,evalOp,init,binA_s,binE,binI,unE,convE,okNil,builtE,gv,TD.isAgg,resV,↓reduceIte,Nat.reduceEqDiff,reduceCtorEq,Nat.reduceAdd,Nat.reduceMul,Nat.reduceLeDiff,za0,za2,Int.reduceEq,Int.reduceLT,Int.reduceLE,Nat.reduceLT,tiA,tiXA, h3, h4, h5]
        exact ⟨41 - (k' + 1), by omega, k' + 1, v', _, rfl, by omega, hV'.app (freeVL (by omega)), d11⟩
      · have d5 := d4.putRow 1 rfl (cs' := [.int .i64 n, w'])
        try simp (disch := first | omega | (simp only [L3] <;> omega)) only [Sall,evalOp,init,binA_s,binE,binI,unE,convE,okNil,builtE,gv,TD.isAgg,resV,↓reduceIte,Nat.reduceEqDiff,reduceCtorEq,Nat.reduceAdd,Nat.reduceMul,Nat.reduceLeDiff,za0,za2,Int.reduceEq,Int.reduceLT,Int.reduceLE,Nat.reduceLT,tiA,tiXA, h4, h5, p1, p3, hw4]
        exact ⟨n, k', w', l', rfl, ⟨by omega, by omega⟩, hk', hV'.bad hn.2, [_], d5.sub1 2 rfl, .inr rfl⟩
  have f2 : ((x : Int) == 2) = false := beq_eq_false_iff_ne.2 c2
  try simp (disch := first | omega | (simp only [L3] <;> omega)) only [Sall,evalOp,init,binA_s,binE,binI,unE,convE,okNil,builtE,gv,TD.isAgg,resV,↓reduceIte,Nat.reduceEqDiff,reduceCtorEq,Nat.reduceAdd,Nat.reduceMul,Nat.reduceLeDiff,za0,za2,Int.reduceEq,Int.reduceLT,Int.reduceLE,Nat.reduceLT,tiA,tiXA, f0, f1, f2, g0, g1, hone]
  exact back _ (Dq.left (L := [_, _]) d3)
end Go.Proofs.YtemgclojolmhbaaGreat.A
end

section
set_option maxRecDepth 100000
set_option maxHeartbeats 2000000
namespace Go.Proofs.YtemgclojolmhbaaGreat.A
open Go Go.Abs Go.RowKit
theorem zgT {P : Program} {a b c d : Code} {Q : Exit → T → AH → Prop} {t : T} {H : AH} (M : T → AH → Prop) (h : awp P (a.seq (b.seq c)) (seqQ M Q) t H) (k : ∀ t H, M t H → awp P d Q t H) : awp P (a.seq (b.seq (c.seq d))) Q t H := by
  rw [zeR] at h ⊢
  refine zbP a _ _ t H (fun e t H h => ?_) h
  cases e with
  | normal =>
    simp only [zcZ] at h ⊢
    rw [zeR] at h ⊢
    refine zbP b _ _ t H (fun e t H h => ?_) h
    cases e with
    | normal =>
      simp only [zcZ] at h ⊢
      rw [zeR]
      refine zbP c _ _ t H (fun e t H h => ?_) h
      cases e with
      | normal => exact k _ _ h
      | _ => exact h
    | _ => exact h
  | _ => exact h
theorem Ow.four {B H : AH} {a b c d : Th} (o : Ow B H [a, b, c, d]) : Ow B H [a, d, c] :=
  o.sub (fun j => ([0, 3, 2] : List Nat).getD j 9) (fun j hj => by
    have hj : j < 3 := hj
    rcases j with _ | _ | _ | j <;> first | rfl | omega) (fun x y hx hy h => by
    have hh : ∀ x, x < 3 → ∀ y, y < 3 → ([0, 3, 2] : List Nat).getD x 9 = ([0, 3, 2] : List Nat).getD y 9 → x = y := by decide
    exact hh x hx y hy h)
end Go.Proofs.YtemgclojolmhbaaGreat.A
end

section
set_option maxRecDepth 100000
set_option maxHeartbeats 2000000
namespace Go.Proofs.YtemgclojolmhbaaGreat.A
open Go Go.Abs Go.RowKit
def EvL (ll : List (List Int)) : Prop := ll.length ≤ 64 ∧ ∀ r ∈ ll, r.length ≤ 64
theorem EvL.nil : EvL [] := ⟨by simp, by simp⟩
theorem EvL.app {ll mm : List (List Int)} (h : EvL ll) (k : EvL mm) (hl : ll.length + mm.length ≤ 64) : EvL (ll ++ mm) := ⟨by simp; omega, fun r hr => by
  rcases List.mem_append.1 hr with h1 | h1
  · exact h.2 r h1
  · exact k.2 r h1⟩
end Go.Proofs.YtemgclojolmhbaaGreat.A
end

section
set_option maxRecDepth 100000
set_option maxHeartbeats 2000000
namespace Go.Proofs.YtemgclojolmhbaaGreat.A
open Go Go.Abs Go.RowKit
theorem Dq.sees {cv : Value} {nb si : Nat} {H H' : AH} {L : List Th} (h : Dq cv nb si H H' L) (k : Nat) {Q : AH → Prop} (hk : L[k]? = some (.see Q)) : Q H' := by
  obtain ⟨B, b, o⟩ := h.ex
  exact o.sees k hk
theorem EvL.made {n m : Nat} {y : List Int} (hm : m ≤ 64) (hy : y.length ≤ 64) : EvL (madeL m y m) := ⟨by rw [madeL_length]; exact hm, fun r hr => by
  unfold madeL at hr
  rw [List.mem_map] at hr
  obtain ⟨i, _, rfl⟩ := hr
  rw [mdL_length]; exact hy⟩
end Go.Proofs.YtemgclojolmhbaaGreat.A
end

section
set_option maxRecDepth 100000
set_option maxHeartbeats 2000000
namespace Go.Proofs.YtemgclojolmhbaaGreat.A
open Go Go.Abs Go.RowKit
theorem Dq.seesX {cv : Value} {nb si : Nat} {H H' : AH} {L : List Th} (h : Dq cv nb si H H' L) (hsi : si < H.next) (k : Nat) {Q : AH → Prop} (hk : L[k]? = some (.see Q)) : ∀ H2, (∀ i r, H.next ≤ i → i ≠ si → H'.row i = some r → H2.row i = some r) → Q H2 := by
  obtain ⟨B, b, o⟩ := h.ex
  obtain ⟨S, hS, hp⟩ := o.at hk
  intro H2 h2
  exact hp H2 fun i r hi hr => h2 i r (by have := hS i hi; have := b.next; omega) (by have := hS i hi; have := b.next; omega) hr
theorem Dq.laterP {cv : Value} {nb si : Nat} {H H' : AH} {L : List Th} (h : Dq cv nb si H H' L) (hsi : si < H.next) (k : Nat) {p : Th} (hk : L[k]? = some p) : ∀ H2, (∀ i r, H.next ≤ i → i ≠ si → H'.row i = some r → H2.row i = some r) → ∃ S, p.p H2 S := by
  obtain ⟨B, b, o⟩ := h.ex
  obtain ⟨S, hS, hp⟩ := o.at hk
  intro H2 h2
  exact ⟨S, p.loc H' H2 S S (fun _ h => h) (fun i r hi hr => h2 i r (by have := hS i hi; have := b.next; omega) (by have := hS i hi; have := b.next; omega) hr) hp⟩
end Go.Proofs.YtemgclojolmhbaaGreat.A
end

section
set_option maxRecDepth 100000
set_option maxHeartbeats 2000000
namespace Go.Proofs.YtemgclojolmhbaaGreat.A
open Go Go.Abs Go.RowKit
theorem awp_cut5 {P : Program} {a b c d e f : Code} {Q : Exit → T → AH → Prop} {t : T} {H : AH} (M : T → AH → Prop) (h : awp P (a.seq (b.seq (c.seq (d.seq e)))) (seqQ M Q) t H) (k : ∀ t H, M t H → awp P f Q t H) : awp P (a.seq (b.seq (c.seq (d.seq (e.seq f))))) Q t H := by
  rw [zeR] at h ⊢
  refine zbP a _ _ t H (fun e t H h => ?_) h
  cases e with
  | normal =>
    simp only [zcZ] at h ⊢
    rw [zeR] at h ⊢
    refine zbP b _ _ t H (fun e t H h => ?_) h
    cases e with
    | normal => exact zgT M h k
    | _ => exact h
  | _ => exact h
theorem Dq.lowEq {cv : Value} {nb si : Nat} {H H' : AH} {L : List Th} (h : Dq cv nb si H H' L) {i : Nat} (hi : i < H.next) (hs : i ≠ si) : H'.row i = H.row i := by
  obtain ⟨B, b, o⟩ := h.ex
  rw [o.low i (by rw [b.next]; exact hi), b.row i hs]
theorem Dq.shift {cv : Value} {nb si : Nat} {H H' : AH} {L : List Th} (h : Dq cv nb si H H' L) {i : Nat} (hi : i < H.next) (cs : List Value) : ∃ B, B.next = H.next ∧ Ow B (H'.setCells i cs) L := by
  obtain ⟨B, b, o⟩ := h.ex
  have hb := b.next
  refine ⟨⟨B.next, fun j => (H'.setCells i cs).row j⟩, hb, o.sc.set _ _, o.next, fun j hj => rfl, ?_⟩
  obtain ⟨w, hw⟩ := o.own
  refine ⟨w, fun k p hk => p.loc H' _ _ _ (fun j hj => hj) (fun j r hj hr => ?_) (hw k p hk)⟩
  have : B.next ≤ j := hj.1
  rw [AH.setCells_row, if_neg (by omega)]; exact hr
theorem Dq.rsx {cv : Value} {nb si : Nat} {H H' : AH} {L : List Th} (d : Dq cv nb si H H' L) (hsi : si < H.next) (k : Nat) {z n : Nat} {ty : TypeId} {v : Value} {l : List Int} (hk : L[k]? = some (.cap z ty v n (ints l))) : RsX si z H' v n l := fun H2 h2 => by
  obtain ⟨B, b, o⟩ := d.ex
  obtain ⟨S, hS, hp⟩ := o.at hk
  have hp2 := (Th.cap z ty v n (ints l)).loc H' H2 S S (fun _ h => h) (fun i r hi hr => h2 i r (by have := (hS i hi).1; have := b.next; omega) hr) hp
  refine ⟨cap_rs hp2, fun i o u m c e => ?_⟩
  rcases hp2.2 with ⟨_, h1⟩ | ⟨i', rest, _, h1, h3⟩
  · rw [e] at h1; cases h1
  · rw [e] at h1; cases h1
    exact ⟨_, h3, Nat.zero_le _⟩
theorem Ow.capRow {B H : AH} {L : List Th} (h : Ow B H L) (k : Nat) {z n : Nat} {ty : TypeId} {v : Value} {vs : List Value} (hk : L[k]? = some (.cap z ty v n vs)) : ∀ i o s n c, v = .slice (some ⟨i, o, s⟩) n c → ∃ r, H.row i = some r ∧ o ≤ r.cells.length := by
  obtain ⟨S, _, hp⟩ := h.at hk
  intro i o s n c e
  rcases hp.2 with ⟨_, h1⟩ | ⟨i', rest, _, h1, h2⟩
  · rw [h1] at e; cases e
  · rw [h1] at e; cases e
    exact ⟨_, h2, Nat.zero_le _⟩
theorem pickM {cv : Value} {nb si : Nat} {H Hp : AH} {L : List Th} (ls : List Int) (m : Nat) (hm : ls.length = m) (hm0 : 0 < m) (hm1 : m ≤ 100) (d : Dq cv nb si H Hp L) (hsi : si < H.next) (hc : CodeX cv nb si H) (hsc : Sc H) (hnb : nb ≤ 4611686018427387904) :
    ACalls Tryz.prog 30 [.pointer (some ⟨si, 0, none⟩), .slice (some ⟨Hp.next, 0, some 1⟩) m m] (Hp.push ⟨2, true, ints ls⟩) (fun v H' => ∃ x : Int, v = .int .i64 x ∧ x ∈ ls ∧ (∀ i, i ≠ si → i < Hp.next → H'.row i = Hp.row i) ∧ Dq cv nb si H H' L) := by
  have d6 : Dq cv nb si H (Hp.push ⟨2, true, ints ls⟩) L := d.tmp _
  have d7 : Dq cv nb si H (Hp.push ⟨2, true, ints ls⟩) (L ++ [.sl 1 2 (.slice (some ⟨Hp.next, 0, some 1⟩) m m) m (ints ls)]) := d.map fun B o => o.pushSl (by rw [za1, hm, Nat.mul_one])
  refine (pickD (k := L.length) (ty := 2) (ls := ls) d7 hsi hc hsc hnb (by simp) ⟨hm0, hm1⟩).mono ?_
  rintro v H' ⟨x, h1, h2, h3⟩
  exact ⟨x, h1, h2, fun i i1 i2 => by rw [h3.row i i1, AH.push_row, if_neg (by omega)], d6.next hsi h3⟩
theorem Rs.later {z n : Nat} {H H' : AH} {v : Value} {l : List Int} (h : Rs z H v n l) (hs : ∀ i r, H.row i = some r → H'.row i = some r) : Rs z H' v n l := h.same hs
end Go.Proofs.YtemgclojolmhbaaGreat.A
end

section
set_option maxRecDepth 100000
set_option maxHeartbeats 2000000
namespace Go.Proofs.YtemgclojolmhbaaGreat.A
open Go Go.Abs Go.RowKit
theorem codeUp {cv : Value} {nb : Nat} {H H' : AH} (h : CodeOk H cv nb) (k : ∀ i r, H.row i = some r → H'.row i = some r) : CodeOk H' cv nb := by
  rcases h with h | ⟨i, o, u, c, r, q1, q2, q3⟩
  · exact .inl h
  · exact .inr ⟨i, o, u, c, r, q1, k _ _ q2, q3⟩
end Go.Proofs.YtemgclojolmhbaaGreat.A
end

section
set_option maxRecDepth 100000
set_option maxHeartbeats 2000000
namespace Go.Proofs.YtemgclojolmhbaaGreat.A
open Go Go.Abs Go.RowKit
theorem zi3 {P : Program} {a b c d e : Code} {Q : Exit → T → AH → Prop} {t : T} {H : AH} (M : T → AH → Prop) (h : awp P (a.seq (b.seq (c.seq d))) (seqQ M Q) t H) (k : ∀ t H, M t H → awp P e Q t H) : awp P (a.seq (b.seq (c.seq (d.seq e)))) Q t H := by
  rw [zeR] at h ⊢
  refine zbP a _ _ t H (fun e t H h => ?_) h
  cases e with
  | normal => exact zgT M h k
  | _ => exact h
structure UpTo (n c : Nat) (y : List Int) : Prop where
  len : y.length = n
  lo : ∀ j, j < c → 1 ≤ y.getD j 0 ∧ y.getD j 0 ≤ (n : Int)
  hi : ∀ j, c ≤ j → j < n → 0 ≤ y.getD j 0 ∧ y.getD j 0 < (n : Int)
theorem UpTo.zero {n : Nat} {y : List Int} (h : PermL n y) : UpTo n 0 y := ⟨h.len, fun j hj => by omega, fun j _ hj => h.rng _ (by rw [List.getD_eq_getElem?_getD, List.getElem?_eq_getElem (by rw [h.len]; exact hj)]; exact List.getElem_mem _)⟩
theorem zcE {y : List Int} {c j : Nat} {x : Int} (hc : c < y.length) : (y.set c x).getD j 0 = if j = c then x else y.getD j 0 := by
  rw [List.getD_eq_getElem?_getD, List.getD_eq_getElem?_getD, List.getElem?_set]
  by_cases e : c = j
  · subst e; simp [hc]
  · rw [if_neg e, if_neg (fun h => e h.symm)]
theorem UpTo.succ {n c : Nat} {y : List Int} (h : UpTo n c y) (hc : c < n) : UpTo n (c + 1) (y.set c (y.getD c 0 + 1)) := by
  have hl := h.len
  refine ⟨by rw [List.length_set]; exact hl, fun j hj => ?_, fun j hj hn => ?_⟩
  · rw [zcE (by omega)]
    by_cases e : j = c
    · rw [if_pos e]; have := h.hi c (Nat.le_refl _) hc; omega
    · rw [if_neg e]; exact h.lo j (by omega)
  · rw [zcE (by omega), if_neg (by omega)]
    exact h.hi j (by omega) hn
theorem UpTo.rng {n : Nat} {y : List Int} (h : UpTo n n y) : ∀ x ∈ y, 1 ≤ x ∧ x ≤ (n : Int) := fun x hx => by
  obtain ⟨j, hj, rfl⟩ := List.mem_iff_getElem.1 hx
  have := h.lo j (by rw [h.len] at hj; exact hj)
  rw [List.getD_eq_getElem?_getD, List.getElem?_eq_getElem hj] at this
  exact this
def WithB (H : AH) (p : Int × Value) (H' : AH) : Prop :=
  ∃ (k : Nat) (l : List Int), (-1 ≤ p.1 ∧ p.1 ≤ 15) ∧ k ≤ 41 ∧ (∀ x, x ∈ l → -1 ≤ x ∧ x ≤ 14) ∧ (∀ H2, (∀ i r, H.next ≤ i → H'.row i = some r → H2.row i = some r) → Rd 14 H2 p.2 k l) ∧ Ow H H' []
def DrawnB (H : AH) (r : Value) (H' : AH) : Prop := ∃ p : Int × Value, r = .agg #[.int .i64 p.1, p.2] ∧ WithB H p H'
theorem Ow.three {B H : AH} {a b c : Th} (o : Ow B H [a, b, c]) : Ow B H [c, b] :=
  o.sub (fun j => ([2, 1] : List Nat).getD j 9) (fun j hj => by
    have hj : j < 2 := hj
    rcases j with _ | _ | j <;> first | rfl | omega) (fun x y hx hy h => by
    have hh : ∀ x, x < 2 → ∀ y, y < 2 → ([2, 1] : List Nat).getD x 9 = ([2, 1] : List Nat).getD y 9 → x = y := by decide
    exact hh x hx y hy h)
end Go.Proofs.YtemgclojolmhbaaGreat.A
end

section
set_option maxRecDepth 100000
set_option maxHeartbeats 4000000
namespace Go.Proofs.YtemgclojolmhbaaGreat.A
open Go Go.Abs Go.RowKit
structure VnL (n : Nat) (ll : List (List Int)) : Prop where
  len : ll.length ≤ 40
  row : ∀ i, i < ll.length → (ll.getD i []).length = n ∧ ∀ x ∈ ll.getD i [], -1 ≤ x ∧ x ≤ 1
theorem VnL.set {n : Nat} {ll : List (List Int)} (h : VnL n ll) {i a : Nat} {x : Int} (hx : -1 ≤ x ∧ x ≤ 1) : VnL n (ll.set i ((ll.getD i []).set a x)) := by
  refine ⟨by rw [List.length_set]; exact h.len, fun j hj => ?_⟩
  rw [List.length_set] at hj
  by_cases e : j = i
  · subst e
    have e2 : (ll.set j ((ll.getD j []).set a x)).getD j [] = (ll.getD j []).set a x := by simp [List.getD_eq_getElem?_getD, hj]
    rw [e2, List.length_set]
    refine ⟨(h.row j hj).1, fun y hy => ?_⟩
    rcases List.mem_or_eq_of_mem_set hy with h1 | h1
    · exact (h.row j hj).2 y h1
    · rw [h1]; exact hx
  · have e2 : (ll.set i ((ll.getD i []).set a x)).getD j [] = ll.getD j [] := by simp [List.getD_eq_getElem?_getD, List.getElem?_set, Ne.symm e]
    rw [e2]; exact h.row j hj
theorem VnL.fst (n k : Nat) (l : List Int) (hk : k ≤ 40) : VnL n (fstV n k l) := by
  refine ⟨by simp [fstV]; exact hk, fun i hi => ?_⟩
  have hi : i < k := by simpa [fstV] using hi
  have e : (fstV n k l).getD i [] = fstR n (rnd l i) := by simp [fstV, List.getD_eq_getElem?_getD, hi]
  rw [e]
  refine ⟨by simp [fstR], fun x hx => ?_⟩
  unfold fstR at hx
  rw [List.mem_map] at hx
  obtain ⟨a, _, rfl⟩ := hx
  split
  · omega
  · split <;> omega
theorem VnL.cv {n : Nat} (h : 2 ≤ n ∧ n ≤ 14) (he : n % 2 = 0) : VnL n (cvL n) := by
  obtain ⟨h1, _, _⟩ := cv_ok h he
  obtain ⟨h2, h3⟩ := zd9 h1
  refine ⟨by rw [h2]; omega, fun i hi => ?_⟩
  obtain ⟨h4, h5⟩ := h3 i (by omega)
  refine ⟨h4, fun x hx => ?_⟩
  obtain ⟨j, hj, rfl⟩ := List.mem_iff_getElem.1 hx
  have := h5 j (by omega)
  rw [List.getD_eq_getElem?_getD (l := (cvL n).getD i []), List.getElem?_eq_getElem hj] at this
  exact this
def DrawnV (n k : Nat) (cv : Value) (nb si : Nat) (H : AH) (v : Value) (H' : AH) : Prop := ∃ ll, VnL n ll ∧ (0 < k → 0 < ll.length) ∧ Dq cv nb si H H' [.sl2 (Value.int .i64) 33 2 v ll]
theorem aggI_ints2 (l : List Int) : aggI (ints l) = l := by
  unfold aggI ints
  rw [List.map_map]
  exact List.map_id l
theorem zd4 (cv : Value) (nb si n k : Nat) (v : Value) (l : List Int) (H : AH) (hn : 2 ≤ n ∧ n ≤ 14) (hk : k ≤ 40) (hV : VL n l) (hv : RsX si 14 H v k l) (hnb : nb ≤ 4611686018427387904) (hs : Src cv nb si H) (hc : CodeX cv nb si H) :
    ACalls Tryz.prog 53 [.pointer (some ⟨si, 0, none⟩), .agg #[.int .i64 n, v]] H (DrawnV n k cv nb si H) := by
  refine ACalls.wf (by kernel_rfl) fun hsc => za3 [.tmp 4] Tryz.func53 (by kernel_rfl) rfl rfl (Nat.le_of_ble_eq_true rfl) (by kernel_rfl) ?_
  obtain ⟨_, _, hrow, _⟩ := id hs
  have hsi := hsc _ _ hrow
  clear hrow
  have hrd := (hv H fun _ _ _ h => h).1.rd
  have hone := hrd.one
  have hlv := hrd.len
  have d0 := (Dq.start hs hsc).push ⟨26, true, [.int .i64 n, v]⟩
  have hVb : ∀ i, i < k → ∀ a, a < n → 0 ≤ (rnd l i).getD a 0 ∧ (rnd l i).getD a 0 < (n : Int) := fun i hi a ha => by
    have hl : (rnd l i).length = 14 := zbF l i k hrd.1 hi
    exact (rndVL hV).getD (by omega)
  refine zgT (fun t H' => ∃ (w : Value) (ll : List (List Int)), t 0 = .pointer (some ⟨si, 0, none⟩) ∧ t 3 = .pointer (some ⟨H.next, 0, none⟩) ∧ t 5 = w ∧ ll.length = k ∧ VnL n ll ∧ Dq cv nb si H H' [.row H.next ⟨26, true, [.int .i64 n, v]⟩, .sl2 (Value.int .i64) 33 2 w ll]) ?_ ?_
  · try simp (disch := first | omega | (simp only [L3] <;> omega)) only [Sall,evalOp,init,binA_s,binE,binI,unE,convE,okNil,builtE,gv,TD.isAgg,resV,↓reduceIte,Nat.reduceEqDiff,reduceCtorEq,Nat.reduceAdd,Nat.reduceMul,Nat.reduceLeDiff,za0,za2,Int.reduceEq,Int.reduceLT,Int.reduceLE,Nat.reduceLT,tiA,tiXA, hone]
    generalize H.push ⟨26, true, [.int .i64 n, v]⟩ = H1 at d0 ⊢
    have g0 : H1.row H.next = _ := d0.rowAt 0 rfl
    try simp (disch := first | omega | (simp only [L3] <;> omega)) only [Sall,evalOp,init,binA_s,binE,binI,unE,convE,okNil,builtE,gv,TD.isAgg,resV,↓reduceIte,Nat.reduceEqDiff,reduceCtorEq,Nat.reduceAdd,Nat.reduceMul,Nat.reduceLeDiff,za0,za2,Int.reduceEq,Int.reduceLT,Int.reduceLE,Nat.reduceLT,tiA,tiXA, g0, hone]
    refine (l05FirstV_c n v k l H1 (by omega) (by omega) (fun i hi a ha => by have := hVb i hi a ha; omega) (hv H1 (d0.old hsc)).1.rd).mono ?_
    intro w H2 o2
    have hw := (o2.rd2 0 rfl).one
    have d1 := d0.calls o2
    have g1 : H2.row H.next = _ := d1.rowAt 0 rfl
    have r2 : ((n : Int)).tmod 2 = ((n % 2 : Nat) : Int) := rfl
    refine Holds.mp ?_
    have hfl : (fstV n k l).length = k := by simp [fstV]
    have hVf := VnL.fst n k l hk
    by_cases hpar : n % 2 = 0
    rotate_left
    · have f0 : (((n % 2 : Nat) : Int) == 0) = false := beq_eq_false_iff_ne.2 (by omega)
      try simp (disch := first | omega | (simp only [L3] <;> omega)) only [Sall,evalOp,init,binA_s,binE,binI,unE,convE,okNil,builtE,gv,TD.isAgg,resV,↓reduceIte,Nat.reduceEqDiff,reduceCtorEq,Nat.reduceAdd,Nat.reduceMul,Nat.reduceLeDiff,za0,za2,Int.reduceEq,Int.reduceLT,Int.reduceLE,Nat.reduceLT,tiA,tiXA, hw, g1, r2, f0]
      exact ⟨w, fstV n k l, rfl, hfl, hVf, d1⟩
    have f0 : (((n % 2 : Nat) : Int) == 0) = true := by rw [hpar]; rfl
    try simp (disch := first | omega | (simp only [L3] <;> omega)) only [Sall,evalOp,init,binA_s,binE,binI,unE,convE,okNil,builtE,gv,TD.isAgg,resV,↓reduceIte,Nat.reduceEqDiff,reduceCtorEq,Nat.reduceAdd,Nat.reduceMul,Nat.reduceLeDiff,za0,za2,Int.reduceEq,Int.reduceLT,Int.reduceLE,Nat.reduceLT,tiA,tiXA, hw, g1, r2, f0]
    refine (nextD 3 d1 hsi hc hsc hnb (by omega)).ex ?_
    rintro y H3 ⟨hy, d2⟩
    have d2 : Dq cv nb si H H3 [.row H.next ⟨26, true, [.int .i64 n, v]⟩, .sl2 (Value.int .i64) 33 2 w (fstV n k l)] := d2
    have g2 := d2.rowAt 0 rfl
    refine Holds.mp ?_
    by_cases c0 : (y : Int) = 0
    rotate_left
    · have f1 : ((y : Int) == 0) = false := beq_eq_false_iff_ne.2 c0
      try simp (disch := first | omega | (simp only [L3] <;> omega)) only [Sall,evalOp,init,binA_s,binE,binI,unE,convE,okNil,builtE,gv,TD.isAgg,resV,↓reduceIte,Nat.reduceEqDiff,reduceCtorEq,Nat.reduceAdd,Nat.reduceMul,Nat.reduceLeDiff,za0,za2,Int.reduceEq,Int.reduceLT,Int.reduceLE,Nat.reduceLT,tiA,tiXA, f1]
      exact ⟨w, fstV n k l, rfl, hfl, hVf, d2⟩
    have f1 : ((y : Int) == 0) = true := beq_iff_eq.2 c0
    try simp (disch := first | omega | (simp only [L3] <;> omega)) only [Sall,evalOp,init,binA_s,binE,binI,unE,convE,okNil,builtE,gv,TD.isAgg,resV,↓reduceIte,Nat.reduceEqDiff,reduceCtorEq,Nat.reduceAdd,Nat.reduceMul,Nat.reduceLeDiff,za0,za2,Int.reduceEq,Int.reduceLT,Int.reduceLE,Nat.reduceLT,tiA,tiXA, f1, g2, hone]
    refine (zhY n v k l H3 (hv H3 (d2.old hsc)).1.rd (by omega)).to ?_
    refine Holds.mp ?_
    cases hb : schedB n k l with
    | false =>
      try simp (disch := first | omega | (simp only [L3] <;> omega)) only [Sall,evalOp,init,binA_s,binE,binI,unE,convE,okNil,builtE,gv,TD.isAgg,resV,↓reduceIte,Nat.reduceEqDiff,reduceCtorEq,Nat.reduceAdd,Nat.reduceMul,Nat.reduceLeDiff,za0,za2,Int.reduceEq,Int.reduceLT,Int.reduceLE,Nat.reduceLT,tiA,tiXA, true_and]
      exact ⟨w, fstV n k l, rfl, hfl, hVf, d2⟩
    | true =>
      try simp (disch := first | omega | (simp only [L3] <;> omega)) only [Sall,evalOp,init,binA_s,binE,binI,unE,convE,okNil,builtE,gv,TD.isAgg,resV,↓reduceIte,Nat.reduceEqDiff,reduceCtorEq,Nat.reduceAdd,Nat.reduceMul,Nat.reduceLeDiff,za0,za2,Int.reduceEq,Int.reduceLT,Int.reduceLE,Nat.reduceLT,tiA,tiXA, g2]
      refine (ACalls.scz (zdE n hn H3)).ex ?_
      rintro u H4 ⟨⟨up4, fr4⟩, sc4⟩
      have o4 := Ow.of_fr up4 sc4 fr4
      have hu := o4.one 0 rfl
      have d3 := ((d2.calls o4).push ⟨26, true, [.int .i64 0, .slice none 0 0]⟩).putRow 3 rfl (cs' := [.int .i64 n, u])
      have d3 : Dq cv nb si H ((H4.push ⟨26, true, [.int .i64 0, .slice none 0 0]⟩).setCells H4.next [.int .i64 n, u]) [.row H.next ⟨26, true, [.int .i64 n, v]⟩, .sl2 (Value.int .i64) 33 2 w (fstV n k l), .sl 14 67 u (oddUp n) (ints (zaW n (oddUp n))), .row H4.next ⟨26, true, [.int .i64 n, u]⟩] := d3
      refine Holds.mp ?_
      try simp (disch := first | omega | (simp only [L3] <;> omega)) only [Sall,evalOp,init,binA_s,binE,binI,unE,convE,okNil,builtE,gv,TD.isAgg,resV,↓reduceIte,Nat.reduceEqDiff,reduceCtorEq,Nat.reduceAdd,Nat.reduceMul,Nat.reduceLeDiff,za0,za2,Int.reduceEq,Int.reduceLT,Int.reduceLE,Nat.reduceLT,tiA,tiXA, hu]
      obtain ⟨ri, eri⟩ : ∃ ri, ri = H4.next := ⟨_, rfl⟩
      rw [← eri] at d3 ⊢
      generalize (H4.push ⟨26, true, [.int .i64 0, .slice none 0 0]⟩).setCells ri [.int .i64 n, u] = H5 at d3 ⊢
      have g3 := d3.rowAt 0 rfl
      have g4 := d3.rowAt 3 rfl
      have hlu := (d3.rd 2 rfl).len
      have back : Dq cv nb si H H5 [.row H.next ⟨26, true, [.int .i64 n, v]⟩, .sl2 (Value.int .i64) 33 2 w (fstV n k l)] := d3.map fun B o => o.pick2 0 1 rfl rfl (by omega)
      by_cases hle : oddUp n = k
      rotate_left
      · have f2 : (((oddUp n : Nat) : Int) == (k : Int)) = false := beq_eq_false_iff_ne.2 (by omega)
        try simp (disch := first | omega | (simp only [L3] <;> omega)) only [Sall,evalOp,init,binA_s,binE,binI,unE,convE,okNil,builtE,gv,TD.isAgg,resV,↓reduceIte,Nat.reduceEqDiff,reduceCtorEq,Nat.reduceAdd,Nat.reduceMul,Nat.reduceLeDiff,za0,za2,Int.reduceEq,Int.reduceLT,Int.reduceLE,Nat.reduceLT,tiA,tiXA, g3, g4, hu, hone, builtE, hlu, hlv, f2]
        exact ⟨w, fstV n k l, rfl, hfl, hVf, back⟩
      have f2 : (((oddUp n : Nat) : Int) == (k : Int)) = true := by rw [hle]; exact beq_self_eq_true _
      try simp (disch := first | omega | (simp only [L3] <;> omega)) only [Sall,evalOp,init,binA_s,binE,binI,unE,convE,okNil,builtE,gv,TD.isAgg,resV,↓reduceIte,Nat.reduceEqDiff,reduceCtorEq,Nat.reduceAdd,Nat.reduceMul,Nat.reduceLeDiff,za0,za2,Int.reduceEq,Int.reduceLT,Int.reduceLE,Nat.reduceLT,tiA,tiXA, g3, g4, hu, hone, builtE, hlu, hlv, f2]
      refine za5 (fun m t H' => H' = H5 ∧ ∃ (i : Nat) (b : Bool), m = k - i ∧ i ≤ k ∧ t 8 = .int .i64 i ∧ t 7 = .bool b ∧ t 6 = .pointer (some ⟨ri, 0, none⟩) ∧ t 3 = .pointer (some ⟨H.next, 0, none⟩) ∧ t 0 = .pointer (some ⟨si, 0, none⟩) ∧ t 5 = w) k ?_ ?_
      · refine ⟨rfl, 0, true, by omega, by omega, ?_⟩
        try simp (disch := first | omega | (simp only [L3] <;> omega)) only [Sall,evalOp,init,binA_s,binE,binI,unE,convE,okNil,builtE,gv,TD.isAgg,resV,↓reduceIte,Nat.reduceEqDiff,reduceCtorEq,Nat.reduceAdd,Nat.reduceMul,Nat.reduceLeDiff,za0,za2,Int.reduceEq,Int.reduceLT,Int.reduceLE,Nat.reduceLT,tiA,tiXA, Int.natCast_zero]
      · rintro m t H' ⟨eH, i, b, hm, hi, h8, h7, h6, h3, h0, h5⟩
        rw [eH]
        clear eH H'
        rw [hle] at hlu
        try simp (disch := first | omega | (simp only [L3] <;> omega)) only [Sall,evalOp,init,binA_s,binE,binI,unE,convE,okNil,builtE,gv,TD.isAgg,resV,↓reduceIte,Nat.reduceEqDiff,reduceCtorEq,Nat.reduceAdd,Nat.reduceMul,Nat.reduceLeDiff,za0,za2,Int.reduceEq,Int.reduceLT,Int.reduceLE,Nat.reduceLT,tiA,tiXA, h8, h6, g4, builtE, hlu]
        refine za4 (fun hh => ?_) (fun hh => ?_)
        · have hik : i < k := by omega
          have hru := d3.rd 2 rfl
          rw [hle] at hru
          have hrv := (hv H5 (d3.old hsc)).1.rd
          obtain ⟨ui, uo, uu, uc, ur, eu, u1, u2, u3, u4⟩ := hru.get (by omega)
          obtain ⟨qi, qo, qu, qc, qr, ev, q1, q2, q3, q4⟩ := hrv.get (by omega)
          have hsu := u4 (i * 14) 14 (by omega)
          have hsv := q4 (i * 14) 14 (by omega)
          have hl1 : (((zaW n k).drop (i * 14)).take 14).length = 14 := zbF _ i k hru.1 hik
          have hl2 : ((l.drop (i * 14)).take 14).length = 14 := zbF _ i k hrv.1 hik
          have gi : (0 : Int) ≤ (i : Int) := by omega
          have gi2 : (i : Int) < (k : Int) := by omega
          have wi : IntKind.i64.wrap ((i : Int) + 1) = ((i + 1 : Nat) : Int) := w64 ⟨by omega, by omega⟩
          cases b with
          | false =>
            try simp (disch := first | omega | (simp only [L3] <;> omega)) only [Sall,evalOp,init,binA_s,binE,binI,unE,convE,okNil,builtE,gv,TD.isAgg,resV,↓reduceIte,Nat.reduceEqDiff,reduceCtorEq,Nat.reduceAdd,Nat.reduceMul,Nat.reduceLeDiff,za0,za2,Int.reduceEq,Int.reduceLT,Int.reduceLE,Nat.reduceLT,tiA,tiXA, h7, h8, h6, h3]
            refine zb2 (by kernel_rfl) (by kernel_rfl) ?_
            try simp (disch := first | omega | (simp only [L3] <;> omega)) only [Sall,evalOp,init,binA_s,binE,binI,unE,convE,okNil,builtE,gv,TD.isAgg,resV,↓reduceIte,Nat.reduceEqDiff,reduceCtorEq,Nat.reduceAdd,Nat.reduceMul,Nat.reduceLeDiff,za0,za2,Int.reduceEq,Int.reduceLT,Int.reduceLE,Nat.reduceLT,tiA,tiXA, h7, h8, h6, h3, h0, h5, wi]
            exact ⟨k - (i + 1), by omega, i + 1, false, rfl, by omega, rfl, rfl⟩
          | true =>
            try simp (disch := first | omega | (simp only [L3] <;> omega)) only [Sall,evalOp,init,binA_s,binE,binI,unE,convE,okNil,builtE,gv,TD.isAgg,resV,↓reduceIte,Nat.reduceEqDiff,reduceCtorEq,Nat.reduceAdd,Nat.reduceMul,Nat.reduceLeDiff,za0,za2,Int.reduceEq,Int.reduceLT,Int.reduceLE,Nat.reduceLT,tiA,tiXA, h7, h8, h6, h3]
            refine zb2 (by kernel_rfl) (by kernel_rfl) ?_
            try simp (disch := first | omega | (simp only [L3] <;> omega)) only [Sall,evalOp,init,binA_s,binE,binI,unE,convE,okNil,builtE,gv,TD.isAgg,resV,↓reduceIte,Nat.reduceEqDiff,reduceCtorEq,Nat.reduceAdd,Nat.reduceMul,Nat.reduceLeDiff,za0,za2,Int.reduceEq,Int.reduceLT,Int.reduceLE,Nat.reduceLT,tiA,tiXA, h7, h8, h6, h3, g4, g3, eu, ev, u1, q1, hsu, hsv, gi, gi2, arrE, aggI_ints2, hl1, hl2, wi]
            exact ⟨by omega, by omega, ⟨by kernel_rfl, rfl, rfl⟩, k - (i + 1), by omega, i + 1, _, rfl, by omega, rfl, rfl, h0, h5⟩
        · have hie : i = k := by omega
          cases b with
          | false =>
            try simp (disch := first | omega | (simp only [L3] <;> omega)) only [Sall,evalOp,init,binA_s,binE,binI,unE,convE,okNil,builtE,gv,TD.isAgg,resV,↓reduceIte,Nat.reduceEqDiff,reduceCtorEq,Nat.reduceAdd,Nat.reduceMul,Nat.reduceLeDiff,za0,za2,Int.reduceEq,Int.reduceLT,Int.reduceLE,Nat.reduceLT,tiA,tiXA, h7]
            exact ⟨w, fstV n k l, h0, h3, h5, hfl, hVf, back⟩
          | true =>
            try simp (disch := first | omega | (simp only [L3] <;> omega)) only [Sall,evalOp,init,binA_s,binE,binI,unE,convE,okNil,builtE,gv,TD.isAgg,resV,↓reduceIte,Nat.reduceEqDiff,reduceCtorEq,Nat.reduceAdd,Nat.reduceMul,Nat.reduceLeDiff,za0,za2,Int.reduceEq,Int.reduceLT,Int.reduceLE,Nat.reduceLT,tiA,tiXA, h7, h3, g3]
            refine (zf3 n hn hpar H5).mono ?_
            intro w' H6 o6
            have hw' := (o6.rd2 0 rfl).one
            refine Holds.mp ?_
            try simp (disch := first | omega | (simp only [L3] <;> omega)) only [Sall,evalOp,init,binA_s,binE,binI,unE,convE,okNil,builtE,gv,TD.isAgg,resV,↓reduceIte,Nat.reduceEqDiff,reduceCtorEq,Nat.reduceAdd,Nat.reduceMul,Nat.reduceLeDiff,za0,za2,Int.reduceEq,Int.reduceLT,Int.reduceLE,Nat.reduceLT,tiA,tiXA, hw']
            exact ⟨cvL n, VnL.cv hn hpar, fun _ => by simp [cvL]; omega, (d3.calls o6).sub1 4 rfl⟩
  · rintro t H3 ⟨w, ll, h0, h3, h5, hlk, hVn, d3⟩
    try simp (disch := first | omega | (simp only [L3] <;> omega)) only [Sall,evalOp,init,binA_s,binE,binI,unE,convE,okNil,builtE,gv,TD.isAgg,resV,↓reduceIte,Nat.reduceEqDiff,reduceCtorEq,Nat.reduceAdd,Nat.reduceMul,Nat.reduceLeDiff,za0,za2,Int.reduceEq,Int.reduceLT,Int.reduceLE,Nat.reduceLT,tiA,tiXA, true_and]
    refine za5 (fun m t H' => ∃ (i : Nat) (ll : List (List Int)), m = k - i ∧ i ≤ k ∧ t 9 = .int .i64 i ∧ t 0 = .pointer (some ⟨si, 0, none⟩) ∧ t 3 = .pointer (some ⟨H.next, 0, none⟩) ∧ t 5 = w ∧ ll.length = k ∧ VnL n ll ∧ Dq cv nb si H H' [.row H.next ⟨26, true, [.int .i64 n, v]⟩, .sl2 (Value.int .i64) 33 2 w ll]) k ?_ ?_
    · refine ⟨0, ll, by omega, by omega, ?_⟩
      try simp (disch := first | omega | (simp only [L3] <;> omega)) only [Sall,evalOp,init,binA_s,binE,binI,unE,convE,okNil,builtE,gv,TD.isAgg,resV,↓reduceIte,Nat.reduceEqDiff,reduceCtorEq,Nat.reduceAdd,Nat.reduceMul,Nat.reduceLeDiff,za0,za2,Int.reduceEq,Int.reduceLT,Int.reduceLE,Nat.reduceLT,tiA,tiXA, Int.natCast_zero]
      exact ⟨h0, h3, h5, hlk, hVn, d3⟩
    · clear h0 h3 h5 hlk hVn d3 ll
      rintro m t H4 ⟨i, ll, hm, hi, h9, h0, h3, h5, hlk, hVn, d4⟩
      have hlw := (d4.rd2 1 rfl).len
      rw [hlk] at hlw
      try simp (disch := first | omega | (simp only [L3] <;> omega)) only [Sall,evalOp,init,binA_s,binE,binI,unE,convE,okNil,builtE,gv,TD.isAgg,resV,↓reduceIte,Nat.reduceEqDiff,reduceCtorEq,Nat.reduceAdd,Nat.reduceMul,Nat.reduceLeDiff,za0,za2,Int.reduceEq,Int.reduceLT,Int.reduceLE,Nat.reduceLT,tiA,tiXA, h9, h5, builtE, hlw]
      refine za4 (fun hh => ?_) (fun hh => ?_)
      · have hik : i < k := by omega
        have gi : (0 : Int) ≤ (i : Int) := by omega
        have gi2 : (i : Int) < (k : Int) := by omega
        obtain ⟨B, hB, o4⟩ := id d4.ex
        obtain ⟨wi, vs, x, hwi, _, ew, hr, hvl, hxx, hx1, hq⟩ := o4.get2 1 rfl (j := i) (by omega)
        have hws : wi ≠ si := by have := hB.next; omega
        rw [hlk] at ew hvl
        rw [(hVn.row i (by omega)).1] at hq
        obtain ⟨q, _, _, qi, rfl, hqr⟩ := hq (by omega)
        try simp (disch := first | omega | (simp only [L3] <;> omega)) only [Sall,evalOp,init,binA_s,binE,binI,unE,convE,okNil,builtE,gv,TD.isAgg,resV,↓reduceIte,Nat.reduceEqDiff,reduceCtorEq,Nat.reduceAdd,Nat.reduceMul,Nat.reduceLeDiff,za0,za2,Int.reduceEq,Int.reduceLT,Int.reduceLE,Nat.reduceLT,tiA,tiXA, h9, h5, ew, hr, hxx, gi, gi2, hvl]
        refine za5 (fun m' t Hx => ∃ (a : Nat) (ll : List (List Int)), m' = n - a ∧ a ≤ n ∧ t 11 = .int .i64 a ∧ t 10 = .slice (some ⟨q, 0, some 1⟩) n n ∧ t 9 = .int .i64 i ∧ t 0 = .pointer (some ⟨si, 0, none⟩) ∧ t 3 = .pointer (some ⟨H.next, 0, none⟩) ∧ t 5 = w ∧ ll.length = k ∧ VnL n ll ∧ Hx.row wi = some ⟨33, true, vs⟩ ∧ Dq cv nb si H Hx [.row H.next ⟨26, true, [.int .i64 n, v]⟩, .sl2 (Value.int .i64) 33 2 w ll]) n ?_ ?_
        · refine ⟨0, ll, by omega, by omega, ?_⟩
          try simp (disch := first | omega | (simp only [L3] <;> omega)) only [Sall,evalOp,init,binA_s,binE,binI,unE,convE,okNil,builtE,gv,TD.isAgg,resV,↓reduceIte,Nat.reduceEqDiff,reduceCtorEq,Nat.reduceAdd,Nat.reduceMul,Nat.reduceLeDiff,za0,za2,Int.reduceEq,Int.reduceLT,Int.reduceLE,Nat.reduceLT,tiA,tiXA, Int.natCast_zero, h9, h0, h3, ← ew]
          exact ⟨h5, hlk, hVn, hr, d4⟩
        · clear h9 h0 h3 h5 hlk hVn d4 o4 hr hlw hqr hq hwi hB ll
          rintro m' t Hx ⟨a, ll, hm', ha, h11, h10, h9, h0, h3, h5, hlk, hVn, hr, d5⟩
          have g0 := d5.rowAt 0 rfl
          try simp (disch := first | omega | (simp only [L3] <;> omega)) only [Sall,evalOp,init,binA_s,binE,binI,unE,convE,okNil,builtE,gv,TD.isAgg,resV,↓reduceIte,Nat.reduceEqDiff,reduceCtorEq,Nat.reduceAdd,Nat.reduceMul,Nat.reduceLeDiff,za0,za2,Int.reduceEq,Int.reduceLT,Int.reduceLE,Nat.reduceLT,tiA,tiXA, h11, h3, g0]
          refine za4 (fun hh2 => ?_) (fun hh2 => ?_)
          · have han : a < n := by omega
            have hrdv := (hv Hx (d5.old hsc)).1.rd
            obtain ⟨yi, yo, yu, yc, yr, ey, y1, y2, y3, y4⟩ := hrdv.get (by omega)
            obtain ⟨c1, c2⟩ := hVb i hik a han
            obtain ⟨b, eb⟩ : ∃ b : Nat, (rnd l i).getD a 0 = b := ⟨((rnd l i).getD a 0).toNat, by omega⟩
            rw [eb] at c1 c2
            have ka : yr.cells[yo + i * 14 + a]? = some (.int .i64 (b : Int)) := by
              have h3 := y3 (i * 14 + a) (by omega)
              rw [Nat.add_assoc, h3, ← eb]
              unfold rnd
              rw [List.getD_eq_getElem?_getD (l := List.take _ _), List.getElem?_take, if_pos (by omega), List.getElem?_drop, ← List.getD_eq_getElem?_getD]
            have ga : (0 : Int) ≤ (a : Int) := by omega
            have ga2 : (a : Int) < ((14 : Nat) : Int) := by omega
            have ga3 : (a : Int) < (n : Int) := by omega
            have gb : (0 : Int) ≤ (b : Int) := by omega
            have gb3 : (b : Int) < (n : Int) := by omega
            have wa : IntKind.i64.wrap ((a : Int) + 1) = ((a + 1 : Nat) : Int) := w64 ⟨by omega, by omega⟩
            have hdec : n - (a + 1) < m' := by omega
            by_cases hab : a < b
            rotate_left
            · have f0 : decide ((a : Int) < (b : Int)) = false := decide_eq_false (by omega)
              try simp (disch := first | omega | (simp only [L3] <;> omega)) only [Sall,evalOp,init,binA_s,binE,binI,unE,convE,okNil,builtE,gv,TD.isAgg,resV,↓reduceIte,Nat.reduceEqDiff,reduceCtorEq,Nat.reduceAdd,Nat.reduceMul,Nat.reduceLeDiff,za0,za2,Int.reduceEq,Int.reduceLT,Int.reduceLE,Nat.reduceLT,tiA,tiXA, h3, g0, h9, h11, ey, y1, gi, gi2, ga, ga2, ka, f0, wa, hone]
              rw [← ey]
              exact ⟨n - (a + 1), hdec, a + 1, ll, rfl, by omega, rfl, h10, h0, h5, hlk, hVn, hr, d5⟩
            have f0 : decide ((a : Int) < (b : Int)) = true := decide_eq_true (by omega)
            try simp (disch := first | omega | (simp only [L3] <;> omega)) only [Sall,evalOp,init,binA_s,binE,binI,unE,convE,okNil,builtE,gv,TD.isAgg,resV,↓reduceIte,Nat.reduceEqDiff,reduceCtorEq,Nat.reduceAdd,Nat.reduceMul,Nat.reduceLeDiff,za0,za2,Int.reduceEq,Int.reduceLT,Int.reduceLE,Nat.reduceLT,tiA,tiXA, h3, g0, h9, h11, ey, y1, gi, gi2, ga, ga2, ka, f0, h0, hone]
            refine (zc0 cv nb si 2 Hx (by omega) hnb (d5.src hsi) (d5.code hc hsc)).mono ?_
            rintro v6 H6 ⟨z, ev6, hz, hS⟩
            have d6 : Dq cv nb si H H6 [.row H.next ⟨26, true, [.int .i64 n, v]⟩, .sl2 (Value.int .i64) 33 2 w ll] := d5.next hsi hS
            have hr6 : H6.row wi = some ⟨33, true, vs⟩ := by rw [hS.row wi hws]; exact hr
            refine Holds.mp ?_
            by_cases z0 : (z : Int) = 0
            rotate_left
            · have f1 : ((z : Int) == 0) = false := beq_eq_false_iff_ne.2 z0
              try simp (disch := first | omega | (simp only [L3] <;> omega)) only [Sall,evalOp,init,binA_s,binE,binI,unE,convE,okNil,builtE,gv,TD.isAgg,resV,↓reduceIte,Nat.reduceEqDiff,reduceCtorEq,Nat.reduceAdd,Nat.reduceMul,Nat.reduceLeDiff,za0,za2,Int.reduceEq,Int.reduceLT,Int.reduceLE,Nat.reduceLT,tiA,tiXA, ev6, f1, h11, wa]
              exact ⟨n - (a + 1), hdec, a + 1, ll, rfl, by omega, rfl, h10, h9, h0, h3, h5, hlk, hVn, hr6, d6⟩
            have f1 : ((z : Int) == 0) = true := beq_iff_eq.2 z0
            obtain ⟨B, hB, o6⟩ := id d6.ex
            obtain ⟨wi', vs', x', _, _, ew', hr', hvl', hxx', hx1', hq⟩ := o6.get2 1 rfl (j := i) (by omega)
            rw [ew, hlk] at ew'
            simp only [Value.slice.injEq, Option.some.injEq, Addr.mk.injEq] at ew'
            obtain ⟨⟨rfl, _⟩, _⟩ := ew'
            rw [hr6] at hr'
            simp only [Option.some.injEq, Row.mk.injEq, true_and] at hr'
            subst hr'
            rw [hxx] at hxx'
            have hxx' := Option.some.inj hxx'
            rw [(hVn.row i (by omega)).1] at hq
            obtain ⟨q', _, _, _, eq', hqr⟩ := hq (by omega)
            rw [← hxx'] at eq'
            simp only [Value.slice.injEq, Option.some.injEq, Addr.mk.injEq] at eq'
            obtain ⟨⟨rfl, _⟩, _⟩ := eq'
            have hqr : H6.row q = some ⟨2, true, ints (ll.getD i [])⟩ := hqr
            have hal : a < (ll.getD i []).length := by rw [(hVn.row i (by omega)).1]; exact han
            have hbl : b < ((ll.getD i []).set a 0).length := by rw [List.length_set, (hVn.row i (by omega)).1]; omega
            have hVn' := hVn.set (i := i) (a := a) (x := 0) (by omega)
            have e2 : (ll.set i ((ll.getD i []).set a 0)).getD i [] = (ll.getD i []).set a 0 := by simp [List.getD_eq_getElem?_getD, show i < ll.length by omega]
            have hVn2 := hVn'.set (i := i) (a := b) (x := 1) (by omega)
            rw [e2] at hVn2
            have e3 : (ll.set i ((ll.getD i []).set a 0)).set i (((ll.getD i []).set a 0).set b 1) = ll.set i (((ll.getD i []).set a 0).set b 1) := by rw [List.set_set]
            rw [e3] at hVn2
            try simp (disch := first | omega | (simp only [L3] <;> omega)) only [Sall,evalOp,init,binA_s,binE,binI,unE,convE,okNil,builtE,gv,TD.isAgg,resV,↓reduceIte,Nat.reduceEqDiff,reduceCtorEq,Nat.reduceAdd,Nat.reduceMul,Nat.reduceLeDiff,za0,za2,Int.reduceEq,Int.reduceLT,Int.reduceLE,Nat.reduceLT,tiA,tiXA, ev6, f1, h10, h11, hqr, ga, ga3, hal, gb, gb3, hbl, wa, zaR]
            have nwq : ¬ wi = q := Ne.symm qi
            rw [if_neg nwq, if_neg nwq]
            refine ⟨n - (a + 1), hdec, a + 1, ll.set i (((ll.getD i []).set a 0).set b 1), rfl, by omega, rfl, h9, h0, h3, h5, by rw [List.length_set]; exact hlk, hVn2, hr6, ?_⟩
            refine d6.map fun B o => ?_
            rw [ew] at o ⊢
            have o8 := o.set2 1 rfl (j := i) (by omega) (l' := (ll.getD i []).set a 0) (by rw [List.length_set]) hr6 hxx
            have o9 := o8.set2 1 rfl (j := i) (by rw [List.length_set]; omega) (l' := ((ll.getD i []).set a 0).set b 1) (by rw [e2]; rw [List.length_set]) (by rw [AH.setCells_row, if_neg nwq]; exact hr6) hxx
            rw [e3] at o9
            exact o9
          · have wi1 : IntKind.i64.wrap ((i : Int) + 1) = ((i + 1 : Nat) : Int) := w64 ⟨by omega, by omega⟩
            try simp (disch := first | omega | (simp only [L3] <;> omega)) only [Sall,evalOp,init,binA_s,binE,binI,unE,convE,okNil,builtE,gv,TD.isAgg,resV,↓reduceIte,Nat.reduceEqDiff,reduceCtorEq,Nat.reduceAdd,Nat.reduceMul,Nat.reduceLeDiff,za0,za2,Int.reduceEq,Int.reduceLT,Int.reduceLE,Nat.reduceLT,tiA,tiXA, h9, wi1]
            exact ⟨k - (i + 1), by omega, i + 1, ll, rfl, by omega, rfl, h0, h3, h5, hlk, hVn, d5⟩
      · try simp (disch := first | omega | (simp only [L3] <;> omega)) only [Sall,evalOp,init,binA_s,binE,binI,unE,convE,okNil,builtE,gv,TD.isAgg,resV,↓reduceIte,Nat.reduceEqDiff,reduceCtorEq,Nat.reduceAdd,Nat.reduceMul,Nat.reduceLeDiff,za0,za2,Int.reduceEq,Int.reduceLT,Int.reduceLE,Nat.reduceLT,tiA,tiXA, h5]
        exact ⟨ll, hVn, fun h => by omega, d4.sub1 1 rfl⟩
end Go.Proofs.YtemgclojolmhbaaGreat.A
end

section
set_option maxRecDepth 100000
set_option maxHeartbeats 4000000
namespace Go.Proofs.YtemgclojolmhbaaGreat.A
open Go Go.Abs Go.RowKit
structure VbL (ll : List (List Int)) : Prop where
  len : ll.length ≤ 41
  row : ∀ y ∈ ll, y.length ≤ 14 ∧ ∀ x ∈ y, -2 ≤ x ∧ x ≤ 2
theorem VnL.vb {n : Nat} {ll : List (List Int)} (h : VnL n ll) (hn : n ≤ 14) : VbL ll := by
  refine ⟨by have := h.len; omega, fun y hy => ?_⟩
  obtain ⟨i, hi, rfl⟩ := List.mem_iff_getElem.1 hy
  have h1 := h.row i hi
  rw [List.getD_eq_getElem?_getD, List.getElem?_eq_getElem hi] at h1
  have h1 : ll[i].length = n ∧ ∀ x ∈ ll[i], -1 ≤ x ∧ x ≤ 1 := h1
  exact ⟨by omega, fun x hx => by have := h1.2 x hx; omega⟩
theorem VbL.set {ll : List (List Int)} (h : VbL ll) {i : Nat} {l : List Int} (hl : l.length ≤ 14 ∧ ∀ x ∈ l, -2 ≤ x ∧ x ≤ 2) : VbL (ll.set i l) := by
  refine ⟨by rw [List.length_set]; exact h.len, fun y hy => ?_⟩
  rcases List.mem_or_eq_of_mem_set hy with h1 | h1
  · exact h.row y h1
  · rw [h1]; exact hl
def BadV (cv : Value) (nb si : Nat) (H : AH) (v : Value) (H' : AH) : Prop := ∃ ll, VbL ll ∧ Dq cv nb si H H' [.see fun H => Rd2 1 H v ll]
theorem Ow.cutFirst {B H : AH} {L : List Th} (h : Ow B H L) (k : Nat) {ty ty' : TypeId} {i m c q n : Nat} {ll : List (List Int)} {vs : List Value} (hk : L[k]? = some (.sl2 (Value.int .i64) ty ty' (.slice (some ⟨i, 0, some 1⟩) m c) ll)) (hl : 0 < ll.length)
    (hr : H.row i = some ⟨ty, true, vs⟩) (hx : vs[0]? = some (.slice (some ⟨q, 0, some 1⟩) n n)) (hn : (ll.getD 0 []).length = n) (hn0 : 0 < n) (c' : Nat) :
    Ow B (H.setCells i (vs.set 0 (.slice (some ⟨q, 1, some 1⟩) (n - 1) c'))) (L.set k (.see fun H => Rd2 1 H (.slice (some ⟨i, 0, some 1⟩) m c) (ll.set 0 ((ll.getD 0 []).drop 1)))) := by
  refine h.upd hk (Nat.le_refl _) (h.sc.set _ _) fun S hS hp => ?_
  rcases hp with ⟨rfl, _⟩ | ⟨i', vs', o, h1, h2, h3, h4, h5, h6⟩
  · simp at hl
  simp only [Value.slice.injEq, Option.some.injEq, Addr.mk.injEq] at h3
  obtain ⟨⟨rfl, _, _⟩, rfl, rfl⟩ := h3
  rw [hr] at h4
  simp only [Option.some.injEq, Row.mk.injEq, true_and] at h4
  subst h4
  refine ⟨fun z hz hzS => by rw [AH.setCells_row, if_neg (fun e => hzS (by rw [e]; exact h1))], fun S' hS' _ H2 h2' => ?_⟩
  have hri := h2' i ⟨ty, true, vs.set 0 (.slice (some ⟨q, 1, some 1⟩) (n - 1) c')⟩ (hS' i h1) (by rw [AH.setCells_row, if_pos rfl, hr]; rfl)
  refine .inr ⟨i, 0, some 1, _, _, by rw [List.length_set], hri, fun j hj => ?_⟩
  rw [List.length_set] at hj
  have keep : ∀ z r, S z → o z = j + 1 → H.row z = some r → H2.row z = some r := fun z r hz hoz hzr => h2' z r (hS' z hz) (by rw [AH.setCells_row, if_neg (fun e => by rw [e] at hoz; omega)]; exact hzr)
  obtain ⟨x, hx', hq⟩ := h6 j hj
  by_cases e : j = 0
  · subst e
    rw [hx] at hx'
    cases hx'
    have e1 : (ll.set 0 ((ll.getD 0 []).drop 1)).getD 0 [] = (ll.getD 0 []).drop 1 := by simp [List.getD_eq_getElem?_getD, hl]
    rw [e1]
    rcases hq.2 with ⟨h0, h7⟩ | ⟨q', q1, q2, q3⟩
    · cases h7
    · simp only [Value.slice.injEq, Option.some.injEq, Addr.mk.injEq] at q2
      obtain ⟨⟨rfl, _, _⟩, _⟩ := q2
      have q4 : H2.row q = some ⟨ty', true, ints (ll.getD 0 [])⟩ := keep q _ q1.1 q1.2 q3
      refine ⟨_, n - 1, by rw [Nat.zero_add, List.getElem?_set, if_pos rfl, if_pos (by omega)], by rw [List.length_drop, hn, Nat.mul_one], .inr ⟨q, 1, some 1, c', _, rfl, q4, ?_, ?_⟩⟩
      · show 1 + (n - 1) * 1 ≤ (ints (ll.getD 0 [])).length
        rw [za1, hn]; omega
      · show seg (ints (ll.getD 0 [])) 1 ((n - 1) * 1) = ints ((ll.getD 0 []).drop 1)
        rw [zfD, Nat.mul_one, List.take_of_length_le (by rw [List.length_drop, hn]; exact Nat.le_refl _)]
  · have e1 : (ll.set 0 ((ll.getD 0 []).drop 1)).getD j [] = ll.getD j [] := by simp [List.getD_eq_getElem?_getD, List.getElem?_set, Ne.symm e]
    rw [e1]
    refine ⟨x, (ll.getD j []).length, by rw [Nat.zero_add, List.getElem?_set, if_neg (fun h => e h.symm)]; exact hx', ?_⟩
    have hq' : (Th.sl 1 ty' x (ll.getD j []).length (ints (ll.getD j []))).p H2 (fun z => S z ∧ o z = j + 1) := (Th.sl 1 ty' x _ _).loc H H2 _ _ (fun _ h => h) (fun z r hz hzr => keep z r hz.1 hz.2 hzr) hq
    exact (cap_rs (ze1 hq')).rd
theorem l05Bad_c (cv : Value) (nb si n : Nat) (x : Value) (ll : List (List Int)) (H : AH) (hn : 2 ≤ n ∧ n ≤ 14) (hV : VnL n ll) (hx : ∀ H', (∀ i r, i ≠ si → H.row i = some r → H'.row i = some r) → Rd2 1 H' x ll) (hnb : nb ≤ 4611686018427387904) (hs : Src cv nb si H) (hc : CodeX cv nb si H) :
    ACalls Tryz.prog 94 [.pointer (some ⟨si, 0, none⟩), x] H (BadV cv nb si H) := by
  refine ACalls.wf (by kernel_rfl) fun hsc => za3 [.tmp 4] Tryz.func94 (by kernel_rfl) rfl rfl (Nat.le_of_ble_eq_true rfl) (by kernel_rfl) ?_
  obtain ⟨_, _, hrow, _⟩ := id hs
  have hsi := hsc _ _ hrow
  clear hrow
  have hrd := hx H fun _ _ _ h => h
  have hone := hrd.one
  have d0 := Dq.start hs hsc
  have hll := hV.len
  have hb : ∀ (t : T) (H : AH), evalOp Tryz.prog t H (.buildSlice 33 5 #[(0, .const (.int .i64 (-1))), (1, .const (.int .i64 0)), (2, .const (.int .i64 1)), (3, .const (.int .i64 2)), (4, .const (.int .i64 (-2)))]) = .need (5 ≤ 16777216 ∧ 5 * 1 ≤ 16777216) (.val (.slice (some ⟨H.next, 0, some 1⟩) 5 5) (H.push ⟨2, true, ints [-1, 0, 1, 2, -2]⟩)) := fun t H => by kernel_rfl
  generalize (Op.buildSlice 33 5 #[(0, .const (.int .i64 (-1))), (1, .const (.int .i64 0)), (2, .const (.int .i64 1)), (3, .const (.int .i64 2)), (4, .const (.int .i64 (-2)))]) = bop at hb ⊢
  simp (config := {maxSteps := 3000000}) (disch := first | omega | (simp only [L3] <;> omega)) only [Sall,evalOp,init,binA_s,binE,binI,unE,convE,okNil,builtE,gv,TD.isAgg,resV,↓reduceIte,Nat.reduceEqDiff,reduceCtorEq,Nat.reduceAdd,Nat.reduceMul,Nat.reduceLeDiff,za0,za2,Int.reduceEq,Int.reduceLT,Int.reduceLE,Nat.reduceLT,tiA,tiXA, hone]
  refine (l05Own_c x ll H hrd (by omega) (fun i hi => by rw [(hV.row i hi).1]; omega)).mono ?_
  intro w H2 o2
  have hw := (o2.rd2 0 rfl).one
  have hlw := (o2.rd2 0 rfl).len
  have d1 : Dq cv nb si H H2 [.sl2 (Value.int .i64) 33 2 w ll] := d0.calls o2
  refine Holds.mp ?_
  simp (config := {maxSteps := 3000000}) (disch := first | omega | (simp only [L3] <;> omega)) only [Sall,evalOp,init,binA_s,binE,binI,unE,convE,okNil,builtE,gv,TD.isAgg,resV,↓reduceIte,Nat.reduceEqDiff,reduceCtorEq,Nat.reduceAdd,Nat.reduceMul,Nat.reduceLeDiff,za0,za2,Int.reduceEq,Int.reduceLT,Int.reduceLE,Nat.reduceLT,tiA,tiXA, hw]
  refine (nextD 24 d1 hsi hc hsc hnb (by omega)).ex ?_
  rintro y H3 ⟨hy, d2⟩
  have d2 : Dq cv nb si H H3 [.sl2 (Value.int .i64) 33 2 w ll] := d2
  refine Holds.mp ?_
  by_cases c0 : (y : Int) = 0
  · have f0 : ((y : Int) == 0) = true := beq_iff_eq.2 c0
    have o3 := d2.map fun B o => o.pushSl (k := 1) (n := 0) (ty := 2) (vs := ([] : List Int).map (Value.int .i64)) rfl
    have zz : zeros 1 [.slice none 0 0] = [.slice none 0 0] := rfl
    simp (config := {maxSteps := 3000000}) (disch := first | omega | (simp only [L3] <;> omega)) only [Sall,evalOp,init,binA_s,binE,binI,unE,convE,okNil,builtE,gv,TD.isAgg,resV,↓reduceIte,Nat.reduceEqDiff,reduceCtorEq,Nat.reduceAdd,Nat.reduceMul,Nat.reduceLeDiff,za0,za2,Int.reduceEq,Int.reduceLT,Int.reduceLE,Nat.reduceLT,tiA,tiXA, f0, zaV, zz, zaL]
    clear o3
    obtain ⟨B, hB, o⟩ := id d2.ex
    refine (((o.pushSl (k := 1) (n := 0) (ty := 2) (vs := ([] : List Int).map (Value.int .i64)) rfl)).tmp ⟨33, true, [.slice (some ⟨H3.next, 0, some 1⟩) 0 0]⟩).app2 (l := []) 0 1 rfl rfl (by omega) rfl (by decide) (by omega) ?_
    intro v' H6 n6 o7
    have hv' := (o7.rd2 0 rfl).one
    simp (config := {maxSteps := 3000000}) (disch := first | omega | (simp only [L3] <;> omega)) only [Sall,evalOp,init,binA_s,binE,binI,unE,convE,okNil,builtE,gv,TD.isAgg,resV,↓reduceIte,Nat.reduceEqDiff,reduceCtorEq,Nat.reduceAdd,Nat.reduceMul,Nat.reduceLeDiff,za0,za2,Int.reduceEq,Int.reduceLT,Int.reduceLE,Nat.reduceLT,tiA,tiXA, hv']
    refine ⟨ll ++ [[]], ⟨by rw [List.length_append]; show ll.length + 1 ≤ 41; omega, fun y hy => ?_⟩, ⟨⟨B, hB, (o7.toSee 0 rfl fun H S hp => zf0 hp).only 0 rfl⟩⟩⟩
    rcases List.mem_append.1 hy with h | h
    · exact (hV.vb (by omega)).row y h
    · rw [List.mem_singleton] at h; rw [h]; exact ⟨by simp, by simp⟩
  have f0 : ((y : Int) == 0) = false := beq_eq_false_iff_ne.2 c0
  have same : BadV cv nb si H w H3 := ⟨ll, hV.vb (by omega), d2.map fun B o => o.toSee 0 rfl fun H S hp => zf0 hp⟩
  by_cases hl0 : 0 < ll.length
  rotate_left
  · have f3 : decide ((0 : Int) < (ll.length : Int)) = false := decide_eq_false (by omega)
    by_cases c1 : (y : Int) = 1
    · have f1 : ((y : Int) == 1) = true := beq_iff_eq.2 c1
      simp (config := {maxSteps := 3000000}) (disch := first | omega | (simp only [L3] <;> omega)) only [Sall,evalOp,init,binA_s,binE,binI,unE,convE,okNil,builtE,gv,TD.isAgg,resV,↓reduceIte,Nat.reduceEqDiff,reduceCtorEq,Nat.reduceAdd,Nat.reduceMul,Nat.reduceLeDiff,za0,za2,Int.reduceEq,Int.reduceLT,Int.reduceLE,Nat.reduceLT,tiA,tiXA, f0, f1, builtE, hlw, f3, hw]
      exact same
    have f1 : ((y : Int) == 1) = false := beq_eq_false_iff_ne.2 c1
    by_cases c2 : (y : Int) = 2
    · have f2 : ((y : Int) == 2) = true := beq_iff_eq.2 c2
      simp (config := {maxSteps := 3000000}) (disch := first | omega | (simp only [L3] <;> omega)) only [Sall,evalOp,init,binA_s,binE,binI,unE,convE,okNil,builtE,gv,TD.isAgg,resV,↓reduceIte,Nat.reduceEqDiff,reduceCtorEq,Nat.reduceAdd,Nat.reduceMul,Nat.reduceLeDiff,za0,za2,Int.reduceEq,Int.reduceLT,Int.reduceLE,Nat.reduceLT,tiA,tiXA, f0, f1, f2, builtE, hlw, f3, hw]
      exact same
    have f2 : ((y : Int) == 2) = false := beq_eq_false_iff_ne.2 c2
    simp (config := {maxSteps := 3000000}) (disch := first | omega | (simp only [L3] <;> omega)) only [Sall,evalOp,init,binA_s,binE,binI,unE,convE,okNil,builtE,gv,TD.isAgg,resV,↓reduceIte,Nat.reduceEqDiff,reduceCtorEq,Nat.reduceAdd,Nat.reduceMul,Nat.reduceLeDiff,za0,za2,Int.reduceEq,Int.reduceLT,Int.reduceLE,Nat.reduceLT,tiA,tiXA, f0, f1, f2, hw]
    exact same
  have f3 : decide ((0 : Int) < (ll.length : Int)) = true := decide_eq_true (by omega)
  obtain ⟨B, hB, o4⟩ := id d2.ex
  obtain ⟨wi, vs, xq, hwi, _, ew, hr, hvl, hxx, hx1, hq⟩ := o4.get2 0 rfl (j := 0) hl0
  have hws : wi ≠ si := by have := hB.next; omega
  have hwl : wi < H3.next := o4.sc _ _ hr
  rw [(hV.row 0 hl0).1] at hq
  obtain ⟨q, _, _, qi, rfl, hqr⟩ := hq (by omega)
  have hqr : H3.row q = some ⟨2, true, ints (ll.getD 0 [])⟩ := hqr
  have h0l : (0 : Int) < (ll.length : Int) := by omega
  have hv0 : 0 < vs.length := by omega
  have f4 : decide ((0 : Int) < (n : Int)) = true := decide_eq_true (by omega)
  have e00 : Int.toNat 0 = 0 := rfl
  by_cases c1 : (y : Int) = 1
  · have f1 : ((y : Int) == 1) = true := beq_iff_eq.2 c1
    simp (config := {maxSteps := 3000000}) (disch := first | omega | (simp only [L3] <;> omega)) only [Sall,evalOp,init,binA_s,binE,binI,unE,convE,okNil,builtE,gv,TD.isAgg,resV,↓reduceIte,Nat.reduceEqDiff,reduceCtorEq,Nat.reduceAdd,Nat.reduceMul,Nat.reduceLeDiff,za0,za2,Int.reduceEq,Int.reduceLT,Int.reduceLE,Nat.reduceLT,tiA,tiXA, f0, f1, builtE, hlw, f3, hw, ew, hr, hxx, h0l, hv0, f4, decide_true, e00]
    refine (nextE n d2 hsi hc hsc hnb (by omega)).ex ?_
    rintro z H4 ⟨hz, les4, d4⟩
    have d4 : Dq cv nb si H H4 [.sl2 (Value.int .i64) 33 2 w ll] := d4
    refine Holds.mp ?_
    simp (config := {maxSteps := 3000000}) (disch := first | omega | (simp only [L3] <;> omega)) only [Sall,evalOp,init,binA_s,binE,binI,unE,convE,okNil,builtE,gv,TD.isAgg,resV,↓reduceIte,Nat.reduceEqDiff,reduceCtorEq,Nat.reduceAdd,Nat.reduceMul,Nat.reduceLeDiff,za0,za2,Int.reduceEq,Int.reduceLT,Int.reduceLE,Nat.reduceLT,tiA,tiXA, ↓hb]
    refine (pickM [-1, 0, 1, 2, -2] 5 rfl (by omega) (by omega) d4 hsi hc hsc hnb).ex ?_
    rintro p H5 ⟨hp, hrow5, d5⟩
    have hp2 : -2 ≤ p ∧ p ≤ 2 := by
      simp only [List.mem_cons, List.not_mem_nil, or_false] at hp
      omega
    have hzn : z < n := by omega
    have hr5 : H5.row wi = some ⟨33, true, vs⟩ := by rw [hrow5 wi hws (by have := les4.next; omega)]; exact les4.row wi _ hws hr
    obtain ⟨B5, hB5, o5⟩ := id d5.ex
    obtain ⟨wi', vs', x', _, _, ew', hr', hvl', hxx', hx1', hq⟩ := o5.get2 0 rfl (j := 0) hl0
    rw [ew] at ew'
    simp only [Value.slice.injEq, Option.some.injEq, Addr.mk.injEq] at ew'
    obtain ⟨⟨rfl, _⟩, _⟩ := ew'
    rw [hr5] at hr'
    simp only [Option.some.injEq, Row.mk.injEq, true_and] at hr'
    subst hr'
    rw [hxx] at hxx'
    have hxx' := Option.some.inj hxx'
    rw [(hV.row 0 hl0).1] at hq
    obtain ⟨q', _, _, _, eq', hqr5⟩ := hq (by omega)
    rw [← hxx'] at eq'
    simp only [Value.slice.injEq, Option.some.injEq, Addr.mk.injEq] at eq'
    obtain ⟨⟨rfl, _⟩, _⟩ := eq'
    have hqr5 : H5.row q = some ⟨2, true, ints (ll.getD 0 [])⟩ := hqr5
    have gz : (0 : Int) ≤ (z : Int) := by omega
    have gz2 : (z : Int) < (n : Int) := by omega
    have hzl : z < (ll.getD 0 []).length := by rw [(hV.row 0 hl0).1]; exact hzn
    refine Holds.mp ?_
    simp (config := {maxSteps := 3000000}) (disch := first | omega | (simp only [L3] <;> omega)) only [Sall,evalOp,init,binA_s,binE,binI,unE,convE,okNil,builtE,gv,TD.isAgg,resV,↓reduceIte,Nat.reduceEqDiff,reduceCtorEq,Nat.reduceAdd,Nat.reduceMul,Nat.reduceLeDiff,za0,za2,Int.reduceEq,Int.reduceLT,Int.reduceLE,Nat.reduceLT,tiA,tiXA, hqr5, gz, gz2, hzl, zaR]
    refine ⟨ll.set 0 ((ll.getD 0 []).set z p), (hV.vb (by omega)).set ⟨by rw [List.length_set, (hV.row 0 hl0).1]; omega, fun x hx => ?_⟩, d5.map fun B o => ?_⟩
    · rcases List.mem_or_eq_of_mem_set hx with h | h
      · have := (hV.row 0 hl0).2 x h; omega
      · omega
    · rw [ew] at o
      exact (o.set2 0 rfl (j := 0) hl0 (l' := (ll.getD 0 []).set z p) (by rw [List.length_set]) hr5 hxx).toSee 0 rfl fun H S hp => zf0 hp
  have f1 : ((y : Int) == 1) = false := beq_eq_false_iff_ne.2 c1
  by_cases c2 : (y : Int) = 2
  · have f2 : ((y : Int) == 2) = true := beq_iff_eq.2 c2
    simp (config := {maxSteps := 3000000}) (disch := first | omega | (simp only [L3] <;> omega)) only [Sall,evalOp,init,binA_s,binE,binI,unE,convE,okNil,builtE,gv,TD.isAgg,resV,↓reduceIte,Nat.reduceEqDiff,reduceCtorEq,Nat.reduceAdd,Nat.reduceMul,Nat.reduceLeDiff,za0,za2,Int.reduceEq,Int.reduceLT,Int.reduceLE,Nat.reduceLT,tiA,tiXA, f0, f1, f2, builtE, hlw, f3, hw, ew, hr, hxx, h0l, hv0, f4, decide_true, e00]
    refine frcut (a := 1) (b := n) rfl rfl rfl (by omega) (by omega) ?_
    simp (config := {maxSteps := 3000000}) (disch := first | omega | (simp only [L3] <;> omega)) only [Sall,evalOp,init,binA_s,binE,binI,unE,convE,okNil,builtE,gv,TD.isAgg,resV,↓reduceIte,Nat.reduceEqDiff,reduceCtorEq,Nat.reduceAdd,Nat.reduceMul,Nat.reduceLeDiff,za0,za2,Int.reduceEq,Int.reduceLT,Int.reduceLE,Nat.reduceLT,tiA,tiXA, hr, e00, h0l, hv0]
    trace_state
    refine ⟨ll.set 0 ((ll.getD 0 []).drop 1), (hV.vb (by omega)).set ⟨by rw [List.length_drop, (hV.row 0 hl0).1]; omega, fun x hx => ?_⟩, d2.map fun B o => ?_⟩
    · have := (hV.row 0 hl0).2 x (List.mem_of_mem_drop hx); omega
    · rw [ew] at o
      exact Ow.cutFirst o 0 rfl hl0 hr hxx (hV.row 0 hl0).1 (by omega) _
  have f2 : ((y : Int) == 2) = false := beq_eq_false_iff_ne.2 c2
  simp (config := {maxSteps := 3000000}) (disch := first | omega | (simp only [L3] <;> omega)) only [Sall,evalOp,init,binA_s,binE,binI,unE,convE,okNil,builtE,gv,TD.isAgg,resV,↓reduceIte,Nat.reduceEqDiff,reduceCtorEq,Nat.reduceAdd,Nat.reduceMul,Nat.reduceLeDiff,za0,za2,Int.reduceEq,Int.reduceLT,Int.reduceLE,Nat.reduceLT,tiA,tiXA, f0, f1, f2, hw]
  exact same
end Go.Proofs.YtemgclojolmhbaaGreat.A
end

section
set_option maxRecDepth 100000
set_option maxHeartbeats 2000000
namespace Go.Proofs.YtemgclojolmhbaaGreat.A
open Go Go.Abs Go.RowKit
end Go.Proofs.YtemgclojolmhbaaGreat.A
end
