/- Contracts: AreResults on both sides. And what follows. -/
import Derived.Test.YtgkmdfjjlghecaaM2
section
set_option linter.unusedSimpArgs false
set_option linter.unusedVariables false
set_option maxRecDepth 100000
namespace Go.Proofs.Ytgkmdfjjlghecaa.A
open Go Go.Abs Go.RowKit

theorem l10Is_c (n : Nat) (v : Value) (k : Nat) (l : List Int) (x : Value) (ll : List (List Int)) (H : AH) (hn : n ≤ 14) (hv : Rd 14 H v k l) (hk : k ≤ 4294967296) (hx : Rd2 1 H x ll) (hl : ll.length ≤ 4294967296) (hl2 : ∀ y ∈ ll, y.length ≤ 4294967296) :
    ACalls Try.prog 155 [.agg #[.int .i64 n, v], x] H (is (.bool (resB n k l ll)) H) := by
  refine ACalls.wf (by kernel_rfl) fun hs => acalls_up rfl (acalls_of_awp [.tmp 4] Try.func155 (by kernel_rfl) rfl rfl (Nat.le_of_ble_eq_true rfl) (by kernel_rfl) ?_)
  have up : Up H.next H (H.push ⟨32, true, [.int .i64 n, v]⟩) := (Up.refl _ H).push (Nat.le_refl _) _
  have n1 : (H.push ⟨32, true, [.int .i64 n, v]⟩).next = H.next + 1 := rfl
  by_cases hlk : ll.length ≤ k
  · have hlk' : ¬ (k : Int) < (ll.length : Int) := by omega
    try simp (disch := first | omega | (simp only [ints_length, List.length_replicate]; done) | (simp only [ints_length, List.length_replicate]; omega)) only [Sall,evalOp,init,binE,binI,unE,convE,okNil,builtE,gv,TD.isAgg,resV,↓reduceIte,Nat.reduceEqDiff,reduceCtorEq,Nat.reduceAdd,Nat.reduceMul,Nat.reduceLeDiff,quietOp,blindOp,Int.reduceEq,Int.reduceLT,Int.reduceLE,Nat.reduceLT,ti2,ti3,ti4,ti45,ti46,ti38,ti25,ti30,ti22,ti32,ti24,ti95,ti172,ti169,ti165,ti166,ti65,ti143,ti87, builtE, hx.len, hv.len, hlk', decide_false]
    refine awp_loop (fun m t H' => ∃ a : Nat, m = ll.length - a ∧ a ≤ ll.length ∧ t 5 = .int .i64 a ∧ t 1 = x ∧ t 2 = .pointer (some ⟨H.next, 0, none⟩) ∧ Up H.next H H' ∧ H.next < H'.next ∧ H'.row H.next = some ⟨32, true, [.int .i64 n, v]⟩ ∧ (∀ i, i < a → resAt n (rnd l i) (ll.getD i []) = true)) ll.length ?_ ?_
    · refine ⟨0, by omega, by omega, ?_⟩
      try simp (disch := first | omega | (simp only [ints_length, List.length_replicate]; done) | (simp only [ints_length, List.length_replicate]; omega)) only [Sall,evalOp,init,binE,binI,unE,convE,okNil,builtE,gv,TD.isAgg,resV,↓reduceIte,Nat.reduceEqDiff,reduceCtorEq,Nat.reduceAdd,Nat.reduceMul,Nat.reduceLeDiff,quietOp,blindOp,Int.reduceEq,Int.reduceLT,Int.reduceLE,Nat.reduceLT,ti2,ti3,ti4,ti45,ti46,ti38,ti25,ti30,ti22,ti32,ti24,ti95,ti172,ti169,ti165,ti166,ti65,ti143,ti87, Int.natCast_zero, Nat.not_lt_zero, false_implies]
      exact ⟨up, by omega⟩
    · rintro m t H' ⟨a, hm, h14, h5, h1, h2, hup, hnx, hr1, hall⟩
      have hxl := hx.len
      try simp (disch := first | omega | (simp only [ints_length, List.length_replicate]; done) | (simp only [ints_length, List.length_replicate]; omega)) only [Sall,evalOp,init,binE,binI,unE,convE,okNil,builtE,gv,TD.isAgg,resV,↓reduceIte,Nat.reduceEqDiff,reduceCtorEq,Nat.reduceAdd,Nat.reduceMul,Nat.reduceLeDiff,quietOp,blindOp,Int.reduceEq,Int.reduceLT,Int.reduceLE,Nat.reduceLT,ti2,ti3,ti4,ti45,ti46,ti38,ti25,ti30,ti22,ti32,ti24,ti95,ti172,ti169,ti165,ti166,ti65,ti143,ti87, h5, h1, builtE, hx.len]
      refine condC_dec (fun h => ?_) (fun h => ?_)
      · have hx' : Rd2 1 H' x ll := hx.same fun i r hr => by have := hs i r hr; rw [hup.row i this, hr]
        have hv' : Rd 14 H' v k l := hv.same fun i r hr => by have := hs i r hr; rw [hup.row i this, hr]
        obtain ⟨i, o, u, c, r, y, my, rfl, hr, hy, hsx, hok⟩ := hx'.get (j := a) (by omega)
        obtain ⟨i', o', u', c', r', rfl, hr', hc', hs', hg'⟩ := hv'.get (by omega)
        have hml := hl2 _ (getD_mem (ll := ll) (a := a) (by omega))
        have hmm := hsx.lenK1
        have hlh := hup.next
        have hrl : (rnd l a).length = 14 := rnd_length l a k hv.1 (by omega)
        refine draw_id (by kernel_rfl) (by kernel_rfl) ?_
        try simp (disch := first | omega | (simp only [ints_length, List.length_replicate]; done) | (simp only [ints_length, List.length_replicate]; omega)) only [Sall,evalOp,init,binE,binI,unE,convE,okNil,builtE,gv,TD.isAgg,resV,↓reduceIte,Nat.reduceEqDiff,reduceCtorEq,Nat.reduceAdd,Nat.reduceMul,Nat.reduceLeDiff,quietOp,blindOp,Int.reduceEq,Int.reduceLT,Int.reduceLE,Nat.reduceLT,ti2,ti3,ti4,ti45,ti46,ti38,ti25,ti30,ti22,ti32,ti24,ti95,ti172,ti169,ti165,ti166,ti65,ti143,ti87, h5, h1, h2, hr, hy, hok, hsx.len, hr1, hr', hg', builtE]
        refine ⟨⟨by omega, by omega⟩, ⟨by omega, by omega⟩, by omega, ACalls.wf (by kernel_rfl) fun hs1 => (l01Pairs_c n (rnd l a) hrl hn H').mono ?_⟩
        rintro p H3 ⟨up3, hp⟩
        have hpl := hp.rd.len
        refine ⟨.inr (.inr (up3.le hs1)), ?_⟩
        have hsx3 : Rd 1 H3 y my (ll.getD a []) := hsx.same (up3.le hs1).row
        have hr3 : H3.row H.next = some ⟨32, true, [.int .i64 n, .slice (some ⟨i', o', u'⟩) k c']⟩ := by rw [up3.row _ hnx, hr1]
        have n3 := up3.next
        have hri : H3.row i = some r := (up3.le hs1).row _ _ hr
        refine Holds.mp ?_
        by_cases hq : my = (pairsL (rnd l a) n).length
        · have e2 : ((my : Int) != ((pairsL (rnd l a) n).length : Int)) = false := by rw [hq]; exact bne_self_eq_false _
          try simp (disch := first | omega | (simp only [ints_length, List.length_replicate]; done) | (simp only [ints_length, List.length_replicate]; omega)) only [Sall,evalOp,init,binE,binI,unE,convE,okNil,builtE,gv,TD.isAgg,resV,↓reduceIte,Nat.reduceEqDiff,reduceCtorEq,Nat.reduceAdd,Nat.reduceMul,Nat.reduceLeDiff,quietOp,blindOp,Int.reduceEq,Int.reduceLT,Int.reduceLE,Nat.reduceLT,ti2,ti3,ti4,ti45,ti46,ti38,ti25,ti30,ti22,ti32,ti24,ti95,ti172,ti169,ti165,ti166,ti65,ti143,ti87, builtE, hpl, e2]
          refine awp_loop (fun z t H' => ∃ b : Nat, z = my - b ∧ b ≤ my ∧ t 6 = .int .i64 b ∧ t 5 = .int .i64 a ∧ t 1 = .slice (some ⟨i, o, u⟩) ll.length c ∧ t 2 = .pointer (some ⟨H.next, 0, none⟩) ∧ H' = H3 ∧ (∀ j, j < b → (0 ≤ (ll.getD a []).getD j 0 ∧ (ll.getD a []).getD j 0 ≤ 2))) my ?_ ?_
          · refine ⟨0, by omega, by omega, ?_⟩
            try simp (disch := first | omega | (simp only [ints_length, List.length_replicate]; done) | (simp only [ints_length, List.length_replicate]; omega)) only [Sall,evalOp,init,binE,binI,unE,convE,okNil,builtE,gv,TD.isAgg,resV,↓reduceIte,Nat.reduceEqDiff,reduceCtorEq,Nat.reduceAdd,Nat.reduceMul,Nat.reduceLeDiff,quietOp,blindOp,Int.reduceEq,Int.reduceLT,Int.reduceLE,Nat.reduceLT,ti2,ti3,ti4,ti45,ti46,ti38,ti25,ti30,ti22,ti32,ti24,ti95,ti172,ti169,ti165,ti166,ti65,ti143,ti87, Int.natCast_zero, Nat.not_lt_zero, false_implies, h5, h1, h2]
          · rintro z t H4 ⟨b, hz, hb, h6, h5, h1, h2, rfl, hin⟩
            try simp (disch := first | omega | (simp only [ints_length, List.length_replicate]; done) | (simp only [ints_length, List.length_replicate]; omega)) only [Sall,evalOp,init,binE,binI,unE,convE,okNil,builtE,gv,TD.isAgg,resV,↓reduceIte,Nat.reduceEqDiff,reduceCtorEq,Nat.reduceAdd,Nat.reduceMul,Nat.reduceLeDiff,quietOp,blindOp,Int.reduceEq,Int.reduceLT,Int.reduceLE,Nat.reduceLT,ti2,ti3,ti4,ti45,ti46,ti38,ti25,ti30,ti22,ti32,ti24,ti95,ti172,ti169,ti165,ti166,ti65,ti143,ti87, h6, h5, h1, hri, hy, hok, builtE, hsx3.len]
            refine ⟨⟨by omega, by omega⟩, ?_⟩
            refine condC_dec (fun hh => ?_) (fun hh => ?_)
            · obtain ⟨i7, o7, u7, c7, r7, rfl, hr7, hc7, hs7, hg7⟩ := hsx3.get (by omega)
              have g1 := hs7 b (by omega)
              try simp (disch := first | omega | (simp only [ints_length, List.length_replicate]; done) | (simp only [ints_length, List.length_replicate]; omega)) only [Sall,evalOp,init,binE,binI,unE,convE,okNil,builtE,gv,TD.isAgg,resV,↓reduceIte,Nat.reduceEqDiff,reduceCtorEq,Nat.reduceAdd,Nat.reduceMul,Nat.reduceLeDiff,quietOp,blindOp,Int.reduceEq,Int.reduceLT,Int.reduceLE,Nat.reduceLT,ti2,ti3,ti4,ti45,ti46,ti38,ti25,ti30,ti22,ti32,ti24,ti95,ti172,ti169,ti165,ti166,ti65,ti143,ti87, h6, h5, h1, hri, hy, hok, hr7, g1]
              refine ⟨⟨by omega, by omega⟩, ⟨by omega, by omega⟩, (l01In_c _ _ _ _).to ?_⟩
              by_cases hin2 : 0 ≤ (ll.getD a []).getD b 0 ∧ (ll.getD a []).getD b 0 ≤ 2
              · try simp (disch := first | omega | (simp only [ints_length, List.length_replicate]; done) | (simp only [ints_length, List.length_replicate]; omega)) only [Sall,evalOp,init,binE,binI,unE,convE,okNil,builtE,gv,TD.isAgg,resV,↓reduceIte,Nat.reduceEqDiff,reduceCtorEq,Nat.reduceAdd,Nat.reduceMul,Nat.reduceLeDiff,quietOp,blindOp,Int.reduceEq,Int.reduceLT,Int.reduceLE,Nat.reduceLT,ti2,ti3,ti4,ti45,ti46,ti38,ti25,ti30,ti22,ti32,ti24,ti95,ti172,ti169,ti165,ti166,ti65,ti143,ti87, hin2, decide_true, Bool.not_true, h6, w64]
                refine ⟨my - (b + 1), by omega, b + 1, rfl, by omega, by omega, h5, h1, h2, fun j hj => ?_⟩
                by_cases e : j = b
                · rw [e]; exact hin2
                · exact hin j (by omega)
              · try simp (disch := first | omega | (simp only [ints_length, List.length_replicate]; done) | (simp only [ints_length, List.length_replicate]; omega)) only [Sall,evalOp,init,binE,binI,unE,convE,okNil,builtE,gv,TD.isAgg,resV,↓reduceIte,Nat.reduceEqDiff,reduceCtorEq,Nat.reduceAdd,Nat.reduceMul,Nat.reduceLeDiff,quietOp,blindOp,Int.reduceEq,Int.reduceLT,Int.reduceLE,Nat.reduceLT,ti2,ti3,ti4,ti45,ti46,ti38,ti25,ti30,ti22,ti32,ti24,ti95,ti172,ti169,ti165,ti166,ti65,ti143,ti87, hin2, decide_false, Bool.not_false]
                rw [resB_bad (i := a) (by omega) (by unfold resAt; rw [all_false_of (i := b) (by omega) (decide_eq_false hin2), Bool.and_false])]
                exact ⟨rfl, by omega, fun i hi => by rw [up3.row i (by omega), hup.row i hi]⟩
            · try simp (disch := first | omega | (simp only [ints_length, List.length_replicate]; done) | (simp only [ints_length, List.length_replicate]; omega)) only [Sall,evalOp,init,binE,binI,unE,convE,okNil,builtE,gv,TD.isAgg,resV,↓reduceIte,Nat.reduceEqDiff,reduceCtorEq,Nat.reduceAdd,Nat.reduceMul,Nat.reduceLeDiff,quietOp,blindOp,Int.reduceEq,Int.reduceLT,Int.reduceLE,Nat.reduceLT,ti2,ti3,ti4,ti45,ti46,ti38,ti25,ti30,ti22,ti32,ti24,ti95,ti172,ti169,ti165,ti166,ti65,ti143,ti87, h5, w64]
              refine ⟨ll.length - (a + 1), by omega, a + 1, rfl, by omega, by omega, h1, h2, ⟨by omega, fun i hi => by rw [up3.row i (by omega), hup.row i hi]⟩, by omega, hr3, fun i hi => ?_⟩
              by_cases e : i = a
              · rw [e]; unfold resAt
                rw [all_true_of (fun j hj => decide_eq_true (hin j (by omega))), Bool.and_true, ← hmm, hq]; simp
              · exact hall i (by omega)
        · have e2 : ((my : Int) != ((pairsL (rnd l a) n).length : Int)) = true := by rw [bne_iff_ne]; omega
          have e3 : resAt n (rnd l a) (ll.getD a []) = false := by
            unfold resAt
            rw [← hmm, show (my == (pairsL (rnd l a) n).length) = false by simpa using hq, Bool.false_and]
          try simp (disch := first | omega | (simp only [ints_length, List.length_replicate]; done) | (simp only [ints_length, List.length_replicate]; omega)) only [Sall,evalOp,init,binE,binI,unE,convE,okNil,builtE,gv,TD.isAgg,resV,↓reduceIte,Nat.reduceEqDiff,reduceCtorEq,Nat.reduceAdd,Nat.reduceMul,Nat.reduceLeDiff,quietOp,blindOp,Int.reduceEq,Int.reduceLT,Int.reduceLE,Nat.reduceLT,ti2,ti3,ti4,ti45,ti46,ti38,ti25,ti30,ti22,ti32,ti24,ti95,ti172,ti169,ti165,ti166,ti65,ti143,ti87, builtE, hpl, e2]
          rw [resB_bad (i := a) (by omega) e3]
          exact ⟨rfl, by omega, fun i hi => by rw [up3.row i (by omega), hup.row i hi]⟩
      · try simp (disch := first | omega | (simp only [ints_length, List.length_replicate]; done) | (simp only [ints_length, List.length_replicate]; omega)) only [Sall,evalOp,init,binE,binI,unE,convE,okNil,builtE,gv,TD.isAgg,resV,↓reduceIte,Nat.reduceEqDiff,reduceCtorEq,Nat.reduceAdd,Nat.reduceMul,Nat.reduceLeDiff,quietOp,blindOp,Int.reduceEq,Int.reduceLT,Int.reduceLE,Nat.reduceLT,ti2,ti3,ti4,ti45,ti46,ti38,ti25,ti30,ti22,ti32,ti24,ti95,ti172,ti169,ti165,ti166,ti65,ti143,ti87, true_and]
        rw [resB_good hlk fun i hi => hall i (by omega)]
        exact ⟨rfl, hup⟩
  · have hlk' : (k : Int) < (ll.length : Int) := by omega
    try simp (disch := first | omega | (simp only [ints_length, List.length_replicate]; done) | (simp only [ints_length, List.length_replicate]; omega)) only [Sall,evalOp,init,binE,binI,unE,convE,okNil,builtE,gv,TD.isAgg,resV,↓reduceIte,Nat.reduceEqDiff,reduceCtorEq,Nat.reduceAdd,Nat.reduceMul,Nat.reduceLeDiff,quietOp,blindOp,Int.reduceEq,Int.reduceLT,Int.reduceLE,Nat.reduceLT,ti2,ti3,ti4,ti45,ti46,ti38,ti25,ti30,ti22,ti32,ti24,ti95,ti172,ti169,ti165,ti166,ti65,ti143,ti87, builtE, hx.len, hv.len, hlk', decide_true]
    unfold resB
    simp only [hlk, decide_false, Bool.false_and, true_and]
    exact up

theorem always_c (H : AH) : ACalls Try.prog 92 [] H (is (.bool true) H) := by
  refine acalls_of_awp [.tmp 0] Try.func92 (by kernel_rfl) rfl rfl (Nat.le_of_ble_eq_true rfl) (by kernel_rfl) ?_
  try simp (disch := first | omega | (simp only [ints_length, List.length_replicate]; done) | (simp only [ints_length, List.length_replicate]; omega)) only [Sall,evalOp,init,binE,binI,unE,convE,okNil,builtE,gv,TD.isAgg,resV,↓reduceIte,Nat.reduceEqDiff,reduceCtorEq,Nat.reduceAdd,Nat.reduceMul,Nat.reduceLeDiff,quietOp,blindOp,Int.reduceEq,Int.reduceLT,Int.reduceLE,Nat.reduceLT,ti2,ti3,ti4,ti45,ti46,ti38,ti25,ti30,ti22,ti32,ti24,ti95,ti172,ti169,ti165,ti166,ti65,ti143,ti87, is]

/-- What scheduleCode answers: the function is called only if the schedule is right. -/
def codeS (q : Int) (k : Nat) (l : List Int) (b : Bool) : Int := if schedB q k l = true then (if b = true then 0 else 2) else 1
theorem scheduleCode_c (q : Int) (v : Value) (k : Nat) (l : List Int) (g : FuncId) (cap : List Value) (b : Bool) (H : AH) (hv : Rd 14 H v k l) (hk : k ≤ 4294967296)
    (hg : ∀ H', Up H.next H H' → schedB q k l = true → ACalls Try.prog g cap H' (is (.bool b) H')) :
    ACalls Try.prog 152 [.agg #[.int .i64 q, v], .func (.func g) #[] cap.toArray] H (is (.int .i64 (codeS q k l b)) H) := by
  refine ACalls.wf (by kernel_rfl) fun hs => acalls_up rfl (acalls_of_awp [.tmp 4] Try.func152 (by kernel_rfl) rfl rfl (Nat.le_of_ble_eq_true rfl) (by kernel_rfl) ?_)
  have up : Up H.next H (H.push ⟨32, true, [.int .i64 q, v]⟩) := (Up.refl _ H).push (Nat.le_refl _) _
  have e1 : (H.push ⟨32, true, [.int .i64 q, v]⟩).row H.next = some ⟨32, true, [.int .i64 q, v]⟩ := by rw [AH.push_row, if_pos rfl]
  have hv1 := hv.same (up.le hs).row
  have hone := hv.one
  try simp (disch := first | omega | (simp only [ints_length, List.length_replicate]; done) | (simp only [ints_length, List.length_replicate]; omega)) only [Sall,evalOp,init,binE,binI,unE,convE,okNil,builtE,gv,TD.isAgg,resV,↓reduceIte,Nat.reduceEqDiff,reduceCtorEq,Nat.reduceAdd,Nat.reduceMul,Nat.reduceLeDiff,quietOp,blindOp,Int.reduceEq,Int.reduceLT,Int.reduceLE,Nat.reduceLT,ti2,ti3,ti4,ti45,ti46,ti38,ti25,ti30,ti22,ti32,ti24,ti95,ti172,ti169,ti165,ti166,ti65,ti143,ti87, true_and]
  refine (IsSchedule_c q v k l _ hv1 hk).to ?_
  unfold codeS
  by_cases hb : schedB q k l = true
  · try simp (disch := first | omega | (simp only [ints_length, List.length_replicate]; done) | (simp only [ints_length, List.length_replicate]; omega)) only [Sall,evalOp,init,binE,binI,unE,convE,okNil,builtE,gv,TD.isAgg,resV,↓reduceIte,Nat.reduceEqDiff,reduceCtorEq,Nat.reduceAdd,Nat.reduceMul,Nat.reduceLeDiff,quietOp,blindOp,Int.reduceEq,Int.reduceLT,Int.reduceLE,Nat.reduceLT,ti2,ti3,ti4,ti45,ti46,ti38,ti25,ti30,ti22,ti32,ti24,ti95,ti172,ti169,ti165,ti166,ti65,ti143,ti87, hb, Bool.not_true]
    refine (hg _ up hb).to ?_
    cases b with
    | true =>
      try simp (disch := first | omega | (simp only [ints_length, List.length_replicate]; done) | (simp only [ints_length, List.length_replicate]; omega)) only [Sall,evalOp,init,binE,binI,unE,convE,okNil,builtE,gv,TD.isAgg,resV,↓reduceIte,Nat.reduceEqDiff,reduceCtorEq,Nat.reduceAdd,Nat.reduceMul,Nat.reduceLeDiff,quietOp,blindOp,Int.reduceEq,Int.reduceLT,Int.reduceLE,Nat.reduceLT,ti2,ti3,ti4,ti45,ti46,ti38,ti25,ti30,ti22,ti32,ti24,ti95,ti172,ti169,ti165,ti166,ti65,ti143,ti87, Bool.not_true]
      rw [if_pos hb]
      exact ⟨rfl, up⟩
    | false =>
      try simp (disch := first | omega | (simp only [ints_length, List.length_replicate]; done) | (simp only [ints_length, List.length_replicate]; omega)) only [Sall,evalOp,init,binE,binI,unE,convE,okNil,builtE,gv,TD.isAgg,resV,↓reduceIte,Nat.reduceEqDiff,reduceCtorEq,Nat.reduceAdd,Nat.reduceMul,Nat.reduceLeDiff,quietOp,blindOp,Int.reduceEq,Int.reduceLT,Int.reduceLE,Nat.reduceLT,ti2,ti3,ti4,ti45,ti46,ti38,ti25,ti30,ti22,ti32,ti24,ti95,ti172,ti169,ti165,ti166,ti65,ti143,ti87, Bool.not_false]
      rw [if_pos hb]
      exact ⟨rfl, up⟩
  · have hb' : schedB q k l = false := by simpa using hb
    try simp (disch := first | omega | (simp only [ints_length, List.length_replicate]; done) | (simp only [ints_length, List.length_replicate]; omega)) only [Sall,evalOp,init,binE,binI,unE,convE,okNil,builtE,gv,TD.isAgg,resV,↓reduceIte,Nat.reduceEqDiff,reduceCtorEq,Nat.reduceAdd,Nat.reduceMul,Nat.reduceLeDiff,quietOp,blindOp,Int.reduceEq,Int.reduceLT,Int.reduceLE,Nat.reduceLT,ti2,ti3,ti4,ti45,ti46,ti38,ti25,ti30,ti22,ti32,ti24,ti95,ti172,ti169,ti165,ti166,ti65,ti143,ti87, hb', Bool.not_false]
    exact up

theorem specAreResults_c (q : Int) (v : Value) (k : Nat) (l : List Int) (x : Value) (ll : List (List Int)) (H : AH) (hv : Rd 14 H v k l) (hk : k ≤ 4294967296) (hx : Rd2 1 H x ll) (hl : ll.length ≤ 4294967296) (hl2 : ∀ y ∈ ll, y.length ≤ 4294967296) :
    ACalls Try.prog 79 [.agg #[.int .i64 q, v], x] H (is (.tuple #[.bool (schedB q k l && resB q.toNat k l ll), .int .i64 (codeS q k l true)]) H) := by
  refine ACalls.wf (by kernel_rfl) fun hs => acalls_up (by simp [flat, Abs.scal]) (acalls_of_awp [.tmp 4, .tmp 5] Try.func79 (by kernel_rfl) rfl rfl (Nat.le_of_ble_eq_true rfl) (by kernel_rfl) ?_)
  have up : Up H.next H (H.push ⟨32, true, [.int .i64 q, v]⟩) := (Up.refl _ H).push (Nat.le_refl _) _
  have hv1 := hv.same (up.le hs).row
  have hx1 := hx.same (up.le hs).row
  try simp (disch := first | omega | (simp only [ints_length, List.length_replicate]; done) | (simp only [ints_length, List.length_replicate]; omega)) only [Sall,evalOp,init,binE,binI,unE,convE,okNil,builtE,gv,TD.isAgg,resV,↓reduceIte,Nat.reduceEqDiff,reduceCtorEq,Nat.reduceAdd,Nat.reduceMul,Nat.reduceLeDiff,quietOp,blindOp,Int.reduceEq,Int.reduceLT,Int.reduceLE,Nat.reduceLT,ti2,ti3,ti4,ti45,ti46,ti38,ti25,ti30,ti22,ti32,ti24,ti95,ti172,ti169,ti165,ti166,ti65,ti143,ti87, true_and]
  refine (l01Is_c q v k l _ hv1 hk).to ?_
  unfold codeS
  by_cases hb : schedB q k l = true
  · obtain ⟨h2, _, _⟩ := schedB_at hb
    obtain ⟨n, rfl⟩ : ∃ n : Nat, q = n := ⟨q.toNat, by omega⟩
    try simp (disch := first | omega | (simp only [ints_length, List.length_replicate]; done) | (simp only [ints_length, List.length_replicate]; omega)) only [Sall,evalOp,init,binE,binI,unE,convE,okNil,builtE,gv,TD.isAgg,resV,↓reduceIte,Nat.reduceEqDiff,reduceCtorEq,Nat.reduceAdd,Nat.reduceMul,Nat.reduceLeDiff,quietOp,blindOp,Int.reduceEq,Int.reduceLT,Int.reduceLE,Nat.reduceLT,ti2,ti3,ti4,ti45,ti46,ti38,ti25,ti30,ti22,ti32,ti24,ti95,ti172,ti169,ti165,ti166,ti65,ti143,ti87, hb, Bool.not_true]
    refine (l10Is_c n v k l x ll _ (by omega) hv1 hk hx1 hl hl2).to ?_
    try simp (disch := first | omega | (simp only [ints_length, List.length_replicate]; done) | (simp only [ints_length, List.length_replicate]; omega)) only [Sall,evalOp,init,binE,binI,unE,convE,okNil,builtE,gv,TD.isAgg,resV,↓reduceIte,Nat.reduceEqDiff,reduceCtorEq,Nat.reduceAdd,Nat.reduceMul,Nat.reduceLeDiff,quietOp,blindOp,Int.reduceEq,Int.reduceLT,Int.reduceLE,Nat.reduceLT,ti2,ti3,ti4,ti45,ti46,ti38,ti25,ti30,ti22,ti32,ti24,ti95,ti172,ti169,ti165,ti166,ti65,ti143,ti87, Int.toNat_natCast, Bool.true_and]
    rw [hb]
    exact ⟨rfl, up⟩
  · have hb' : schedB q k l = false := by simpa using hb
    try simp (disch := first | omega | (simp only [ints_length, List.length_replicate]; done) | (simp only [ints_length, List.length_replicate]; omega)) only [Sall,evalOp,init,binE,binI,unE,convE,okNil,builtE,gv,TD.isAgg,resV,↓reduceIte,Nat.reduceEqDiff,reduceCtorEq,Nat.reduceAdd,Nat.reduceMul,Nat.reduceLeDiff,quietOp,blindOp,Int.reduceEq,Int.reduceLT,Int.reduceLE,Nat.reduceLT,ti2,ti3,ti4,ti45,ti46,ti38,ti25,ti30,ti22,ti32,ti24,ti95,ti172,ti169,ti165,ti166,ti65,ti143,ti87, hb', Bool.not_false, Bool.false_and]
    exact up

theorem AreResults_c (q : Int) (v : Value) (k : Nat) (l : List Int) (x : Value) (ll : List (List Int)) (H : AH) (hv : Rd 14 H v k l) (hk : k ≤ 4294967296) (hx : Rd2 1 H x ll) (hl : ll.length ≤ 4294967296) (hl2 : ∀ y ∈ ll, y.length ≤ 4294967296) :
    ACalls Try.prog 78 [.agg #[.int .i64 q, v], x] H (is (.tuple #[.bool (schedB q k l && resB q.toNat k l ll), .int .i64 (codeS q k l true)]) H) := by
  refine ACalls.wf (by kernel_rfl) fun hs => acalls_up (by simp [flat, Abs.scal]) (acalls_of_awp [.tmp 4, .tmp 5] Try.func78 (by kernel_rfl) rfl rfl (Nat.le_of_ble_eq_true rfl) (by kernel_rfl) ?_)
  have up : Up H.next H (H.push ⟨32, true, [.int .i64 q, v]⟩) := (Up.refl _ H).push (Nat.le_refl _) _
  have hv1 := hv.same (up.le hs).row
  have hx1 := hx.same (up.le hs).row
  try simp (disch := first | omega | (simp only [ints_length, List.length_replicate]; done) | (simp only [ints_length, List.length_replicate]; omega)) only [Sall,evalOp,init,binE,binI,unE,convE,okNil,builtE,gv,TD.isAgg,resV,↓reduceIte,Nat.reduceEqDiff,reduceCtorEq,Nat.reduceAdd,Nat.reduceMul,Nat.reduceLeDiff,quietOp,blindOp,Int.reduceEq,Int.reduceLT,Int.reduceLE,Nat.reduceLT,ti2,ti3,ti4,ti45,ti46,ti38,ti25,ti30,ti22,ti32,ti24,ti95,ti172,ti169,ti165,ti166,ti65,ti143,ti87, true_and]
  refine (scheduleCode_c q v k l 92 [] true _ hv1 hk fun H' _ _ => always_c H').to ?_
  unfold codeS
  by_cases hb : schedB q k l = true
  · obtain ⟨h2, _, _⟩ := schedB_at hb
    obtain ⟨n, rfl⟩ : ∃ n : Nat, q = n := ⟨q.toNat, by omega⟩
    try simp (disch := first | omega | (simp only [ints_length, List.length_replicate]; done) | (simp only [ints_length, List.length_replicate]; omega)) only [Sall,evalOp,init,binE,binI,unE,convE,okNil,builtE,gv,TD.isAgg,resV,↓reduceIte,Nat.reduceEqDiff,reduceCtorEq,Nat.reduceAdd,Nat.reduceMul,Nat.reduceLeDiff,quietOp,blindOp,Int.reduceEq,Int.reduceLT,Int.reduceLE,Nat.reduceLT,ti2,ti3,ti4,ti45,ti46,ti38,ti25,ti30,ti22,ti32,ti24,ti95,ti172,ti169,ti165,ti166,ti65,ti143,ti87, hb, bne_self_eq_false]
    refine (areResults_c n v k l x ll _ (by omega) hv1 hk hx1 hl hl2).to ?_
    try simp (disch := first | omega | (simp only [ints_length, List.length_replicate]; done) | (simp only [ints_length, List.length_replicate]; omega)) only [Sall,evalOp,init,binE,binI,unE,convE,okNil,builtE,gv,TD.isAgg,resV,↓reduceIte,Nat.reduceEqDiff,reduceCtorEq,Nat.reduceAdd,Nat.reduceMul,Nat.reduceLeDiff,quietOp,blindOp,Int.reduceEq,Int.reduceLT,Int.reduceLE,Nat.reduceLT,ti2,ti3,ti4,ti45,ti46,ti38,ti25,ti30,ti22,ti32,ti24,ti95,ti172,ti169,ti165,ti166,ti65,ti143,ti87, Int.toNat_natCast, Bool.true_and]
    rw [hb]
    exact ⟨rfl, up⟩
  · have hb' : schedB q k l = false := by simpa using hb
    have e0 : ((1 : Int) != 0) = true := rfl
    try simp (disch := first | omega | (simp only [ints_length, List.length_replicate]; done) | (simp only [ints_length, List.length_replicate]; omega)) only [Sall,evalOp,init,binE,binI,unE,convE,okNil,builtE,gv,TD.isAgg,resV,↓reduceIte,Nat.reduceEqDiff,reduceCtorEq,Nat.reduceAdd,Nat.reduceMul,Nat.reduceLeDiff,quietOp,blindOp,Int.reduceEq,Int.reduceLT,Int.reduceLE,Nat.reduceLT,ti2,ti3,ti4,ti45,ti46,ti38,ti25,ti30,ti22,ti32,ti24,ti95,ti172,ti169,ti165,ti166,ti65,ti143,ti87, hb', e0, Bool.false_and]
    exact up
end Go.Proofs.Ytgkmdfjjlghecaa.A
end

section
set_option linter.unusedSimpArgs false
set_option linter.unusedVariables false
namespace Go.Abs
open Go Go.RowKit

theorem given_cell {w : World} {b j : Nat} {u : Value} (h : w.cell? ⟨b, j, none⟩ = some u) : b < w.heap.size ∧ (given w).row b = some ⟨0, false, absRow w b⟩ ∧ (absRow w b)[j]? = some (absV w.heap.size u) := by
  have h1 := h
  unfold World.cell? at h1
  split at h1
  · rename_i cs t fr he
    have hb : b < w.heap.size := (Array.getElem?_eq_some_iff.1 he).1
    have hk : bsz w b = some cs.size := by simp [bsz, he]
    have h2 : cs[j]? = some u := by simpa using h1
    have h3 : j < cs.size := (Array.getElem?_eq_some_iff.1 h2).1
    refine ⟨hb, by simp [given, hb], ?_⟩
    simp only [absRow, hk, List.getElem?_map]
    rw [List.getElem?_range h3]
    simp only [Option.map_some, h]
  · cases h1

section
variable {H : Type} {enc : TypeId × Value → H} {P : Program} {w : World} {base : Nat} {spare : Nat → Bool} {held : Bool}

theorem trod_elem {e : TypeId} (hi : P.underlying e = some (.int .i64)) (hc : P.cellsOf e = 1) {a : Addr} {m : Nat} {y : DataW H × List MemPlace}
    (h : (w.cells? base a (P.cellsOf e)).bind (DataW.trod enc P w base spare held m e) = some y) : ∃ z, w.cell? a = some (.int .i64 z) := by
  rw [hc, Option.bind_eq_some_iff] at h
  obtain ⟨cs, h1, h2⟩ := h
  obtain ⟨z, rfl, _⟩ := DataW.trod_int hi h2
  obtain ⟨_, _, hcc⟩ := World.cells?_some h1
  have h3 := hcc 0 (by omega)
  have e : a.add 0 = a := by obtain ⟨b, o, s⟩ := a; rfl
  rw [e] at h3
  exact ⟨z, h3⟩

/-- A cell of the given memory that is a slice of integers. -/
theorem trod_inner {e i : TypeId} {fuel : Nat} {u : Value} {y : DataW H × List MemPlace} (he : P.underlying e = some (.slice i)) (hi : P.underlying i = some (.int .i64)) (hci : P.cellsOf i = 1) (hw : 0 < w.heap.size)
    (h : DataW.trod enc P w base spare held fuel e [u] = some y) : ∃ m l, Rd 1 (given w) (absV w.heap.size u) m l ∧ l.length ≤ maxLen := by
  rcases DataW.trod_slice he h with ⟨h0, _⟩ | ⟨a, len, cap, elems, rest, m, _, hcs, _, _, hl, hcap, hlen, hel, _, _⟩
  · simp only [List.cons.injEq, and_true] at h0
    subst h0
    exact ⟨0, [], ⟨by simp, .inl ⟨rfl, none, 0, rfl, fun _ => rfl⟩⟩, by simp⟩
  · simp only [List.cons.injEq, and_true] at hcs
    subst hcs
    by_cases h0 : len = 0
    · subst h0
      refine ⟨0, [], ⟨by simp, .inl ⟨rfl, some ⟨0, 1, some 0⟩, cap, ?_, fun h => by cases h⟩⟩, by simp⟩
      have : scal (.slice (some a) 0 cap) = false := rfl
      unfold absV
      rw [if_neg (by rw [this]; simp)]
      simp only [hw, if_true]
    · have each : ∀ j, j < len → ∃ z, w.cell? (a.add j) = some (.int .i64 z) := by
        intro j hj
        have h1 := hel j hj
        rw [List.getElem?_eq_getElem (by omega), hci, Nat.mul_one, ← hci] at h1
        exact trod_elem hi hci h1
      obtain ⟨b, o, s⟩ := a
      have hs : s = none := by
        obtain ⟨z, hz⟩ := each 0 (by omega)
        unfold World.cell? at hz
        split at hz
        · split at hz
          · cases hz
          · rename_i hh
            cases s with
            | none => rfl
            | some z => exact absurd rfl hh
        · cases hz
      subst hs
      have each2 : ∀ j, j < len → ∃ z, w.cell? ⟨b, o + j, none⟩ = some (.int .i64 z) := fun j hj => by
        obtain ⟨z, hz⟩ := each j hj
        exact ⟨z, by rw [← hz, Addr.add_lit]⟩
      have hb : b < w.heap.size := by
        obtain ⟨z, hz⟩ := each2 0 (by omega)
        exact (given_cell hz).1
      let zs : List Int := (List.range (len * 1)).map fun j => match w.cell? ⟨b, o + j, none⟩ with | some (.int _ z) => z | _ => 0
      have hzl : zs.length = len * 1 := by simp [zs]
      refine ⟨len, zs, ?_, by rw [hzl]; omega⟩
      have ea : absV w.heap.size (.slice (some ⟨b, o, none⟩) len cap) = .slice (some ⟨b, o, none⟩) len cap := by
        have : scal (.slice (some ⟨b, o, none⟩) len cap) = false := rfl
        unfold absV
        rw [if_neg (by rw [this]; simp)]
        split
        · rename_i h; cases h; exact absurd rfl h0
        · rename_i h; cases h; rw [if_pos hb]
        · rename_i h1 h2; exact absurd rfl (h2 _ _ _ _)
      rw [ea]
      refine given_rd (by omega) hb hzl fun j hj => ?_
      obtain ⟨z, hz⟩ := each2 j (by omega)
      rw [hz]
      simp [zs, show j < len by omega, hz]

/-- A slice of slices of integers. -/
theorem trod_lists {t e i : TypeId} {fuel : Nat} {x : DataW H × List MemPlace} {v : Value} (ht : P.underlying t = some (.slice e)) (he : P.underlying e = some (.slice i)) (hi : P.underlying i = some (.int .i64)) (hce : P.cellsOf e = 1) (hci : P.cellsOf i = 1)
    (h : DataW.trod enc P w base spare held fuel t [v] = some x) (hv : v = .slice none 0 0 ∨ ∃ b o n c, v = .slice (some ⟨b, o, none⟩) n c ∧ b < w.heap.size ∧ n ≤ 9223372036854775807) :
    ∃ ll, Rd2 1 (given w) v ll ∧ V1 id w.heap.size w v v ∧ ll.length ≤ 9223372036854775807 ∧ ∀ y ∈ ll, y.length ≤ maxLen := by
  rcases hv with rfl | ⟨b, o, n, c, rfl, hb, hn⟩
  · exact ⟨[], .inl ⟨rfl, none, 0, rfl, fun _ => rfl⟩, .scal _ rfl, by simp, by simp⟩
  · rcases DataW.trod_slice ht h with ⟨h0, _⟩ | ⟨a, len, cap, elems, rest, m, _, hcs, _, _, _, _, hlen, hel, _, _⟩
    · simp at h0
    · simp only [List.cons.injEq, Value.slice.injEq, Option.some.injEq, and_true] at hcs
      obtain ⟨rfl, rfl, rfl⟩ := hcs
      have each : ∀ j, j < n → ∃ u q l, w.cell? ⟨b, o + j, none⟩ = some u ∧ Rd 1 (given w) (absV w.heap.size u) q l ∧ l.length ≤ maxLen := by
        intro j hj
        have h1 := hel j hj
        rw [List.getElem?_eq_getElem (by omega), hce, Nat.mul_one, Option.bind_eq_some_iff] at h1
        obtain ⟨cs, hc1, hc2⟩ := h1
        obtain ⟨_, hl, hc⟩ := World.cells?_some hc1
        match cs, hl with
        | [u], _ =>
          obtain ⟨q, l, hr, hle⟩ := trod_inner he hi hci (by omega) hc2
          refine ⟨u, q, l, ?_, hr, hle⟩
          have := hc 0 (by omega)
          rw [Addr.add_lit, Addr.add_lit] at this
          simpa using this
      by_cases h0 : n = 0
      · subst h0
        exact ⟨[], .inl ⟨rfl, _, c, rfl, fun h => by cases h⟩, V1.sle (ρ := id) b o 0 c hb, by simp, by simp⟩
      · let f : Nat → List Int := fun j => if hj : j < n then Classical.choose (Classical.choose_spec (Classical.choose_spec (each j hj))) else []
        have hf : ∀ j, j < n → ∃ u q, w.cell? ⟨b, o + j, none⟩ = some u ∧ Rd 1 (given w) (absV w.heap.size u) q (f j) ∧ (f j).length ≤ maxLen := by
          intro j hj
          have h3 := Classical.choose_spec (Classical.choose_spec (Classical.choose_spec (each j hj)))
          have ef : f j = Classical.choose (Classical.choose_spec (Classical.choose_spec (each j hj))) := by simp only [f, dif_pos hj]
          rw [ef]
          exact ⟨_, _, h3⟩
        refine ⟨(List.range n).map f, .inr ⟨b, o, none, c, ⟨0, false, absRow w b⟩, by simp, by simp [given, hb], fun j hj => ?_⟩, V1.sle (ρ := id) b o n c hb, by simpa using hn, fun y hy => ?_⟩
        · have hj' : j < n := by simpa using hj
          obtain ⟨u, q, h1, h2, _⟩ := hf j hj'
          refine ⟨_, q, (given_cell h1).2.2, ?_⟩
          have : ((List.range n).map f).getD j [] = f j := by simp [hj']
          rw [this]; exact h2
        · obtain ⟨j, hj, rfl⟩ := List.mem_map.1 hy
          obtain ⟨_, _, _, _, h3⟩ := hf j (by simpa using hj)
          exact h3
end

/-- One of the inner slices of a fresh slice of slices. -/
theorem Fr2.getF {k ty ty' lo hi : Nat} {H : AH} {v : Value} {ll : List (List Int)} (h : Fr2 k ty ty' lo hi H v ll) {j : Nat} (hj : j < ll.length) :
    ∃ i vs x m b c, v = .slice (some ⟨i, 0, some 1⟩) ll.length ll.length ∧ lo ≤ i ∧ i < hi ∧ H.row i = some ⟨ty, true, vs⟩ ∧ vs.length = ll.length ∧ vs[j]? = some x ∧ lo ≤ b ∧ c ≤ hi ∧ Fr k ty' b c H x m (ll.getD j []) := by
  rcases h with ⟨rfl, _⟩ | ⟨i, vs, b, h1, h2, rfl, hr, hl, g0, gn, _, gm, hh⟩
  · simp at hj
  · obtain ⟨x, m, hx, hf⟩ := hh j hj
    have m1 := mono_of_step gm (Nat.zero_le j)
    have m2 := mono_of_step gm (show j + 1 ≤ ll.length from hj)
    exact ⟨i, vs, x, m, b j, b (j + 1), rfl, h1, h2, hr, hl, hx, by omega, by omega, hf⟩
end Go.Abs
end

section
set_option linter.unusedSimpArgs false
set_option linter.unusedVariables false
set_option maxRecDepth 100000
namespace Go.Proofs.Ytgkmdfjjlghecaa.A
open Go Go.Abs Go.RowKit

theorem won_cases (z : Int) : ((z == 1) = true ∧ (z == 2) = false ∧ wonI z = 2) ∨ ((z == 1) = false ∧ (z == 2) = true ∧ wonI z = 0) ∨ ((z == 1) = false ∧ (z == 2) = false ∧ wonI z = 1) := by
  unfold wonI
  by_cases h1 : z = 1
  · subst h1; exact .inl ⟨rfl, rfl, rfl⟩
  · by_cases h2 : z = 2
    · subst h2; exact .inr (.inl ⟨rfl, rfl, rfl⟩)
    · exact .inr (.inr ⟨beq_eq_false_iff_ne.2 h1, beq_eq_false_iff_ne.2 h2, by rw [if_neg h1, if_neg h2]⟩)

theorem games_c (n : Nat) (v : Value) (k : Nat) (l : List Int) (x : Value) (ll : List (List Int)) (g : FuncId) (cap : List Value) (S : List Ev → AH → Prop) (B H : AH)
    (hb : schedB n k l = true) (hres : resB n k l ll = true) (S0 : S [] H) (hl : ll.length ≤ 4294967296)
    (hv : Rd 14 B v k l) (hx : Rd2 1 B x ll) (hSr : ∀ es H', S es H' → ∀ i r, B.row i = some r → H'.row i = some r)
    (hSt : ∀ es H1 H2, S es H1 → H1.next ≤ H2.next → (∀ i, i < H.next → H2.row i = H1.row i) → S es H2)
    (hstep : ∀ es (rd : Nat) (p q o : Int) H1, S es H1 → H.next ≤ H1.next → rd < ll.length → (0 ≤ p ∧ p < n) → (0 ≤ q ∧ q < n) → (0 ≤ o ∧ o ≤ 2) →
      ACalls Try.prog g (.int .i64 rd :: .int .i64 p :: .int .i64 q :: .int .i64 o :: cap) H1 (fun _ H2 => S (es ++ [(rd, p, q, o)]) H2 ∧ H1.next ≤ H2.next ∧ ∀ i, H.next ≤ i → i < H1.next → H2.row i = H1.row i)) :
    ACalls Try.prog 221 [.agg #[.int .i64 n, v], x, .func (.func g) #[] cap.toArray] H (fun _ H' => S (meets n l ll ll.length) H' ∧ H.next ≤ H'.next) := by
  refine acalls_of_awp [] Try.func221 (by kernel_rfl) rfl rfl (Nat.le_of_ble_eq_true rfl) (by kernel_rfl) ?_
  obtain ⟨hn, hk40, hrounds⟩ := schedB_at hb
  obtain ⟨hlk, hrs⟩ := resB_at hres
  have hone := hv.one
  have e1 : (H.push ⟨32, true, [.int .i64 n, v]⟩).row H.next = some ⟨32, true, [.int .i64 n, v]⟩ := by rw [AH.push_row, if_pos rfl]
  have n1 : (H.push ⟨32, true, [.int .i64 n, v]⟩).next = H.next + 1 := rfl
  have hx0 := hx
  try simp (disch := first | omega | (simp only [ints_length, List.length_replicate]; done) | (simp only [ints_length, List.length_replicate]; omega)) only [Sall,evalOp,init,binE,binI,unE,convE,okNil,builtE,gv,TD.isAgg,resV,↓reduceIte,Nat.reduceEqDiff,reduceCtorEq,Nat.reduceAdd,Nat.reduceMul,Nat.reduceLeDiff,quietOp,blindOp,Int.reduceEq,Int.reduceLT,Int.reduceLE,Nat.reduceLT,ti2,ti3,ti4,ti45,ti46,ti38,ti25,ti30,ti22,ti32,ti24,ti95,ti172,ti169,ti165,ti166,ti65,ti143,ti87, hone, builtE, hx0.len]
  refine awp_loop (fun m t H' => ∃ a : Nat, m = ll.length - a ∧ a ≤ ll.length ∧ t 13 = .int .i64 a ∧ t 12 = .int .i64 ll.length ∧ t 11 = x ∧ t 2 = .func (.func g) #[] cap.toArray ∧ t 3 = .pointer (some ⟨H.next, 0, none⟩) ∧ H.next < H'.next ∧ H'.row H.next = some ⟨32, true, [.int .i64 n, v]⟩ ∧ S (meets n l ll a) H') ll.length ?_ ?_
  · refine ⟨0, by omega, by omega, ?_⟩
    try simp (disch := first | omega | (simp only [ints_length, List.length_replicate]; done) | (simp only [ints_length, List.length_replicate]; omega)) only [Sall,evalOp,init,binE,binI,unE,convE,okNil,builtE,gv,TD.isAgg,resV,↓reduceIte,Nat.reduceEqDiff,reduceCtorEq,Nat.reduceAdd,Nat.reduceMul,Nat.reduceLeDiff,quietOp,blindOp,Int.reduceEq,Int.reduceLT,Int.reduceLE,Nat.reduceLT,ti2,ti3,ti4,ti45,ti46,ti38,ti25,ti30,ti22,ti32,ti24,ti95,ti172,ti169,ti165,ti166,ti65,ti143,ti87, Int.natCast_zero, meets_zero]
    exact ⟨by omega, hSt _ _ _ S0 (by omega) fun i hi => by rw [AH.push_row, if_neg (by omega)]⟩
  · rintro m t H' ⟨a, hm, h14, h13, h12, h11, h2, h3, hnx, hr1, hS⟩
    try simp (disch := first | omega | (simp only [ints_length, List.length_replicate]; done) | (simp only [ints_length, List.length_replicate]; omega)) only [Sall,evalOp,init,binE,binI,unE,convE,okNil,builtE,gv,TD.isAgg,resV,↓reduceIte,Nat.reduceEqDiff,reduceCtorEq,Nat.reduceAdd,Nat.reduceMul,Nat.reduceLeDiff,quietOp,blindOp,Int.reduceEq,Int.reduceLT,Int.reduceLE,Nat.reduceLT,ti2,ti3,ti4,ti45,ti46,ti38,ti25,ti30,ti22,ti32,ti24,ti95,ti172,ti169,ti165,ti166,ti65,ti143,ti87, h13, h12]
    refine condC_dec (fun h => ?_) (fun h => ?_)
    · obtain ⟨i, o, u, c, r, y, my, ex, hrB, hy, hsx, hok⟩ := hx.get (j := a) (by omega)
      obtain ⟨i', o', u', c', r', ev, hrB', hc', hs', hg'⟩ := hv.get (by omega)
      have hr := hSr _ _ hS _ _ hrB
      have hr' := hSr _ _ hS _ _ hrB'
      have hmm := hsx.lenK1
      obtain ⟨hlen, hvals⟩ := hrs a (by omega)
      have hrl : (rnd l a).length = 14 := rnd_length l a k hv.1 (by omega)
      try simp (disch := first | omega | (simp only [ints_length, List.length_replicate]; done) | (simp only [ints_length, List.length_replicate]; omega)) only [Sall,evalOp,init,binE,binI,unE,convE,okNil,builtE,gv,TD.isAgg,resV,↓reduceIte,Nat.reduceEqDiff,reduceCtorEq,Nat.reduceAdd,Nat.reduceMul,Nat.reduceLeDiff,quietOp,blindOp,Int.reduceEq,Int.reduceLT,Int.reduceLE,Nat.reduceLT,ti2,ti3,ti4,ti45,ti46,ti38,ti25,ti30,ti22,ti32,ti24,ti95,ti172,ti169,ti165,ti166,ti65,ti143,ti87, h13, h12, h11, ex, hr, hy, hok]
      refine ⟨⟨by omega, by omega⟩, ?_⟩
      refine draw_in [0, 1, 2, 3, 4, 5, 6, 9, 7, 8] (by kernel_rfl) (by kernel_rfl) rfl ?_
      try simp (disch := first | omega | (simp only [ints_length, List.length_replicate]; done) | (simp only [ints_length, List.length_replicate]; omega)) only [Sall,evalOp,init,binE,binI,unE,convE,okNil,builtE,gv,TD.isAgg,resV,↓reduceIte,Nat.reduceEqDiff,reduceCtorEq,Nat.reduceAdd,Nat.reduceMul,Nat.reduceLeDiff,quietOp,blindOp,Int.reduceEq,Int.reduceLT,Int.reduceLE,Nat.reduceLT,ti2,ti3,ti4,ti45,ti46,ti38,ti25,ti30,ti22,ti32,ti24,ti95,ti172,ti169,ti165,ti166,ti65,ti143,ti87, h3, hr1, ev, hr', hg', builtE]
      refine ⟨⟨by omega, by omega⟩, by omega, ACalls.wf (by kernel_rfl) fun hs1 => (pairs_c n (rnd l a) hrl (by omega) H').mono ?_⟩
      rintro p H3 ⟨up3, hp⟩
      have hpl := hp.rd.len
      refine ⟨.inr (.inr (up3.le hs1)), ?_⟩
      have n3 := up3.next
      have hr3 : H3.row H.next = some ⟨32, true, [.int .i64 n, .slice (some ⟨i', o', u'⟩) k c']⟩ := by rw [up3.row _ hnx, hr1, ev]
      have hS3 : S (meets n l ll a) H3 := hSt _ _ _ hS n3 fun i hi => up3.row i (by omega)
      have hplen := pairsL_le (rnd l a) n
      have hround := hrounds a (by omega)
      refine Holds.mp ?_
      try simp (disch := first | omega | (simp only [ints_length, List.length_replicate]; done) | (simp only [ints_length, List.length_replicate]; omega)) only [Sall,evalOp,init,binE,binI,unE,convE,okNil,builtE,gv,TD.isAgg,resV,↓reduceIte,Nat.reduceEqDiff,reduceCtorEq,Nat.reduceAdd,Nat.reduceMul,Nat.reduceLeDiff,quietOp,blindOp,Int.reduceEq,Int.reduceLT,Int.reduceLE,Nat.reduceLT,ti2,ti3,ti4,ti45,ti46,ti38,ti25,ti30,ti22,ti32,ti24,ti95,ti172,ti169,ti165,ti166,ti65,ti143,ti87, builtE, hpl, h13, h12, h11, h2, h3]
      refine awp_loop (fun z t H4 => ∃ b : Nat, z = (pairsL (rnd l a) n).length - b ∧ b ≤ (pairsL (rnd l a) n).length ∧ t 27 = .int .i64 b ∧ t 26 = .int .i64 (pairsL (rnd l a) n).length ∧ t 25 = p ∧ t 6 = .int .i64 a ∧ t 7 = y ∧ t 13 = .int .i64 a ∧ t 12 = .int .i64 ll.length ∧ t 11 = x ∧ t 2 = .func (.func g) #[] cap.toArray ∧ t 3 = .pointer (some ⟨H.next, 0, none⟩) ∧ H3.next ≤ H4.next ∧ H4.row H.next = some ⟨32, true, [.int .i64 n, v]⟩ ∧
          Fr2 1 38 2 H'.next H3.next H4 p (pairsL (rnd l a) n) ∧ S (meets n l ll a ++ evRound n a (rnd l a) (ll.getD a []) b) H4) (pairsL (rnd l a) n).length ?_ ?_
      · refine ⟨0, by omega, by omega, ?_⟩
        try simp (disch := first | omega | (simp only [ints_length, List.length_replicate]; done) | (simp only [ints_length, List.length_replicate]; omega)) only [Sall,evalOp,init,binE,binI,unE,convE,okNil,builtE,gv,TD.isAgg,resV,↓reduceIte,Nat.reduceEqDiff,reduceCtorEq,Nat.reduceAdd,Nat.reduceMul,Nat.reduceLeDiff,quietOp,blindOp,Int.reduceEq,Int.reduceLT,Int.reduceLE,Nat.reduceLT,ti2,ti3,ti4,ti45,ti46,ti38,ti25,ti30,ti22,ti32,ti24,ti95,ti172,ti169,ti165,ti166,ti65,ti143,ti87, Int.natCast_zero, evRound_zero, List.append_nil, h13, h12, h11, h2, h3, ex]
        exact ⟨hr3.trans (by rw [ev]), hp, hS3⟩
      · rintro z t H4 ⟨b, hz, hbp, h27, h26, h25, h6, h7, h13, h12, h11, h2, h3, hn4, hr4, hp4, hS4⟩
        try simp (disch := first | omega | (simp only [ints_length, List.length_replicate]; done) | (simp only [ints_length, List.length_replicate]; omega)) only [Sall,evalOp,init,binE,binI,unE,convE,okNil,builtE,gv,TD.isAgg,resV,↓reduceIte,Nat.reduceEqDiff,reduceCtorEq,Nat.reduceAdd,Nat.reduceMul,Nat.reduceLeDiff,quietOp,blindOp,Int.reduceEq,Int.reduceLT,Int.reduceLE,Nat.reduceLT,ti2,ti3,ti4,ti45,ti46,ti38,ti25,ti30,ti22,ti32,ti24,ti95,ti172,ti169,ti165,ti166,ti65,ti143,ti87, h27, h26]
        refine condC_dec (fun hh => ?_) (fun hh => ?_)
        · obtain ⟨pi, pvs, px, pm, pb, pc, rfl, q1, q2, q3, q4, q5, q6, q7, q8⟩ := hp4.getF (j := b) (by omega)
          have hpm := q8.lenK1
          obtain ⟨aa, ha1, ha2, ha3⟩ := pairsL_get (rnd l a) n b (by omega)
          obtain ⟨_, ha4, ha5, _⟩ := roundB_at hround (a := aa) (by omega)
          obtain ⟨i5, o5, u5, c5, r5, rfl, gB, g2, g3, _⟩ := hsx.get (by omega)
          have g1 := hSr _ _ hS4 _ _ gB
          have g4 := g3 b (by omega)
          rw [ha3] at q8 hpm
          simp only [List.length_cons, List.length_nil] at hpm
          obtain rfl : pm = 2 := hpm
          obtain ⟨i6, w1, w2, rfl, w3⟩ := q8.get (by omega)
          have evs0 : meets n l ll a ++ evRound n a (rnd l a) (ll.getD a []) (b + 1) = ((meets n l ll a ++ evRound n a (rnd l a) (ll.getD a []) b) ++ [(a, (aa : Int), (rnd l a).getD aa 0, wonI ((ll.getD a []).getD b 0))]) ++ [(a, (rnd l a).getD aa 0, (aa : Int), 2 - wonI ((ll.getD a []).getD b 0))] := by
            rw [evRound_succ, ha3]; simp [evPair]
          have i0 : (ints [(aa : Int), (rnd l a).getD aa 0])[Int.toNat 0]? = some (.int .i64 aa) := rfl
          have i1 : (ints [(aa : Int), (rnd l a).getD aa 0])[Int.toNat 1]? = some (.int .i64 ((rnd l a).getD aa 0)) := rfl
          have st1 := fun o (ho : 0 ≤ o ∧ o ≤ 2) => hstep _ a (aa : Int) ((rnd l a).getD aa 0) o H4 hS4 (by omega) (by omega) (by omega) (by omega) ho
          refine Holds.mp ?_
          rcases won_cases ((ll.getD a []).getD b 0) with ⟨f1, f2, fw⟩ | ⟨f1, f2, fw⟩ | ⟨f1, f2, fw⟩ <;> rw [fw] at evs0 <;> rw [holds_def]
          all_goals
            try simp (disch := first | omega | (simp only [ints_length, List.length_replicate]; done) | (simp only [ints_length, List.length_replicate]; omega)) only [Sall,evalOp,init,binE,binI,unE,convE,okNil,builtE,gv,TD.isAgg,resV,↓reduceIte,Nat.reduceEqDiff,reduceCtorEq,Nat.reduceAdd,Nat.reduceMul,Nat.reduceLeDiff,quietOp,blindOp,Int.reduceEq,Int.reduceLT,Int.reduceLE,Nat.reduceLT,ti2,ti3,ti4,ti45,ti46,ti38,ti25,ti30,ti22,ti32,ti24,ti95,ti172,ti169,ti165,ti166,ti65,ti143,ti87, h27, h26, h25, h6, h7, q3, q5, g1, g4, f1, f2]
            refine ⟨⟨by omega, by omega⟩, ⟨by omega, by omega⟩, ?_⟩
            refine draw_id (by kernel_rfl) (by kernel_rfl) ?_
            try simp (disch := first | omega | (simp only [ints_length, List.length_replicate]; done) | (simp only [ints_length, List.length_replicate]; omega)) only [Sall,evalOp,init,binE,binI,unE,convE,okNil,builtE,gv,TD.isAgg,resV,↓reduceIte,Nat.reduceEqDiff,reduceCtorEq,Nat.reduceAdd,Nat.reduceMul,Nat.reduceLeDiff,quietOp,blindOp,Int.reduceEq,Int.reduceLT,Int.reduceLE,Nat.reduceLT,ti2,ti3,ti4,ti45,ti46,ti38,ti25,ti30,ti22,ti32,ti24,ti95,ti172,ti169,ti165,ti166,ti65,ti143,ti87, h27, h6, h2, w3, i0, i1]
            refine ⟨by omega, by omega, (st1 _ (by omega)).mono ?_⟩
            rintro _ H5 ⟨hS5, n5, s5⟩
            refine ⟨.inr (.inl (by kernel_rfl)), ?_⟩
            have w5 : H5.row i6 = some ⟨2, true, ints [(aa : Int), (rnd l a).getD aa 0]⟩ := by rw [s5 _ (by omega) (by omega), w3]
            refine Holds.mp ?_
            try simp (disch := first | omega | (simp only [ints_length, List.length_replicate]; done) | (simp only [ints_length, List.length_replicate]; omega)) only [Sall,evalOp,init,binE,binI,unE,convE,okNil,builtE,gv,TD.isAgg,resV,↓reduceIte,Nat.reduceEqDiff,reduceCtorEq,Nat.reduceAdd,Nat.reduceMul,Nat.reduceLeDiff,quietOp,blindOp,Int.reduceEq,Int.reduceLT,Int.reduceLE,Nat.reduceLT,ti2,ti3,ti4,ti45,ti46,ti38,ti25,ti30,ti22,ti32,ti24,ti95,ti172,ti169,ti165,ti166,ti65,ti143,ti87, h27, h6, h2]
            refine draw_id (by kernel_rfl) (by kernel_rfl) ?_
            try simp (disch := first | omega | (simp only [ints_length, List.length_replicate]; done) | (simp only [ints_length, List.length_replicate]; omega)) only [Sall,evalOp,init,binE,binI,unE,convE,okNil,builtE,gv,TD.isAgg,resV,↓reduceIte,Nat.reduceEqDiff,reduceCtorEq,Nat.reduceAdd,Nat.reduceMul,Nat.reduceLeDiff,quietOp,blindOp,Int.reduceEq,Int.reduceLT,Int.reduceLE,Nat.reduceLT,ti2,ti3,ti4,ti45,ti46,ti38,ti25,ti30,ti22,ti32,ti24,ti95,ti172,ti169,ti165,ti166,ti65,ti143,ti87, h27, h6, h2, w5, i0, i1, w64]
            refine ⟨by omega, by omega, (hstep _ a ((rnd l a).getD aa 0) (aa : Int) _ H5 hS5 (by omega) (by omega) (by omega) (by omega) (by omega)).mono ?_⟩
            rintro _ H6 ⟨hS6, n6, s6⟩
            refine ⟨.inr (.inl (by kernel_rfl)), ?_⟩
            refine Holds.mp ?_
            try simp (disch := first | omega | (simp only [ints_length, List.length_replicate]; done) | (simp only [ints_length, List.length_replicate]; omega)) only [Sall,evalOp,init,binE,binI,unE,convE,okNil,builtE,gv,TD.isAgg,resV,↓reduceIte,Nat.reduceEqDiff,reduceCtorEq,Nat.reduceAdd,Nat.reduceMul,Nat.reduceLeDiff,quietOp,blindOp,Int.reduceEq,Int.reduceLT,Int.reduceLE,Nat.reduceLT,ti2,ti3,ti4,ti45,ti46,ti38,ti25,ti30,ti22,ti32,ti24,ti95,ti172,ti169,ti165,ti166,ti65,ti143,ti87, h27, h26, h6, h7, h13, h12, h11, h2, h3, w64]
            refine ⟨(pairsL (rnd l a) n).length - (b + 1), by omega, b + 1, rfl, by omega, by omega, h25, by omega, ?_, ?_, ?_⟩
            · rw [s6 _ (by omega) (by omega), s5 _ (by omega) (by omega), hr4]
            · exact hp4.same fun z hz1 hz2 => by rw [s6 _ (by omega) (by omega), s5 _ (by omega) (by omega)]
            · rw [evs0]; exact hS6
        · try simp (disch := first | omega | (simp only [ints_length, List.length_replicate]; done) | (simp only [ints_length, List.length_replicate]; omega)) only [Sall,evalOp,init,binE,binI,unE,convE,okNil,builtE,gv,TD.isAgg,resV,↓reduceIte,Nat.reduceEqDiff,reduceCtorEq,Nat.reduceAdd,Nat.reduceMul,Nat.reduceLeDiff,quietOp,blindOp,Int.reduceEq,Int.reduceLT,Int.reduceLE,Nat.reduceLT,ti2,ti3,ti4,ti45,ti46,ti38,ti25,ti30,ti22,ti32,ti24,ti95,ti172,ti169,ti165,ti166,ti65,ti143,ti87, h13, h12, h11, h2, h3, w64]
          have hbb : b = (pairsL (rnd l a) n).length := by omega
          refine ⟨ll.length - (a + 1), by omega, a + 1, rfl, by omega, by omega, by omega, hr4, ?_⟩
          rw [meets_succ, ← hbb]; exact hS4
    · try simp (disch := first | omega | (simp only [ints_length, List.length_replicate]; done) | (simp only [ints_length, List.length_replicate]; omega)) only [Sall,evalOp,init,binE,binI,unE,convE,okNil,builtE,gv,TD.isAgg,resV,↓reduceIte,Nat.reduceEqDiff,reduceCtorEq,Nat.reduceAdd,Nat.reduceMul,Nat.reduceLeDiff,quietOp,blindOp,Int.reduceEq,Int.reduceLT,Int.reduceLE,Nat.reduceLT,ti2,ti3,ti4,ti45,ti46,ti38,ti25,ti30,ti22,ti32,ti24,ti95,ti172,ti169,ti165,ti166,ti65,ti143,ti87, true_and]
      have ha : a = ll.length := by omega
      subst ha
      exact ⟨hS, by omega⟩
end Go.Proofs.Ytgkmdfjjlghecaa.A
end

section
set_option linter.unusedSimpArgs false
set_option linter.unusedVariables false
set_option maxRecDepth 100000
namespace Go.Proofs.Ytgkmdfjjlghecaa.A
open Go Go.Abs Go.RowKit

theorem zeros_int1 (n : Nat) : zeros n [.int .i64 0] = ints (List.replicate n 0) := by
  have h := zeros_ints n 1
  rw [Nat.mul_one] at h; exact h

theorem points1_c (b own : Int) (H : AH) : ACalls Try.prog 199 [.int .i64 b, .int .i64 own] H (is (.int .i64 own) H) := by
  refine acalls_of_awp [.tmp 4] Try.func199 (by kernel_rfl) rfl rfl (Nat.le_of_ble_eq_true rfl) (by kernel_rfl) ?_
  try simp (disch := first | omega | (simp only [ints_length, List.length_replicate]; done) | (simp only [ints_length, List.length_replicate]; omega)) only [Sall,evalOp,init,binE,binI,unE,convE,okNil,builtE,gv,TD.isAgg,resV,↓reduceIte,Nat.reduceEqDiff,reduceCtorEq,Nat.reduceAdd,Nat.reduceMul,Nat.reduceLeDiff,quietOp,blindOp,Int.reduceEq,Int.reduceLT,Int.reduceLE,Nat.reduceLT,ti2,ti3,ti4,ti45,ti46,ti38,ti25,ti30,ti22,ti32,ti24,ti95,ti172,ti169,ti165,ti166,ti65,ti143,ti87, is]

theorem second1_c (b own : Int) (pp : Nat) (pv : Value) (m : Nat) (pts : List Int) (H : AH) (hp : H.row pp = some ⟨38, true, [pv]⟩) (hv : Rd 1 H pv m pts) (hb : 0 ≤ b ∧ b < m) :
    ACalls Try.prog 201 [.int .i64 b, .int .i64 own, .pointer (some ⟨pp, 0, none⟩)] H (is (.int .i64 (pts.getD b.toNat 0)) H) := by
  refine acalls_of_awp [.tmp 5] Try.func201 (by kernel_rfl) rfl rfl (Nat.le_of_ble_eq_true rfl) (by kernel_rfl) ?_
  obtain ⟨i, o, u, c, r, rfl, hr, hc, hs, _⟩ := hv.get (by omega)
  have h1 := hs b.toNat (by omega)
  try simp (disch := first | omega | (simp only [ints_length, List.length_replicate]; done) | (simp only [ints_length, List.length_replicate]; omega)) only [Sall,evalOp,init,binE,binI,unE,convE,okNil,builtE,gv,TD.isAgg,resV,↓reduceIte,Nat.reduceEqDiff,reduceCtorEq,Nat.reduceAdd,Nat.reduceMul,Nat.reduceLeDiff,quietOp,blindOp,Int.reduceEq,Int.reduceLT,Int.reduceLE,Nat.reduceLT,ti2,ti3,ti4,ti45,ti46,ti38,ti25,ti30,ti22,ti32,ti24,ti95,ti172,ti169,ti165,ti166,ti65,ti143,ti87, hp, hr, h1, is]
  exact hb

theorem summed1_c (rd a b own z : Int) (g2 : FuncId) (cap2 : List Value) (oi fi i n : Nat) (outl : List Int) (H : AH) (ho : H.row oi = some ⟨38, true, [.slice (some ⟨i, 0, some 1⟩) n n]⟩)
    (hi : H.row i = some ⟨2, true, ints outl⟩) (hf : H.row fi = some ⟨172, true, [.func (.func g2) #[] cap2.toArray]⟩) (hl : outl.length = n) (ha : 0 ≤ a ∧ a < n)
    (hc : ACalls Try.prog g2 (.int .i64 b :: .int .i64 own :: cap2) H (is (.int .i64 z) H)) :
    ACalls Try.prog 222 [.int .i64 rd, .int .i64 a, .int .i64 b, .int .i64 own, .pointer (some ⟨oi, 0, none⟩), .pointer (some ⟨fi, 0, none⟩)] H (fun _ H' => H' = H.setCells i (ints (addAt outl a z))) := by
  refine acalls_of_awp [] Try.func222 (by kernel_rfl) rfl rfl (Nat.le_of_ble_eq_true rfl) (by kernel_rfl) ?_
  refine draw_id (by kernel_rfl) (by kernel_rfl) ?_
  have hc' : ACalls Try.prog g2 ([.int .i64 b, .int .i64 own] ++ cap2) H (is (.int .i64 z) H) := hc
  try simp (disch := first | omega | (simp only [ints_length, List.length_replicate]; done) | (simp only [ints_length, List.length_replicate]; omega)) only [Sall,evalOp,init,binE,binI,unE,convE,okNil,builtE,gv,TD.isAgg,resV,↓reduceIte,Nat.reduceEqDiff,reduceCtorEq,Nat.reduceAdd,Nat.reduceMul,Nat.reduceLeDiff,quietOp,blindOp,Int.reduceEq,Int.reduceLT,Int.reduceLE,Nat.reduceLT,ti2,ti3,ti4,ti45,ti46,ti38,ti25,ti30,ti22,ti32,ti24,ti95,ti172,ti169,ti165,ti166,ti65,ti143,ti87, ho, hi, hf, ints_get?]
  refine ⟨by omega, hc'.to ?_⟩
  refine ⟨.inr (.inr (LE.refl _)), ?_⟩
  try simp (disch := first | omega | (simp only [ints_length, List.length_replicate]; done) | (simp only [ints_length, List.length_replicate]; omega)) only [Sall,evalOp,init,binE,binI,unE,convE,okNil,builtE,gv,TD.isAgg,resV,↓reduceIte,Nat.reduceEqDiff,reduceCtorEq,Nat.reduceAdd,Nat.reduceMul,Nat.reduceLeDiff,quietOp,blindOp,Int.reduceEq,Int.reduceLT,Int.reduceLE,Nat.reduceLT,ti2,ti3,ti4,ti45,ti46,ti38,ti25,ti30,ti22,ti32,ti24,ti95,ti172,ti169,ti165,ti166,ti65,ti143,ti87, ho, hi, hf, ints_set]
  refine ⟨by omega, by omega, .inr (.inl (by kernel_rfl)), ?_⟩
  rfl

theorem summed_c (n : Nat) (v : Value) (k : Nat) (l : List Int) (x : Value) (ll : List (List Int)) (g : FuncId) (cap : List Value) (f : Int → Int → Int) (H : AH)
    (hb : schedB n k l = true) (hres : resB n k l ll = true) (hl : ll.length ≤ 4294967296) (hv : Rd 14 H v k l) (hx : Rd2 1 H x ll)
    (hc : ∀ (H' : AH) (b own : Int), Up H.next H H' → (0 ≤ b ∧ b < n) → (0 ≤ own ∧ own ≤ 2) → ACalls Try.prog g (.int .i64 b :: .int .i64 own :: cap) H' (is (.int .i64 (f b own)) H')) :
    ACalls Try.prog 198 [.agg #[.int .i64 n, v], x, .func (.func g) #[] cap.toArray] H (fun u H' => Up H.next H H' ∧ Fr 1 2 H.next H'.next H' u n (sumsF n f (meets n l ll ll.length))) := by
  refine ACalls.wf (by kernel_rfl) fun hs => acalls_of_awp [.tmp 6] Try.func198 (by kernel_rfl) rfl rfl (Nat.le_of_ble_eq_true rfl) (by kernel_rfl) ?_
  obtain ⟨hn, hk40, hrounds⟩ := schedB_at hb
  have hone := hv.one
  have ne0 : ¬ H.next = H.next + 1 + 2 := by omega
  try simp (disch := first | omega | (simp only [ints_length, List.length_replicate]; done) | (simp only [ints_length, List.length_replicate]; omega)) only [Sall,evalOp,init,binE,binI,unE,convE,okNil,builtE,gv,TD.isAgg,resV,↓reduceIte,Nat.reduceEqDiff,reduceCtorEq,Nat.reduceAdd,Nat.reduceMul,Nat.reduceLeDiff,quietOp,blindOp,Int.reduceEq,Int.reduceLT,Int.reduceLE,Nat.reduceLT,ti2,ti3,ti4,ti45,ti46,ti38,ti25,ti30,ti22,ti32,ti24,ti95,ti172,ti169,ti165,ti166,ti65,ti143,ti87, hone, zeros_int1, ne0]
  refine ⟨by omega, ?_⟩
  obtain ⟨Hg, eg⟩ : ∃ Hg, Hg = ((((H.push ⟨32, true, [.int .i64 n, v]⟩).push ⟨172, true, [.func (.func g) #[] cap.toArray]⟩).push ⟨2, true, ints (List.replicate n 0)⟩).push ⟨38, true, [.slice none 0 0]⟩).setCells (H.next + 1 + 2) [.slice (some ⟨H.next + 2, 0, some 1⟩) n n] := ⟨_, rfl⟩
  have up0 : Up H.next H Hg := by rw [eg]; exact (((((Up.refl _ H).push (by omega) _).push (by simp only [AH.push_next]; omega) _).push (by simp only [AH.push_next]; omega) _).push (by simp only [AH.push_next]; omega) _).set (by omega) _
  have ng : Hg.next = H.next + 4 := by rw [eg]; rfl
  have g0 : Hg.row H.next = some ⟨32, true, [.int .i64 n, v]⟩ := by rw [eg]; simp [AH.setCells_row, AH.push_row, AH.push_next] <;> (repeat rw [if_neg (by omega)])
  have g1 : Hg.row (H.next + 1) = some ⟨172, true, [.func (.func g) #[] cap.toArray]⟩ := by rw [eg]; simp [AH.setCells_row, AH.push_row, AH.push_next] <;> (repeat rw [if_neg (by omega)])
  have g2 : Hg.row (H.next + 2) = some ⟨2, true, ints (List.replicate n 0)⟩ := by rw [eg]; simp [AH.setCells_row, AH.push_row, AH.push_next] <;> (repeat rw [if_neg (by omega)])
  have g3 : Hg.row (H.next + 3) = some ⟨38, true, [.slice (some ⟨H.next + 2, 0, some 1⟩) n n]⟩ := by rw [eg]; simp [AH.setCells_row, AH.push_row, AH.push_next] <;> (repeat rw [if_neg (by omega)])
  rw [← eg]
  clear eg
  try simp (disch := first | omega | (simp only [ints_length, List.length_replicate]; done) | (simp only [ints_length, List.length_replicate]; omega)) only [Sall,evalOp,init,binE,binI,unE,convE,okNil,builtE,gv,TD.isAgg,resV,↓reduceIte,Nat.reduceEqDiff,reduceCtorEq,Nat.reduceAdd,Nat.reduceMul,Nat.reduceLeDiff,quietOp,blindOp,Int.reduceEq,Int.reduceLT,Int.reduceLE,Nat.reduceLT,ti2,ti3,ti4,ti45,ti46,ti38,ti25,ti30,ti22,ti32,ti24,ti95,ti172,ti169,ti165,ti166,ti65,ti143,ti87, g0, List.mem_cons, List.not_mem_nil, or_false, forall_eq_or_imp, forall_eq, Array.size_empty]
  refine (games_c n v k l x ll 222 [.pointer (some ⟨H.next + 3, 0, none⟩), .pointer (some ⟨H.next + 1, 0, none⟩)]
    (fun es H1 => Up H.next H H1 ∧ H.next + 4 ≤ H1.next ∧ H1.row (H.next + 1) = some ⟨172, true, [.func (.func g) #[] cap.toArray]⟩ ∧ H1.row (H.next + 2) = some ⟨2, true, ints (sumsF n f es)⟩ ∧ H1.row (H.next + 3) = some ⟨38, true, [.slice (some ⟨H.next + 2, 0, some 1⟩) n n]⟩)
    H Hg hb hres ⟨up0, by omega, g1, by rw [sumsF_nil]; exact g2, g3⟩ hl hv hx (fun es H' hS i r hr => by rw [hS.1.row i (hs _ _ hr), hr]) ?_ ?_).mono ?_
  · rintro es H1 H2 ⟨u1, m1, k1, k2, k3⟩ hn2 hr2
    exact ⟨⟨by have := u1.next; omega, fun i hi => by rw [hr2 i (by omega), u1.row i hi]⟩, by omega, by rw [hr2 _ (by omega), k1], by rw [hr2 _ (by omega), k2], by rw [hr2 _ (by omega), k3]⟩
  · rintro es rd p q o H1 ⟨u1, m1, k1, k2, k3⟩ hn1 hrd hp hq ho
    have hc1 := hc H1 q o u1 hq ho
    have hlen := sumsF_length n f es
    refine (summed1_c rd p q o _ g cap (H.next + 3) (H.next + 1) (H.next + 2) n _ H1 k3 k2 k1 hlen hp hc1).mono ?_
    rintro _ H2 rfl
    refine ⟨⟨u1.set (by omega) _, by rw [AH.setCells_next]; omega, ?_, ?_, ?_⟩, by rw [AH.setCells_next]; omega, fun i hi1 hi2 => ?_⟩
    · rw [AH.setCells_row, if_neg (by omega), k1]
    · rw [AH.setCells_row, if_pos rfl, k2, sumsF_append]; rfl
    · rw [AH.setCells_row, if_neg (by omega), k3]
    · rw [AH.setCells_row, if_neg (by omega)]
  · rintro _ H2 ⟨⟨u1, m1, k1, k2, k3⟩, hn2⟩
    refine Holds.mp ?_
    try simp (disch := first | omega | (simp only [ints_length, List.length_replicate]; done) | (simp only [ints_length, List.length_replicate]; omega)) only [Sall,evalOp,init,binE,binI,unE,convE,okNil,builtE,gv,TD.isAgg,resV,↓reduceIte,Nat.reduceEqDiff,reduceCtorEq,Nat.reduceAdd,Nat.reduceMul,Nat.reduceLeDiff,quietOp,blindOp,Int.reduceEq,Int.reduceLT,Int.reduceLE,Nat.reduceLT,ti2,ti3,ti4,ti45,ti46,ti38,ti25,ti30,ti22,ti32,ti24,ti95,ti172,ti169,ti165,ti166,ti65,ti143,ti87, k3]
    refine ⟨u1, sumsF_length n f _ |>.trans (Nat.mul_one n).symm, .inr ⟨H.next + 2, by omega, by omega, rfl, k2⟩⟩

theorem points_c (n : Nat) (v : Value) (k : Nat) (l : List Int) (x : Value) (ll : List (List Int)) (H : AH) (hb : schedB n k l = true) (hres : resB n k l ll = true) (hl : ll.length ≤ 4294967296) (hv : Rd 14 H v k l) (hx : Rd2 1 H x ll) :
    ACalls Try.prog 147 [.agg #[.int .i64 n, v], x] H (fun u H' => Up H.next H H' ∧ Fr 1 2 H.next H'.next H' u n (sumsF n (fun _ o => o) (meets n l ll ll.length))) := by
  refine ACalls.wf (by kernel_rfl) fun hs => acalls_of_awp [.tmp 4] Try.func147 (by kernel_rfl) rfl rfl (Nat.le_of_ble_eq_true rfl) (by kernel_rfl) ?_
  have hone := hv.one
  have up : Up H.next H (H.push ⟨32, true, [.int .i64 n, v]⟩) := (Up.refl _ H).push (Nat.le_refl _) _
  have hv1 := hv.same (up.le hs).row
  have hx1 := hx.same (up.le hs).row
  try simp (disch := first | omega | (simp only [ints_length, List.length_replicate]; done) | (simp only [ints_length, List.length_replicate]; omega)) only [Sall,evalOp,init,binE,binI,unE,convE,okNil,builtE,gv,TD.isAgg,resV,↓reduceIte,Nat.reduceEqDiff,reduceCtorEq,Nat.reduceAdd,Nat.reduceMul,Nat.reduceLeDiff,quietOp,blindOp,Int.reduceEq,Int.reduceLT,Int.reduceLE,Nat.reduceLT,ti2,ti3,ti4,ti45,ti46,ti38,ti25,ti30,ti22,ti32,ti24,ti95,ti172,ti169,ti165,ti166,ti65,ti143,ti87, hone]
  refine (summed_c n v k l x ll 199 [] (fun _ o => o) _ hb hres hl hv1 hx1 fun H' b own _ _ _ => points1_c b own H').mono ?_
  rintro u H' ⟨up2, hf⟩
  refine Holds.mp ?_
  try simp (disch := first | omega | (simp only [ints_length, List.length_replicate]; done) | (simp only [ints_length, List.length_replicate]; omega)) only [Sall,evalOp,init,binE,binI,unE,convE,okNil,builtE,gv,TD.isAgg,resV,↓reduceIte,Nat.reduceEqDiff,reduceCtorEq,Nat.reduceAdd,Nat.reduceMul,Nat.reduceLeDiff,quietOp,blindOp,Int.reduceEq,Int.reduceLT,Int.reduceLE,Nat.reduceLT,ti2,ti3,ti4,ti45,ti46,ti38,ti25,ti30,ti22,ti32,ti24,ti95,ti172,ti169,ti165,ti166,ti65,ti143,ti87, true_and]
  exact ⟨up.trans up2 (Nat.le_succ _), hf.wide (Nat.le_succ _) (Nat.le_refl _)⟩
end Go.Proofs.Ytgkmdfjjlghecaa.A
end

section
set_option linter.unusedSimpArgs false
set_option linter.unusedVariables false
namespace Go.Abs
open Go Go.RowKit

/-- Orders, with forks. -/
inductive OT
  | nil
  | one (i : Nat) (r : OT)
  | two (i j : Nat) (ri rj : OT)
  | three (i j k : Nat) (ri rj rk : OT)

def OT.depth : OT → Nat
  | .nil => 0
  | .one _ r => r.depth + 1
  | .two _ _ a b => max a.depth b.depth + 1
  | .three _ _ _ a b c => max a.depth (max b.depth c.depth) + 1

/-- A list, then a tree. -/
def OT.run : List Nat → OT → OT
  | [], r => r
  | i :: is, r => .one i (OT.run is r)

def okOT (ops : Array Oper) : OT → Array Bool → Bool
  | .nil, listed => (Region.ready .any ops listed).isEmpty
  | .one i r, listed =>
    (match ops[i]? with
     | some o => if quietOp o.op = true then (Region.ready .any ops listed).contains i && Region.free .any ops listed i else Region.ready .any ops listed == [i]
     | none => false) && okOT ops r (listed.setIfInBounds i true)
  | .two i j a b, listed => Region.ready .any ops listed == [i, j] && okOT ops a (listed.setIfInBounds i true) && okOT ops b (listed.setIfInBounds j true)
  | .three i j k a b c, listed => Region.ready .any ops listed == [i, j, k] && okOT ops a (listed.setIfInBounds i true) && okOT ops b (listed.setIfInBounds j true) && okOT ops c (listed.setIfInBounds k true)

def awpT (P : Program) (ops : Array Oper) (Q : T → AH → Prop) : (o : OT) → T → AH → (fun _ => Prop) (ops, Q, o)
  | .nil, t, H => Q t H
  | .one i r, t, H => stepI P ops (awpT P ops Q r) i (ops.toList[i]?) t H
  | .two i j a b, t, H => stepI P ops (awpT P ops Q a) i (ops.toList[i]?) t H ∧ stepI P ops (awpT P ops Q b) j (ops.toList[j]?) t H
  | .three i j k a b c, t, H => stepI P ops (awpT P ops Q a) i (ops.toList[i]?) t H ∧ stepI P ops (awpT P ops Q b) j (ops.toList[j]?) t H ∧ stepI P ops (awpT P ops Q c) k (ops.toList[k]?) t H

theorem stepI_a {P : Program} {ops : Array Oper} {K : T → AH → Prop} {i : Nat} {t : T} {H : AH} (h : stepI P ops K i (ops.toList[i]?) t H) :
    aStep P ops.toList i t H fun t' H' => ((∃ o, ops.toList[i]? = some o ∧ quietOp o.op = true) ∨ sinkB ops i = true ∨ LE H H') ∧ K t' H' := by
  unfold aStep
  cases e : ops.toList[i]? with
  | none => rw [e] at h; exact h.elim
  | some o =>
    rw [e] at h
    unfold stepI at h
    simp only
    cases hg : o.guard with
    | none => simp only [hg] at h ⊢; exact runOut_mono (fun v H' k => ⟨k.1.imp (fun q => ⟨o, rfl, q⟩) id, k.2⟩) _ h
    | some g => simp only [hg] at h ⊢; exact condW_mono h (runOut_mono (fun v H' k => ⟨k.1.imp (fun q => ⟨o, rfl, q⟩) id, k.2⟩) _) (fun k => ⟨.inr (.inr (LE.refl H)), k⟩)

/-- A quiet step leaves the heap. -/
theorem stepI_s {P : Program} {ops : Array Oper} {K : T → AH → Prop} {i : Nat} {t : T} {H : AH} (h : stepI P ops K i (ops.toList[i]?) t H) :
    aStep P ops.toList i t H fun t' H' => (sinkB ops i = true ∨ LE H H') ∧ K t' H' := by
  cases e : ops.toList[i]? with
  | none => rw [e] at h; exact h.elim
  | some o =>
    by_cases hq : quietOp o.op = true
    · have ho : ops[i]? = some o := by simpa using e
      obtain ⟨v, hy, hk⟩ := aStep_quiet ho hq (stepI_a h)
      exact hy.step ho hq ⟨.inr (LE.refl _), hk.2⟩
    · refine aStep_mono (stepI_a h) fun t' H' hk => ⟨?_, hk.2⟩
      rcases hk.1 with ⟨o', e', q'⟩ | k
      · rw [e] at e'; cases e'; exact absurd q' hq
      · exact k

theorem AAny_tree {P : Program} {ops : Array Oper} {Q : T → AH → Prop} : ∀ (ot : OT) (listed : Array Bool) (t : T) (H : AH) (f : Nat), ot.depth ≤ f → Closed ops listed → okOT ops ot listed = true → awpT P ops Q ot t H → AAny P ops Q f listed t H
  | .nil, listed, t, H, f, _, _, hok, h => by
    have hr : Region.ready .any ops listed = [] := by simpa [okOT] using hok
    cases f with
    | zero => exact ⟨hr, h⟩
    | succ f => exact ⟨fun _ => h, by rw [hr]; simp⟩
  | .one i r, listed, t, H, 0, hl, _, _, _ => by simp [OT.depth] at hl
  | .two i j a b, listed, t, H, 0, hl, _, _, _ => by simp [OT.depth] at hl
  | .three i j k a b c, listed, t, H, 0, hl, _, _, _ => by simp [OT.depth] at hl
  | .one i r, listed, t, H, f + 1, hl, hc, hok, h => by
    simp only [okOT, Bool.and_eq_true] at hok
    simp only [OT.depth] at hl
    obtain ⟨h1, h2⟩ := hok
    unfold awpT at h
    cases ho : ops[i]? with
    | none => simp [ho] at h1
    | some o =>
      simp only [ho] at h1
      split at h1
      · rename_i hq
        simp only [Bool.and_eq_true] at h1
        obtain ⟨hr, hfr⟩ := h1
        have hr' : i ∈ Region.ready .any ops listed := by simpa using hr
        obtain ⟨v, hy, hk⟩ := aStep_quiet ho hq (stepI_s h)
        exact AAny_first ho hq f listed t H hc (Region.free_spec ho hfr) hr' hy (AAny_tree r _ _ H f (by omega) (hc.set hr') h2 hk.2)
      · have hr : Region.ready .any ops listed = [i] := by simpa using h1
        refine ⟨fun h0 => (by rw [hr] at h0; cases h0), fun j hj => ?_⟩
        have hji : j = i := by rw [hr] at hj; simpa using hj
        subst hji
        exact aStep_mono (stepI_s h) fun t' H' hk => ⟨hk.1, AAny_tree r _ t' H' f (by omega) (hc.set hj) h2 hk.2⟩
  | .two i j a b, listed, t, H, f + 1, hl, hc, hok, h => by
    simp only [okOT, Bool.and_eq_true] at hok
    simp only [OT.depth] at hl
    obtain ⟨⟨h1, h2⟩, h3⟩ := hok
    unfold awpT at h
    have hr : Region.ready .any ops listed = [i, j] := by simpa using h1
    refine ⟨fun h0 => (by rw [hr] at h0; cases h0), fun x hx => ?_⟩
    have hx2 : x = i ∨ x = j := by rw [hr] at hx; simpa using hx
    rcases hx2 with rfl | rfl
    · exact aStep_mono (stepI_s h.1) fun t' H' hk => ⟨hk.1, AAny_tree a _ t' H' f (by omega) (hc.set hx) h2 hk.2⟩
    · exact aStep_mono (stepI_s h.2) fun t' H' hk => ⟨hk.1, AAny_tree b _ t' H' f (by omega) (hc.set hx) h3 hk.2⟩
  | .three i j k a b c, listed, t, H, f + 1, hl, hc, hok, h => by
    simp only [okOT, Bool.and_eq_true] at hok
    simp only [OT.depth] at hl
    obtain ⟨⟨⟨h1, h2⟩, h3⟩, h4⟩ := hok
    unfold awpT at h
    have hr : Region.ready .any ops listed = [i, j, k] := by simpa using h1
    refine ⟨fun h0 => (by rw [hr] at h0; cases h0), fun x hx => ?_⟩
    have hx2 : x = i ∨ x = j ∨ x = k := by rw [hr] at hx; simpa using hx
    rcases hx2 with rfl | rfl | rfl
    · exact aStep_mono (stepI_s h.1) fun t' H' hk => ⟨hk.1, AAny_tree a _ t' H' f (by omega) (hc.set hx) h2 hk.2⟩
    · exact aStep_mono (stepI_s h.2.1) fun t' H' hk => ⟨hk.1, AAny_tree b _ t' H' f (by omega) (hc.set hx) h3 hk.2⟩
    · exact aStep_mono (stepI_s h.2.2) fun t' H' hk => ⟨hk.1, AAny_tree c _ t' H' f (by omega) (hc.set hx) h4 hk.2⟩

theorem draw_tree {P : Program} {id : Nat} {ops : Array Oper} {Q : Exit → T → AH → Prop} {t : T} {H : AH} (ot : OT) (hm : P.follows .mixedOrders = true) (hok : okOT ops ot (Array.replicate ops.size false) = true) (hl : ot.depth ≤ ops.size)
    (h : awpT P ops (Q .normal) ot t H) : awp P (.region id ops true) Q t H := by
  intro base ρ w tmps QC hS hd hQ
  have hA := AAny_tree ot _ t H ops.size hl ⟨by simp, fun j oj hj hl => by rw [getD_replicate_false'] at hl; cases hl⟩ hok h
  refine wp_region_any hm (AAny_ok ops.size _ t H ρ w.drew tmps hA ⟨hS.1.drew, hS.2.ext (ext_drew (base := base) (H := H) w)⟩ ?_ fun t' H' ρ' w' tmps' hq hs he hz => ?_)
  · intro o ho i hi
    have := List.all_eq_true.1 hd o ho
    simp only [hi, decide_eq_true_eq] at this
    exact this
  · exact hQ .normal t' H' ρ' w' tmps' hq hs ((ext_drew (base := base) (H := H) (ρ := ρ) w).trans he) hz

theorem awpT_nil (P : Program) (ops : Array Oper) (Q : T → AH → Prop) (t : T) (H : AH) : awpT P ops Q .nil t H = Q t H := (rfl)
theorem awpT_one (P : Program) (ops : Array Oper) (Q : T → AH → Prop) (i : Nat) (r : OT) (t : T) (H : AH) : awpT P ops Q (.one i r) t H = stepI P ops (awpT P ops Q r) i (ops.toList[i]?) t H := (rfl)
theorem awpT_run_nil (P : Program) (ops : Array Oper) (Q : T → AH → Prop) (r : OT) (t : T) (H : AH) : awpT P ops Q (OT.run [] r) t H = awpT P ops Q r t H := (rfl)
theorem awpT_run_cons (P : Program) (ops : Array Oper) (Q : T → AH → Prop) (i : Nat) (is : List Nat) (r : OT) (t : T) (H : AH) : awpT P ops Q (OT.run (i :: is) r) t H = stepI P ops (awpT P ops Q (OT.run is r)) i (ops.toList[i]?) t H := (rfl)
theorem awpT_two {P : Program} {ops : Array Oper} {Q : T → AH → Prop} {i j : Nat} {a b : OT} {t : T} {H : AH} (h1 : stepI P ops (awpT P ops Q a) i (ops.toList[i]?) t H) (h2 : stepI P ops (awpT P ops Q b) j (ops.toList[j]?) t H) : awpT P ops Q (.two i j a b) t H := ⟨h1, h2⟩
theorem awpT_three {P : Program} {ops : Array Oper} {Q : T → AH → Prop} {i j k : Nat} {a b c : OT} {t : T} {H : AH} (h1 : stepI P ops (awpT P ops Q a) i (ops.toList[i]?) t H) (h2 : stepI P ops (awpT P ops Q b) j (ops.toList[j]?) t H) (h3 : stepI P ops (awpT P ops Q c) k (ops.toList[k]?) t H) : awpT P ops Q (.three i j k a b c) t H := ⟨h1, h2, h3⟩
@[congr] theorem awpT_congr {P : Program} {ops : Array Oper} {o : OT} {Q : T → AH → Prop} {t t' : T} {H H' : AH} (h : t = t') (k : H = H') : awpT P ops Q o t H = awpT P ops Q o t' H' := by rw [h, k]

theorem asCells_one {v : Value} (h : v.oneCell' = true) (f : List Value → Out) : asCells v f = f [v] := by
  cases v <;> first | rfl | (simp [Value.oneCell'] at h)

theorem awp_cutQ {P : Program} {a : Code} {Q : Exit → T → AH → Prop} {N : T → AH → Prop} {t : T} {H : AH} (M : T → AH → Prop) (h : awp P a (seqQ M Q) t H) (k : ∀ t H, M t H → N t H) : awp P a (seqQ N Q) t H :=
  awp_mono a _ _ t H (seqQ_mono k fun _ _ _ h => h) h

/-- All rows lie below the end. -/
def Sc (H : AH) : Prop := ∀ i r, H.row i = some r → i < H.next
theorem Sc.push {H : AH} (h : Sc H) (r : Row) : Sc (H.push r) := by
  intro i x hx
  rw [AH.push_row] at hx
  rw [AH.push_next]
  split at hx
  · omega
  · have := h i x hx; omega
theorem Sc.le {H : AH} (h : Sc H) (r : Row) : LE H (H.push r) := ⟨Nat.le_succ _, fun i x hx => by rw [AH.push_row, if_neg (by have := h i x hx; omega)]; exact hx⟩
theorem ACalls.sc {P : Program} {f : FuncId} {args : List Value} {H : AH} {R : Value → AH → Prop} (h : ACalls P f args H R) : ACalls P f args H (fun v H' => R v H' ∧ Sc H') := by
  refine ⟨h.1, fun base ρ w args' hR hL => (h.2 base ρ w args' hR hL).mono ?_⟩
  rintro e w' ⟨v', v, H', ρ', rfl, hv, R', r⟩
  exact ⟨v', v, H', ρ', rfl, ⟨hv, R'.scope⟩, R', r⟩
end Go.Abs
end

section
set_option linter.unusedSimpArgs false
set_option linter.unusedVariables false
set_option maxRecDepth 100000
namespace Go.Proofs.Ytgkmdfjjlghecaa.A
open Go Go.Abs Go.RowKit

theorem second_c (n : Nat) (v : Value) (k : Nat) (l : List Int) (x : Value) (ll : List (List Int)) (H : AH) (hb : schedB n k l = true) (hres : resB n k l ll = true) (hl : ll.length ≤ 4294967296) (hv : Rd 14 H v k l) (hx : Rd2 1 H x ll) :
    ACalls Try.prog 149 [.agg #[.int .i64 n, v], x] H (fun u H' => Up H.next H H' ∧ Fr 1 2 H.next H'.next H' u n (sumsF n (fun b _ => (sumsF n (fun _ o => o) (meets n l ll ll.length)).getD b.toNat 0) (meets n l ll ll.length))) := by
  refine ACalls.wf (by kernel_rfl) fun hs => acalls_of_awp [.tmp 4] Try.func149 (by kernel_rfl) rfl rfl (Nat.le_of_ble_eq_true rfl) (by kernel_rfl) ?_
  have hone := hv.one
  have up : Up H.next H (H.push ⟨32, true, [.int .i64 n, v]⟩) := (Up.refl _ H).push (Nat.le_refl _) _
  have e1 : (H.push ⟨32, true, [.int .i64 n, v]⟩).row H.next = some ⟨32, true, [.int .i64 n, v]⟩ := by rw [AH.push_row, if_pos rfl]
  have n1 : (H.push ⟨32, true, [.int .i64 n, v]⟩).next = H.next + 1 := rfl
  try simp (disch := first | omega | (simp only [ints_length, List.length_replicate]; done) | (simp only [ints_length, List.length_replicate]; omega)) only [Sall,evalOp,init,binE,binI,unE,convE,okNil,builtE,gv,TD.isAgg,resV,↓reduceIte,Nat.reduceEqDiff,reduceCtorEq,Nat.reduceAdd,Nat.reduceMul,Nat.reduceLeDiff,quietOp,blindOp,Int.reduceEq,Int.reduceLT,Int.reduceLE,Nat.reduceLT,ti2,ti3,ti4,ti45,ti46,ti38,ti25,ti30,ti22,ti32,ti24,ti95,ti172,ti169,ti165,ti166,ti65,ti143,ti87, hone]
  revert up e1 n1
  generalize H.push ⟨32, true, [.int .i64 n, v]⟩ = H1
  intro up e1 n1
  refine (points_c n v k l x ll H1 hb hres hl (hv.same (up.le hs).row) (hx.same (up.le hs).row)).mono ?_
  rintro u H2 ⟨up2, hf⟩
  have n2 := up2.next
  have u2 : Up H.next H H2 := up.trans up2 (by omega)
  have e2 : H2.row H.next = some ⟨32, true, [.int .i64 n, v]⟩ := by rw [up2.row _ (by omega), e1]
  have hu := hf.rd.one
  have ne : ¬ H.next = H2.next := by omega
  refine Holds.mp ?_
  try simp (disch := first | omega | (simp only [ints_length, List.length_replicate]; done) | (simp only [ints_length, List.length_replicate]; omega)) only [Sall,evalOp,init,binE,binI,unE,convE,okNil,builtE,gv,TD.isAgg,resV,↓reduceIte,Nat.reduceEqDiff,reduceCtorEq,Nat.reduceAdd,Nat.reduceMul,Nat.reduceLeDiff,quietOp,blindOp,Int.reduceEq,Int.reduceLT,Int.reduceLE,Nat.reduceLT,ti2,ti3,ti4,ti45,ti46,ti38,ti25,ti30,ti22,ti32,ti24,ti95,ti172,ti169,ti165,ti166,ti65,ti143,ti87, hone, hu, e2, ne, push_setCells, List.mem_cons, List.not_mem_nil, or_false, forall_eq_or_imp, forall_eq, Array.size_empty]
  obtain ⟨H3, e3⟩ : ∃ H3, H3 = H2.push ⟨38, true, [u]⟩ := ⟨_, rfl⟩
  have s3 : ∀ i, i < H2.next → H3.row i = H2.row i := fun i hi => by rw [e3, AH.push_row, if_neg (by omega)]
  have r3 : H3.row H2.next = some ⟨38, true, [u]⟩ := by rw [e3, AH.push_row, if_pos rfl]
  have n3 : H3.next = H2.next + 1 := by rw [e3]; rfl
  rw [← e3]
  clear e3
  have u3 : Up H.next H H3 := ⟨by have := u2.next; omega, fun i hi => by rw [s3 i (by omega), u2.row i hi]⟩
  have hf3 : Fr 1 2 H1.next H2.next H3 u n (sumsF n (fun _ o => o) (meets n l ll ll.length)) := hf.same fun i _ hi => s3 i hi
  refine (summed_c n v k l x ll 201 [.pointer (some ⟨H2.next, 0, none⟩)] (fun b _ => (sumsF n (fun _ o => o) (meets n l ll ll.length)).getD b.toNat 0) H3 hb hres hl (hv.same (u3.le hs).row) (hx.same (u3.le hs).row) ?_).mono ?_
  · intro H' b own up' hb' _
    exact second1_c b own H2.next u n _ H' (by rw [up'.row _ (by omega), r3]) (hf3.same (fun i _ hi => up'.row i (by omega))).rd hb'
  · rintro w H4 ⟨up4, hg⟩
    refine Holds.mp ?_
    try simp (disch := first | omega | (simp only [ints_length, List.length_replicate]; done) | (simp only [ints_length, List.length_replicate]; omega)) only [Sall,evalOp,init,binE,binI,unE,convE,okNil,builtE,gv,TD.isAgg,resV,↓reduceIte,Nat.reduceEqDiff,reduceCtorEq,Nat.reduceAdd,Nat.reduceMul,Nat.reduceLeDiff,quietOp,blindOp,Int.reduceEq,Int.reduceLT,Int.reduceLE,Nat.reduceLT,ti2,ti3,ti4,ti45,ti46,ti38,ti25,ti30,ti22,ti32,ti24,ti95,ti172,ti169,ti165,ti166,ti65,ti143,ti87, true_and]
    exact ⟨u3.trans up4 (by omega), hg.wide (by omega) (Nat.le_refl _)⟩

theorem resultsCode1_c (q : Int) (v : Value) (k : Nat) (l : List Int) (x : Value) (ll : List (List Int)) (g : FuncId) (cap : List Value) (b : Bool) (a0 a1 a2 : Nat) (H : AH) (hb : schedB q k l = true)
    (h0 : H.row a0 = some ⟨32, true, [.int .i64 q, v]⟩) (h1 : H.row a1 = some ⟨25, true, [x]⟩) (h2 : H.row a2 = some ⟨95, true, [.func (.func g) #[] cap.toArray]⟩)
    (hv : Rd 14 H v k l) (hk : k ≤ 4294967296) (hx : Rd2 1 H x ll) (hl : ll.length ≤ 4294967296) (hl2 : ∀ y ∈ ll, y.length ≤ 4294967296)
    (hg : resB q.toNat k l ll = true → ACalls Try.prog g cap H (is (.bool b) H)) :
    ACalls Try.prog 159 [.pointer (some ⟨a0, 0, none⟩), .pointer (some ⟨a1, 0, none⟩), .pointer (some ⟨a2, 0, none⟩)] H (is (.bool (resB q.toNat k l ll && b)) H) := by
  refine acalls_of_awp [.tmp 3] Try.func159 (by kernel_rfl) rfl rfl (Nat.le_of_ble_eq_true rfl) (by kernel_rfl) ?_
  have hone := hv.one
  have hx1 := hx.one
  obtain ⟨hn, _, _⟩ := schedB_at hb
  obtain ⟨n, rfl⟩ : ∃ n : Nat, q = n := ⟨q.toNat, by omega⟩
  rw [Int.toNat_natCast] at hg ⊢
  try simp (disch := first | omega | (simp only [ints_length, List.length_replicate]; done) | (simp only [ints_length, List.length_replicate]; omega)) only [Sall,evalOp,init,binE,binI,unE,convE,okNil,builtE,gv,TD.isAgg,resV,↓reduceIte,Nat.reduceEqDiff,reduceCtorEq,Nat.reduceAdd,Nat.reduceMul,Nat.reduceLeDiff,quietOp,blindOp,Int.reduceEq,Int.reduceLT,Int.reduceLE,Nat.reduceLT,ti2,ti3,ti4,ti45,ti46,ti38,ti25,ti30,ti22,ti32,ti24,ti95,ti172,ti169,ti165,ti166,ti65,ti143,ti87, h0, h1]
  refine (areResults_c n v k l x ll H (by omega) hv hk hx hl hl2).to ?_
  cases hr : resB n k l ll with
  | true =>
    have hg' := hg hr
    try simp (disch := first | omega | (simp only [ints_length, List.length_replicate]; done) | (simp only [ints_length, List.length_replicate]; omega)) only [Sall,evalOp,init,binE,binI,unE,convE,okNil,builtE,gv,TD.isAgg,resV,↓reduceIte,Nat.reduceEqDiff,reduceCtorEq,Nat.reduceAdd,Nat.reduceMul,Nat.reduceLeDiff,quietOp,blindOp,Int.reduceEq,Int.reduceLT,Int.reduceLE,Nat.reduceLT,ti2,ti3,ti4,ti45,ti46,ti38,ti25,ti30,ti22,ti32,ti24,ti95,ti172,ti169,ti165,ti166,ti65,ti143,ti87, h2]
    refine hg'.to ?_
    try simp (disch := first | omega | (simp only [ints_length, List.length_replicate]; done) | (simp only [ints_length, List.length_replicate]; omega)) only [Sall,evalOp,init,binE,binI,unE,convE,okNil,builtE,gv,TD.isAgg,resV,↓reduceIte,Nat.reduceEqDiff,reduceCtorEq,Nat.reduceAdd,Nat.reduceMul,Nat.reduceLeDiff,quietOp,blindOp,Int.reduceEq,Int.reduceLT,Int.reduceLE,Nat.reduceLT,ti2,ti3,ti4,ti45,ti46,ti38,ti25,ti30,ti22,ti32,ti24,ti95,ti172,ti169,ti165,ti166,ti65,ti143,ti87, is, Bool.true_and]
  | false =>
    try simp (disch := first | omega | (simp only [ints_length, List.length_replicate]; done) | (simp only [ints_length, List.length_replicate]; omega)) only [Sall,evalOp,init,binE,binI,unE,convE,okNil,builtE,gv,TD.isAgg,resV,↓reduceIte,Nat.reduceEqDiff,reduceCtorEq,Nat.reduceAdd,Nat.reduceMul,Nat.reduceLeDiff,quietOp,blindOp,Int.reduceEq,Int.reduceLT,Int.reduceLE,Nat.reduceLT,ti2,ti3,ti4,ti45,ti46,ti38,ti25,ti30,ti22,ti32,ti24,ti95,ti172,ti169,ti165,ti166,ti65,ti143,ti87, is, Bool.false_and]

theorem resultsCode_c (q : Int) (v : Value) (k : Nat) (l : List Int) (x : Value) (ll : List (List Int)) (g : FuncId) (cap : List Value) (b : Bool) (H : AH)
    (hv : Rd 14 H v k l) (hk : k ≤ 4294967296) (hx : Rd2 1 H x ll) (hl : ll.length ≤ 4294967296) (hl2 : ∀ y ∈ ll, y.length ≤ 4294967296)
    (hg : ∀ H', Up H.next H H' → schedB q k l = true → resB q.toNat k l ll = true → ACalls Try.prog g cap H' (is (.bool b) H')) :
    ACalls Try.prog 87 [.agg #[.int .i64 q, v], x, .func (.func g) #[] cap.toArray] H (is (.int .i64 (codeS q k l (resB q.toNat k l ll && b))) H) := by
  refine ACalls.wf (by kernel_rfl) fun hs => acalls_up rfl (acalls_of_awp [.tmp 6] Try.func87 (by kernel_rfl) rfl rfl (Nat.le_of_ble_eq_true rfl) (by kernel_rfl) ?_)
  have hone := hv.one
  have hx1 := hx.one
  have ne : ¬ H.next = H.next + 2 := by omega
  have ne1 : ¬ H.next = H.next + 1 + 1 := by omega
  try simp (disch := first | omega | (simp only [ints_length, List.length_replicate]; done) | (simp only [ints_length, List.length_replicate]; omega)) only [Sall,evalOp,init,binE,binI,unE,convE,okNil,builtE,gv,TD.isAgg,resV,↓reduceIte,Nat.reduceEqDiff,reduceCtorEq,Nat.reduceAdd,Nat.reduceMul,Nat.reduceLeDiff,quietOp,blindOp,Int.reduceEq,Int.reduceLT,Int.reduceLE,Nat.reduceLT,ti2,ti3,ti4,ti45,ti46,ti38,ti25,ti30,ti22,ti32,ti24,ti95,ti172,ti169,ti165,ti166,ti65,ti143,ti87, hone, asCells_one hx1, ne, ne1, List.mem_cons, List.not_mem_nil, or_false, forall_eq_or_imp, forall_eq, Array.size_empty]
  obtain ⟨Hg, eg⟩ : ∃ Hg, Hg = ((H.push ⟨32, true, [.int .i64 q, v]⟩).push ⟨25, true, [x]⟩).push ⟨95, true, [.func (.func g) #[] cap.toArray]⟩ := ⟨_, rfl⟩
  have up0 : Up H.next H Hg := by rw [eg]; exact (((Up.refl _ H).push (by omega) _).push (by simp only [AH.push_next]; omega) _).push (by simp only [AH.push_next]; omega) _
  have g0 : Hg.row H.next = some ⟨32, true, [.int .i64 q, v]⟩ := by rw [eg]; (simp [AH.setCells_row, AH.push_row, AH.push_next] <;> (try omega) <;> (repeat rw [if_neg (by omega)]))
  have g1 : Hg.row (H.next + 1) = some ⟨25, true, [x]⟩ := by rw [eg]; (simp [AH.setCells_row, AH.push_row, AH.push_next] <;> (try omega) <;> (repeat rw [if_neg (by omega)]))
  have g2 : Hg.row (H.next + 2) = some ⟨95, true, [.func (.func g) #[] cap.toArray]⟩ := by rw [eg]; (simp [AH.setCells_row, AH.push_row, AH.push_next] <;> (try omega) <;> (repeat rw [if_neg (by omega)]))
  have ng : Hg.next = H.next + 3 := by rw [eg]; rfl
  rw [← eg]
  clear eg
  refine (scheduleCode_c q v k l 159 [.pointer (some ⟨H.next, 0, none⟩), .pointer (some ⟨H.next + 1, 0, none⟩), .pointer (some ⟨H.next + 2, 0, none⟩)] (resB q.toNat k l ll && b) Hg (hv.same (up0.le hs).row) hk ?_).to ?_
  · intro H' up' hb'
    have u' : Up H.next H H' := up0.trans up' (by omega)
    exact resultsCode1_c q v k l x ll g cap b _ _ _ H' hb' (by rw [up'.row _ (by omega), g0]) (by rw [up'.row _ (by omega), g1]) (by rw [up'.row _ (by omega), g2]) (hv.same (u'.le hs).row) hk (hx.same (u'.le hs).row) hl hl2 (hg H' u' hb')
  · try simp (disch := first | omega | (simp only [ints_length, List.length_replicate]; done) | (simp only [ints_length, List.length_replicate]; omega)) only [Sall,evalOp,init,binE,binI,unE,convE,okNil,builtE,gv,TD.isAgg,resV,↓reduceIte,Nat.reduceEqDiff,reduceCtorEq,Nat.reduceAdd,Nat.reduceMul,Nat.reduceLeDiff,quietOp,blindOp,Int.reduceEq,Int.reduceLT,Int.reduceLE,Nat.reduceLT,ti2,ti3,ti4,ti45,ti46,ti38,ti25,ti30,ti22,ti32,ti24,ti95,ti172,ti169,ti165,ti166,ti65,ti143,ti87, true_and]
    exact up0

theorem l10Won_c (r : Int) (H : AH) : ACalls Try.prog 200 [.int .i64 r] H (is (.tuple #[.int .i64 (wonI r), .int .i64 (2 - wonI r)]) H) := by
  refine acalls_of_awp [.tmp 2, .tmp 3] Try.func200 (by kernel_rfl) rfl rfl (Nat.le_of_ble_eq_true rfl) (by kernel_rfl) ?_
  refine Holds.mp ?_
  rcases won_cases r with ⟨f1, f2, fw⟩ | ⟨f1, f2, fw⟩ | ⟨f1, f2, fw⟩ <;> rw [holds_def]
  all_goals
    try simp (disch := first | omega | (simp only [ints_length, List.length_replicate]; done) | (simp only [ints_length, List.length_replicate]; omega)) only [Sall,evalOp,init,binE,binI,unE,convE,okNil,builtE,gv,TD.isAgg,resV,↓reduceIte,Nat.reduceEqDiff,reduceCtorEq,Nat.reduceAdd,Nat.reduceMul,Nat.reduceLeDiff,quietOp,blindOp,Int.reduceEq,Int.reduceLT,Int.reduceLE,Nat.reduceLT,ti2,ti3,ti4,ti45,ti46,ti38,ti25,ti30,ti22,ti32,ti24,ti95,ti172,ti169,ti165,ti166,ti65,ti143,ti87, f1, f2, is]
    rw [fw]
    rfl

theorem l10Code_c (q : Int) (v : Value) (k : Nat) (l : List Int) (x : Value) (ll : List (List Int)) (tv : Value) (m : Nat) (ts : List Int) (H : AH)
    (hv : Rd 14 H v k l) (hk : k ≤ 4294967296) (hx : Rd2 1 H x ll) (hl : ll.length ≤ 4294967296) (hl2 : ∀ y ∈ ll, y.length ≤ 4294967296) (ht : Rd 1 H tv m ts) (hm : m ≤ 4294967296) :
    ACalls Try.prog 83 [.agg #[.int .i64 q, v], x, tv] H (is (.int .i64 (codeS q k l (resB q.toNat k l ll && (List.range m).all fun i => decide (0 ≤ ts.getD i 0 ∧ ts.getD i 0 ≤ q - 1)))) H) := by
  refine ACalls.wf (by kernel_rfl) fun hs => acalls_up rfl (acalls_of_awp [.tmp 6] Try.func83 (by kernel_rfl) rfl rfl (Nat.le_of_ble_eq_true rfl) (by kernel_rfl) ?_)
  have hone := hv.one
  have up : Up H.next H (H.push ⟨32, true, [.int .i64 q, v]⟩) := (Up.refl _ H).push (Nat.le_refl _) _
  have e1 : (H.push ⟨32, true, [.int .i64 q, v]⟩).row H.next = some ⟨32, true, [.int .i64 q, v]⟩ := by rw [AH.push_row, if_pos rfl]
  try simp (disch := first | omega | (simp only [ints_length, List.length_replicate]; done) | (simp only [ints_length, List.length_replicate]; omega)) only [Sall,evalOp,init,binE,binI,unE,convE,okNil,builtE,gv,TD.isAgg,resV,↓reduceIte,Nat.reduceEqDiff,reduceCtorEq,Nat.reduceAdd,Nat.reduceMul,Nat.reduceLeDiff,quietOp,blindOp,Int.reduceEq,Int.reduceLT,Int.reduceLE,Nat.reduceLT,ti2,ti3,ti4,ti45,ti46,ti38,ti25,ti30,ti22,ti32,ti24,ti95,ti172,ti169,ti165,ti166,ti65,ti143,ti87, hone]
  revert up e1
  generalize H.push ⟨32, true, [.int .i64 q, v]⟩ = H1
  intro up e1
  have hv1 := hv.same (up.le hs).row
  have hx1 := hx.same (up.le hs).row
  have ht1 := ht.same (up.le hs).row
  refine (l01Is_c q v k l H1 hv1 hk).to ?_
  unfold codeS
  by_cases hb : schedB q k l = true
  · obtain ⟨h2, _, _⟩ := schedB_at hb
    obtain ⟨n, rfl⟩ : ∃ n : Nat, q = n := ⟨q.toNat, by omega⟩
    rw [if_pos hb, Int.toNat_natCast]
    try simp (disch := first | omega | (simp only [ints_length, List.length_replicate]; done) | (simp only [ints_length, List.length_replicate]; omega)) only [Sall,evalOp,init,binE,binI,unE,convE,okNil,builtE,gv,TD.isAgg,resV,↓reduceIte,Nat.reduceEqDiff,reduceCtorEq,Nat.reduceAdd,Nat.reduceMul,Nat.reduceLeDiff,quietOp,blindOp,Int.reduceEq,Int.reduceLT,Int.reduceLE,Nat.reduceLT,ti2,ti3,ti4,ti45,ti46,ti38,ti25,ti30,ti22,ti32,ti24,ti95,ti172,ti169,ti165,ti166,ti65,ti143,ti87, hb, Bool.not_true, e1]
    refine (l10Is_c n v k l x ll _ (by omega) hv1 hk hx1 hl hl2).to ?_
    cases hr : resB n k l ll with
    | false =>
      try simp (disch := first | omega | (simp only [ints_length, List.length_replicate]; done) | (simp only [ints_length, List.length_replicate]; omega)) only [Sall,evalOp,init,binE,binI,unE,convE,okNil,builtE,gv,TD.isAgg,resV,↓reduceIte,Nat.reduceEqDiff,reduceCtorEq,Nat.reduceAdd,Nat.reduceMul,Nat.reduceLeDiff,quietOp,blindOp,Int.reduceEq,Int.reduceLT,Int.reduceLE,Nat.reduceLT,ti2,ti3,ti4,ti45,ti46,ti38,ti25,ti30,ti22,ti32,ti24,ti95,ti172,ti169,ti165,ti166,ti65,ti143,ti87, Bool.not_false, Bool.false_and]
      exact up
    | true =>
      rw [Bool.true_and]
      try simp (disch := first | omega | (simp only [ints_length, List.length_replicate]; done) | (simp only [ints_length, List.length_replicate]; omega)) only [Sall,evalOp,init,binE,binI,unE,convE,okNil,builtE,gv,TD.isAgg,resV,↓reduceIte,Nat.reduceEqDiff,reduceCtorEq,Nat.reduceAdd,Nat.reduceMul,Nat.reduceLeDiff,quietOp,blindOp,Int.reduceEq,Int.reduceLT,Int.reduceLE,Nat.reduceLT,ti2,ti3,ti4,ti45,ti46,ti38,ti25,ti30,ti22,ti32,ti24,ti95,ti172,ti169,ti165,ti166,ti65,ti143,ti87, Bool.not_true]
      refine awp_loop (fun z t H' => ∃ a : Nat, z = m - a ∧ a ≤ m ∧ t 7 = .int .i64 a ∧ t 2 = tv ∧ t 3 = .pointer (some ⟨H.next, 0, none⟩) ∧ H' = H1 ∧ (∀ i, i < a → (0 ≤ ts.getD i 0 ∧ ts.getD i 0 ≤ (n : Int) - 1))) m ?_ ?_
      · refine ⟨0, by omega, by omega, ?_⟩
        try simp (disch := first | omega | (simp only [ints_length, List.length_replicate]; done) | (simp only [ints_length, List.length_replicate]; omega)) only [Sall,evalOp,init,binE,binI,unE,convE,okNil,builtE,gv,TD.isAgg,resV,↓reduceIte,Nat.reduceEqDiff,reduceCtorEq,Nat.reduceAdd,Nat.reduceMul,Nat.reduceLeDiff,quietOp,blindOp,Int.reduceEq,Int.reduceLT,Int.reduceLE,Nat.reduceLT,ti2,ti3,ti4,ti45,ti46,ti38,ti25,ti30,ti22,ti32,ti24,ti95,ti172,ti169,ti165,ti166,ti65,ti143,ti87, Int.natCast_zero, Nat.not_lt_zero, false_implies]
      · rintro z t H' ⟨a, hz, ham, h7, h2, h3, rfl, hall⟩
        try simp (disch := first | omega | (simp only [ints_length, List.length_replicate]; done) | (simp only [ints_length, List.length_replicate]; omega)) only [Sall,evalOp,init,binE,binI,unE,convE,okNil,builtE,gv,TD.isAgg,resV,↓reduceIte,Nat.reduceEqDiff,reduceCtorEq,Nat.reduceAdd,Nat.reduceMul,Nat.reduceLeDiff,quietOp,blindOp,Int.reduceEq,Int.reduceLT,Int.reduceLE,Nat.reduceLT,ti2,ti3,ti4,ti45,ti46,ti38,ti25,ti30,ti22,ti32,ti24,ti95,ti172,ti169,ti165,ti166,ti65,ti143,ti87, h7, h2, builtE, ht1.len]
        refine condC_dec (fun h => ?_) (fun h => ?_)
        · obtain ⟨i, o, u, c, r, rfl, hr, hc, hs2, _⟩ := ht1.get (by omega)
          have g1 := hs2 a (by omega)
          refine draw_id (by kernel_rfl) (by kernel_rfl) ?_
          try simp (disch := first | omega | (simp only [ints_length, List.length_replicate]; done) | (simp only [ints_length, List.length_replicate]; omega)) only [Sall,evalOp,init,binE,binI,unE,convE,okNil,builtE,gv,TD.isAgg,resV,↓reduceIte,Nat.reduceEqDiff,reduceCtorEq,Nat.reduceAdd,Nat.reduceMul,Nat.reduceLeDiff,quietOp,blindOp,Int.reduceEq,Int.reduceLT,Int.reduceLE,Nat.reduceLT,ti2,ti3,ti4,ti45,ti46,ti38,ti25,ti30,ti22,ti32,ti24,ti95,ti172,ti169,ti165,ti166,ti65,ti143,ti87, h7, h2, h3, hr, g1, e1, w64]
          refine ⟨⟨by omega, by omega⟩, (l01In_c _ _ _ _).to ?_⟩
          refine ⟨.inr (.inr (LE.refl _)), ?_⟩
          by_cases hin : 0 ≤ ts.getD a 0 ∧ ts.getD a 0 ≤ (n : Int) - 1
          · try simp (disch := first | omega | (simp only [ints_length, List.length_replicate]; done) | (simp only [ints_length, List.length_replicate]; omega)) only [Sall,evalOp,init,binE,binI,unE,convE,okNil,builtE,gv,TD.isAgg,resV,↓reduceIte,Nat.reduceEqDiff,reduceCtorEq,Nat.reduceAdd,Nat.reduceMul,Nat.reduceLeDiff,quietOp,blindOp,Int.reduceEq,Int.reduceLT,Int.reduceLE,Nat.reduceLT,ti2,ti3,ti4,ti45,ti46,ti38,ti25,ti30,ti22,ti32,ti24,ti95,ti172,ti169,ti165,ti166,ti65,ti143,ti87, hin, decide_true, Bool.not_true, h7, w64]
            refine ⟨m - (a + 1), by omega, a + 1, rfl, by omega, by omega, h2, h3, fun i hi => ?_⟩
            by_cases e : i = a
            · rw [e]; exact hin
            · exact hall i (by omega)
          · try simp (disch := first | omega | (simp only [ints_length, List.length_replicate]; done) | (simp only [ints_length, List.length_replicate]; omega)) only [Sall,evalOp,init,binE,binI,unE,convE,okNil,builtE,gv,TD.isAgg,resV,↓reduceIte,Nat.reduceEqDiff,reduceCtorEq,Nat.reduceAdd,Nat.reduceMul,Nat.reduceLeDiff,quietOp,blindOp,Int.reduceEq,Int.reduceLT,Int.reduceLE,Nat.reduceLT,ti2,ti3,ti4,ti45,ti46,ti38,ti25,ti30,ti22,ti32,ti24,ti95,ti172,ti169,ti165,ti166,ti65,ti143,ti87, hin, decide_false, Bool.not_false]
            rw [all_false_of (i := a) (by omega) (decide_eq_false hin)]
            exact ⟨rfl, up⟩
        · try simp (disch := first | omega | (simp only [ints_length, List.length_replicate]; done) | (simp only [ints_length, List.length_replicate]; omega)) only [Sall,evalOp,init,binE,binI,unE,convE,okNil,builtE,gv,TD.isAgg,resV,↓reduceIte,Nat.reduceEqDiff,reduceCtorEq,Nat.reduceAdd,Nat.reduceMul,Nat.reduceLeDiff,quietOp,blindOp,Int.reduceEq,Int.reduceLT,Int.reduceLE,Nat.reduceLT,ti2,ti3,ti4,ti45,ti46,ti38,ti25,ti30,ti22,ti32,ti24,ti95,ti172,ti169,ti165,ti166,ti65,ti143,ti87, true_and]
          rw [all_true_of (fun i hi => decide_eq_true (hall i (by omega)))]
          exact ⟨rfl, up⟩
  · have hb' : schedB q k l = false := by simpa using hb
    try simp (disch := first | omega | (simp only [ints_length, List.length_replicate]; done) | (simp only [ints_length, List.length_replicate]; omega)) only [Sall,evalOp,init,binE,binI,unE,convE,okNil,builtE,gv,TD.isAgg,resV,↓reduceIte,Nat.reduceEqDiff,reduceCtorEq,Nat.reduceAdd,Nat.reduceMul,Nat.reduceLeDiff,quietOp,blindOp,Int.reduceEq,Int.reduceLT,Int.reduceLE,Nat.reduceLT,ti2,ti3,ti4,ti45,ti46,ti38,ti25,ti30,ti22,ti32,ti24,ti95,ti172,ti169,ti165,ti166,ti65,ti143,ti87, hb', Bool.not_false]
    exact up
end Go.Proofs.Ytgkmdfjjlghecaa.A
end

section
set_option linter.unusedSimpArgs false
set_option linter.unusedVariables false
set_option maxRecDepth 100000
set_option maxHeartbeats 2000000
namespace Go.Proofs.Ytgkmdfjjlghecaa.A
open Go Go.Abs Go.RowKit

theorem l10Points_c (n : Nat) (v : Value) (k : Nat) (l : List Int) (x : Value) (ll : List (List Int)) (R : Nat) (H : AH) (hb : schedB n k l = true) (hres : resB n k l ll = true) (hR : R ≤ ll.length) (hl : ll.length ≤ 4294967296) (hv : Rd 14 H v k l) (hx : Rd2 1 H x ll) :
    ACalls Try.prog 148 [.agg #[.int .i64 n, v], x, .int .i64 R] H (fun u H' => Up H.next H H' ∧ Fr 1 2 H.next H'.next H' u n (sumsF n (fun _ o => o) (meets n l ll R))) := by
  refine ACalls.wf (by kernel_rfl) fun hs => acalls_of_awp [.tmp 6] Try.func148 (by kernel_rfl) rfl rfl (Nat.le_of_ble_eq_true rfl) (by kernel_rfl) ?_
  obtain ⟨hn, hk40, hrounds⟩ := schedB_at hb
  obtain ⟨hlk, hrs⟩ := resB_at hres
  have hone := hv.one
  try simp (disch := first | omega | (simp only [ints_length, List.length_replicate, List.length_set]; done) | (simp only [ints_length, List.length_replicate, List.length_set]; omega)) only [Sall,evalOp,init,binE,binI,unE,convE,okNil,builtE,gv,TD.isAgg,resV,↓reduceIte,Nat.reduceEqDiff,reduceCtorEq,Nat.reduceAdd,Nat.reduceMul,Nat.reduceLeDiff,quietOp,blindOp,Int.reduceEq,Int.reduceLT,Int.reduceLE,Nat.reduceLT,ti2,ti3,ti4,ti45,ti46,ti38,ti25,ti30,ti22,ti32,ti24,ti95,ti172,ti169,ti165,ti166,ti65,ti143,ti87, hone, zeros_int1]
  refine ⟨by omega, ?_⟩
  refine awp_loop (fun m t H' => ∃ a : Nat, m = R - a ∧ a ≤ R ∧ t 8 = .int .i64 a ∧ t 7 = .slice (some ⟨H.next + 1, 0, some 1⟩) n n ∧ t 2 = .int .i64 R ∧ t 1 = x ∧ t 3 = .pointer (some ⟨H.next, 0, none⟩) ∧ Up H.next H H' ∧ H.next + 1 < H'.next ∧ H'.row H.next = some ⟨32, true, [.int .i64 n, v]⟩ ∧ H'.row (H.next + 1) = some ⟨2, true, ints (sumsF n (fun _ o => o) (meets n l ll a))⟩) R ?_ ?_
  · refine ⟨0, by omega, by omega, ?_⟩
    try simp (disch := first | omega | (simp only [ints_length, List.length_replicate, List.length_set]; done) | (simp only [ints_length, List.length_replicate, List.length_set]; omega)) only [Sall,evalOp,init,binE,binI,unE,convE,okNil,builtE,gv,TD.isAgg,resV,↓reduceIte,Nat.reduceEqDiff,reduceCtorEq,Nat.reduceAdd,Nat.reduceMul,Nat.reduceLeDiff,quietOp,blindOp,Int.reduceEq,Int.reduceLT,Int.reduceLE,Nat.reduceLT,ti2,ti3,ti4,ti45,ti46,ti38,ti25,ti30,ti22,ti32,ti24,ti95,ti172,ti169,ti165,ti166,ti65,ti143,ti87, Int.natCast_zero, meets_zero, sumsF_nil]
    exact ⟨((Up.refl _ H).push (by omega) _).push (by simp only [AH.push_next]; omega) _, by omega⟩
  · rintro m t H' ⟨a, hm, h14, h8, h7, h2, h1, h3, hup, hnx, hr1, hr2⟩
    try simp (disch := first | omega | (simp only [ints_length, List.length_replicate, List.length_set]; done) | (simp only [ints_length, List.length_replicate, List.length_set]; omega)) only [Sall,evalOp,init,binE,binI,unE,convE,okNil,builtE,gv,TD.isAgg,resV,↓reduceIte,Nat.reduceEqDiff,reduceCtorEq,Nat.reduceAdd,Nat.reduceMul,Nat.reduceLeDiff,quietOp,blindOp,Int.reduceEq,Int.reduceLT,Int.reduceLE,Nat.reduceLT,ti2,ti3,ti4,ti45,ti46,ti38,ti25,ti30,ti22,ti32,ti24,ti95,ti172,ti169,ti165,ti166,ti65,ti143,ti87, h8, h2]
    refine condC_dec (fun h => ?_) (fun h => ?_)
    · obtain ⟨i, o, u, c, r, y, my, ex, hrB, hy, hsx, hok⟩ := hx.get (j := a) (by omega)
      obtain ⟨i', o', u', c', r', ev, hrB', hc', hs', hg'⟩ := hv.get (by omega)
      have hr' : H'.row i' = some r' := by rw [hup.row _ (hs _ _ hrB'), hrB']
      have hiB := hs _ _ hrB
      obtain ⟨hlen, hvals⟩ := hrs a (by omega)
      have hrl : (rnd l a).length = 14 := rnd_length l a k hv.1 (by omega)
      have hlh := hup.next
      refine draw_id (by kernel_rfl) (by kernel_rfl) ?_
      try simp (disch := first | omega | (simp only [ints_length, List.length_replicate, List.length_set]; done) | (simp only [ints_length, List.length_replicate, List.length_set]; omega)) only [Sall,evalOp,init,binE,binI,unE,convE,okNil,builtE,gv,TD.isAgg,resV,↓reduceIte,Nat.reduceEqDiff,reduceCtorEq,Nat.reduceAdd,Nat.reduceMul,Nat.reduceLeDiff,quietOp,blindOp,Int.reduceEq,Int.reduceLT,Int.reduceLE,Nat.reduceLT,ti2,ti3,ti4,ti45,ti46,ti38,ti25,ti30,ti22,ti32,ti24,ti95,ti172,ti169,ti165,ti166,ti65,ti143,ti87, h8, h3, hr1, ev, hr', hg']
      refine ⟨⟨by omega, by omega⟩, by omega, ACalls.wf (by kernel_rfl) fun hs1 => (l01Pairs_c n (rnd l a) hrl (by omega) H').mono ?_⟩
      rintro p H3 ⟨up3, hp⟩
      have hpl := hp.rd.len
      refine ⟨.inr (.inr (up3.le hs1)), ?_⟩
      have n3 := up3.next
      have hr3 : H3.row H.next = some ⟨32, true, [.int .i64 n, v]⟩ := by rw [up3.row _ (by omega), hr1]
      have hr4 : H3.row (H.next + 1) = some ⟨2, true, ints (sumsF n (fun _ o => o) (meets n l ll a))⟩ := by rw [up3.row _ hnx, hr2]
      have hplen := pairsL_le (rnd l a) n
      have hround := hrounds a (by omega)
      refine Holds.mp ?_
      try simp (disch := first | omega | (simp only [ints_length, List.length_replicate, List.length_set]; done) | (simp only [ints_length, List.length_replicate, List.length_set]; omega)) only [Sall,evalOp,init,binE,binI,unE,convE,okNil,builtE,gv,TD.isAgg,resV,↓reduceIte,Nat.reduceEqDiff,reduceCtorEq,Nat.reduceAdd,Nat.reduceMul,Nat.reduceLeDiff,quietOp,blindOp,Int.reduceEq,Int.reduceLT,Int.reduceLE,Nat.reduceLT,ti2,ti3,ti4,ti45,ti46,ti38,ti25,ti30,ti22,ti32,ti24,ti95,ti172,ti169,ti165,ti166,ti65,ti143,ti87, h8, h7, h2, h1, h3]
      refine awp_loop (fun z t H4 => ∃ b : Nat, z = (pairsL (rnd l a) n).length - b ∧ b ≤ (pairsL (rnd l a) n).length ∧ t 10 = .int .i64 b ∧ t 9 = p ∧ t 8 = .int .i64 a ∧ t 7 = .slice (some ⟨H.next + 1, 0, some 1⟩) n n ∧ t 2 = .int .i64 R ∧ t 1 = x ∧ t 3 = .pointer (some ⟨H.next, 0, none⟩) ∧ Up H.next H H4 ∧ H3.next ≤ H4.next ∧ H4.row H.next = some ⟨32, true, [.int .i64 n, v]⟩ ∧
          Fr2 1 38 2 H'.next H3.next H4 p (pairsL (rnd l a) n) ∧ H4.row (H.next + 1) = some ⟨2, true, ints (sumsF n (fun _ o => o) (meets n l ll a ++ evRound n a (rnd l a) (ll.getD a []) b))⟩) (pairsL (rnd l a) n).length ?_ ?_
      · refine ⟨0, by omega, by omega, ?_⟩
        try simp (disch := first | omega | (simp only [ints_length, List.length_replicate, List.length_set]; done) | (simp only [ints_length, List.length_replicate, List.length_set]; omega)) only [Sall,evalOp,init,binE,binI,unE,convE,okNil,builtE,gv,TD.isAgg,resV,↓reduceIte,Nat.reduceEqDiff,reduceCtorEq,Nat.reduceAdd,Nat.reduceMul,Nat.reduceLeDiff,quietOp,blindOp,Int.reduceEq,Int.reduceLT,Int.reduceLE,Nat.reduceLT,ti2,ti3,ti4,ti45,ti46,ti38,ti25,ti30,ti22,ti32,ti24,ti95,ti172,ti169,ti165,ti166,ti65,ti143,ti87, Int.natCast_zero, evRound_zero, List.append_nil, h8, h7, h2, h1, h3]
        exact ⟨hup.trans up3 hlh, hr3, hp, hr4⟩
      · rintro z t H4 ⟨b, hz, hbp, h10, h9, h8, h7, h2, h1, h3, hup4, hn4, hr4, hp4, hr5⟩
        have hpl4 := hp4.rd.len
        try simp (disch := first | omega | (simp only [ints_length, List.length_replicate, List.length_set]; done) | (simp only [ints_length, List.length_replicate, List.length_set]; omega)) only [Sall,evalOp,init,binE,binI,unE,convE,okNil,builtE,gv,TD.isAgg,resV,↓reduceIte,Nat.reduceEqDiff,reduceCtorEq,Nat.reduceAdd,Nat.reduceMul,Nat.reduceLeDiff,quietOp,blindOp,Int.reduceEq,Int.reduceLT,Int.reduceLE,Nat.reduceLT,ti2,ti3,ti4,ti45,ti46,ti38,ti25,ti30,ti22,ti32,ti24,ti95,ti172,ti169,ti165,ti166,ti65,ti143,ti87, h10, h9, builtE, hpl4]
        refine condC_dec (fun hh => ?_) (fun hh => ?_)
        · obtain ⟨pi, pvs, px, pm, pb, pc, rfl, q1, q2, q3, q4, q5, q6, q7, q8⟩ := hp4.getF (j := b) (by omega)
          have hpm := q8.lenK1
          obtain ⟨aa, ha1, ha2, ha3⟩ := pairsL_get (rnd l a) n b (by omega)
          obtain ⟨_, ha4, ha5, _⟩ := roundB_at hround (a := aa) (by omega)
          have hmy := hsx.lenK1
          obtain ⟨i5, o5, u5, c5, r5, rfl, gB, g2, g3, _⟩ := hsx.get (by omega)
          have hi5 := hs _ _ gB
          have g1 : H4.row i5 = some r5 := by rw [hup4.row _ hi5, gB]
          have gr : H4.row i = some r := by rw [hup4.row _ hiB, hrB]
          have g4 := g3 b (by omega)
          rw [ha3] at q8 hpm
          simp only [List.length_cons, List.length_nil] at hpm
          obtain rfl : pm = 2 := hpm
          obtain ⟨i6, w1, w2, rfl, w3⟩ := q8.get (by omega)
          have evs0 : meets n l ll a ++ evRound n a (rnd l a) (ll.getD a []) (b + 1) = ((meets n l ll a ++ evRound n a (rnd l a) (ll.getD a []) b) ++ [(a, (aa : Int), (rnd l a).getD aa 0, wonI ((ll.getD a []).getD b 0))]) ++ [(a, (rnd l a).getD aa 0, (aa : Int), 2 - wonI ((ll.getD a []).getD b 0))] := by
            rw [evRound_succ, ha3]; simp [evPair]
          have i0 : (ints [(aa : Int), (rnd l a).getD aa 0])[Int.toNat 0]? = some (.int .i64 aa) := rfl
          have i1 : (ints [(aa : Int), (rnd l a).getD aa 0])[Int.toNat 1]? = some (.int .i64 ((rnd l a).getD aa 0)) := rfl
          have hsl := sumsF_length n (fun _ o => o) (meets n l ll a ++ evRound n a (rnd l a) (ll.getD a []) b)
          have evs1 : sumsF n (fun _ o => o) (meets n l ll a ++ evRound n a (rnd l a) (ll.getD a []) (b + 1)) = addAt (addAt (sumsF n (fun _ o => o) (meets n l ll a ++ evRound n a (rnd l a) (ll.getD a []) b)) aa (wonI ((ll.getD a []).getD b 0))) ((rnd l a).getD aa 0) (2 - wonI ((ll.getD a []).getD b 0)) := by
            rw [evs0, sumsF_append, sumsF_append]
          revert hr5 hsl evs1
          generalize sumsF n (fun _ o => o) (meets n l ll a ++ evRound n a (rnd l a) (ll.getD a []) b) = A
          intro hr5 hsl evs1
          have ne1 : ¬ pi = H.next + 1 := by omega
          have ne2 : ¬ i6 = H.next + 1 := by omega
          try simp (disch := first | omega | (simp only [ints_length, List.length_replicate, List.length_set]; done) | (simp only [ints_length, List.length_replicate, List.length_set]; omega)) only [Sall,evalOp,init,binE,binI,unE,convE,okNil,builtE,gv,TD.isAgg,resV,↓reduceIte,Nat.reduceEqDiff,reduceCtorEq,Nat.reduceAdd,Nat.reduceMul,Nat.reduceLeDiff,quietOp,blindOp,Int.reduceEq,Int.reduceLT,Int.reduceLE,Nat.reduceLT,ti2,ti3,ti4,ti45,ti46,ti38,ti25,ti30,ti22,ti32,ti24,ti95,ti172,ti169,ti165,ti166,ti65,ti143,ti87, h10, h8, h1, ex, gr, hy, hok, g1, g4]
          refine ⟨⟨by omega, by omega⟩, ⟨by omega, by omega⟩, (l10Won_c _ _).to ?_⟩
          try simp (disch := first | omega | (simp only [ints_length, List.length_replicate, List.length_set]; done) | (simp only [ints_length, List.length_replicate, List.length_set]; omega)) only [Sall,evalOp,init,binE,binI,unE,convE,okNil,builtE,gv,TD.isAgg,resV,↓reduceIte,Nat.reduceEqDiff,reduceCtorEq,Nat.reduceAdd,Nat.reduceMul,Nat.reduceLeDiff,quietOp,blindOp,Int.reduceEq,Int.reduceLT,Int.reduceLE,Nat.reduceLT,ti2,ti3,ti4,ti45,ti46,ti38,ti25,ti30,ti22,ti32,ti24,ti95,ti172,ti169,ti165,ti166,ti65,ti143,ti87, h10, h9, h7]
          refine draw_id (by kernel_rfl) (by kernel_rfl) ?_
          try simp (disch := first | omega | (simp only [ints_length, List.length_replicate, List.length_set]; done) | (simp only [ints_length, List.length_replicate, List.length_set]; omega)) only [Sall,evalOp,init,binE,binI,unE,convE,okNil,builtE,gv,TD.isAgg,resV,↓reduceIte,Nat.reduceEqDiff,reduceCtorEq,Nat.reduceAdd,Nat.reduceMul,Nat.reduceLeDiff,quietOp,blindOp,Int.reduceEq,Int.reduceLT,Int.reduceLE,Nat.reduceLT,ti2,ti3,ti4,ti45,ti46,ti38,ti25,ti30,ti22,ti32,ti24,ti95,ti172,ti169,ti165,ti166,ti65,ti143,ti87, h10, h9, h7, q3, q5, w3, i0, hr5, ints_get?, ints_set]
          (repeat refine And.intro (by omega) ?_)
          refine ⟨.inr (.inl (by kernel_rfl)), ?_⟩
          try simp (disch := first | omega | (simp only [ints_length, List.length_replicate, List.length_set]; done) | (simp only [ints_length, List.length_replicate, List.length_set]; omega)) only [Sall,evalOp,init,binE,binI,unE,convE,okNil,builtE,gv,TD.isAgg,resV,↓reduceIte,Nat.reduceEqDiff,reduceCtorEq,Nat.reduceAdd,Nat.reduceMul,Nat.reduceLeDiff,quietOp,blindOp,Int.reduceEq,Int.reduceLT,Int.reduceLE,Nat.reduceLT,ti2,ti3,ti4,ti45,ti46,ti38,ti25,ti30,ti22,ti32,ti24,ti95,ti172,ti169,ti165,ti166,ti65,ti143,ti87, h10, h9, h7]
          refine draw_id (by kernel_rfl) (by kernel_rfl) ?_
          try simp (disch := first | omega | (simp only [ints_length, List.length_replicate, List.length_set]; done) | (simp only [ints_length, List.length_replicate, List.length_set]; omega)) only [Sall,evalOp,init,binE,binI,unE,convE,okNil,builtE,gv,TD.isAgg,resV,↓reduceIte,Nat.reduceEqDiff,reduceCtorEq,Nat.reduceAdd,Nat.reduceMul,Nat.reduceLeDiff,quietOp,blindOp,Int.reduceEq,Int.reduceLT,Int.reduceLE,Nat.reduceLT,ti2,ti3,ti4,ti45,ti46,ti38,ti25,ti30,ti22,ti32,ti24,ti95,ti172,ti169,ti165,ti166,ti65,ti143,ti87, h10, h9, h7, q3, q5, w3, i1, hr5, ne1, ne2, ints_get?, ints_set]
          try simp only [List.length_set]
          (repeat refine And.intro (by omega) ?_)
          refine ⟨.inr (.inl (by kernel_rfl)), ?_⟩
          try simp (disch := first | omega | (simp only [ints_length, List.length_replicate, List.length_set]; done) | (simp only [ints_length, List.length_replicate, List.length_set]; omega)) only [Sall,evalOp,init,binE,binI,unE,convE,okNil,builtE,gv,TD.isAgg,resV,↓reduceIte,Nat.reduceEqDiff,reduceCtorEq,Nat.reduceAdd,Nat.reduceMul,Nat.reduceLeDiff,quietOp,blindOp,Int.reduceEq,Int.reduceLT,Int.reduceLE,Nat.reduceLT,ti2,ti3,ti4,ti45,ti46,ti38,ti25,ti30,ti22,ti32,ti24,ti95,ti172,ti169,ti165,ti166,ti65,ti143,ti87, h10, h9, h8, h7, h2, h1, h3, w64]
          refine ⟨(pairsL (rnd l a) n).length - (b + 1), by omega, b + 1, rfl, by omega, by omega, (hup4.set (by omega) _).set (by omega) _, hn4, hr4, hp4.same fun i _ hi => ?_, ?_⟩
          · rw [AH.setCells_row, if_neg (by omega), AH.setCells_row, if_neg (by omega)]
          · rw [evs1]; rfl
        · try simp (disch := first | omega | (simp only [ints_length, List.length_replicate, List.length_set]; done) | (simp only [ints_length, List.length_replicate, List.length_set]; omega)) only [Sall,evalOp,init,binE,binI,unE,convE,okNil,builtE,gv,TD.isAgg,resV,↓reduceIte,Nat.reduceEqDiff,reduceCtorEq,Nat.reduceAdd,Nat.reduceMul,Nat.reduceLeDiff,quietOp,blindOp,Int.reduceEq,Int.reduceLT,Int.reduceLE,Nat.reduceLT,ti2,ti3,ti4,ti45,ti46,ti38,ti25,ti30,ti22,ti32,ti24,ti95,ti172,ti169,ti165,ti166,ti65,ti143,ti87, h8, h7, h2, h1, h3, w64]
          have hbb : b = (pairsL (rnd l a) n).length := by omega
          refine ⟨R - (a + 1), by omega, a + 1, rfl, by omega, by omega, hup4, by omega, hr4, ?_⟩
          rw [meets_succ, ← hbb]; exact hr5
    · try simp (disch := first | omega | (simp only [ints_length, List.length_replicate, List.length_set]; done) | (simp only [ints_length, List.length_replicate, List.length_set]; omega)) only [Sall,evalOp,init,binE,binI,unE,convE,okNil,builtE,gv,TD.isAgg,resV,↓reduceIte,Nat.reduceEqDiff,reduceCtorEq,Nat.reduceAdd,Nat.reduceMul,Nat.reduceLeDiff,quietOp,blindOp,Int.reduceEq,Int.reduceLT,Int.reduceLE,Nat.reduceLT,ti2,ti3,ti4,ti45,ti46,ti38,ti25,ti30,ti22,ti32,ti24,ti95,ti172,ti169,ti165,ti166,ti65,ti143,ti87, h7]
      have ha : a = R := by omega
      subst ha
      exact ⟨hup, (sumsF_length n _ _).trans (Nat.mul_one n).symm, .inr ⟨H.next + 1, by omega, by omega, rfl, hr2⟩⟩

/-- What a meeting adds to the second or the third number. -/
def sumF (third : Bool) (pts : List Int) (b o : Int) : Int := IntKind.i64.wrap ((if third = true then o else 1) * pts.getD b.toNat 0)

theorem l10Sums_c (n : Nat) (v : Value) (k : Nat) (l : List Int) (x : Value) (ll : List (List Int)) (third : Bool) (H : AH) (hb : schedB n k l = true) (hres : resB n k l ll = true) (hl : ll.length ≤ 4294967296) (hv : Rd 14 H v k l) (hx : Rd2 1 H x ll) :
    ACalls Try.prog 150 [.agg #[.int .i64 n, v], x, .bool third] H (fun u H' => Up H.next H H' ∧ Fr 1 2 H.next H'.next H' u n (sumsF n (sumF third (sumsF n (fun _ o => o) (meets n l ll ll.length))) (meets n l ll ll.length))) := by
  refine ACalls.wf (by kernel_rfl) fun hs => acalls_of_awp [.tmp 6] Try.func150 (by kernel_rfl) rfl rfl (Nat.le_of_ble_eq_true rfl) (by kernel_rfl) ?_
  obtain ⟨hn, hk40, hrounds⟩ := schedB_at hb
  obtain ⟨hlk, hrs⟩ := resB_at hres
  have hone := hv.one
  obtain ⟨pts, hpts⟩ : ∃ pts, pts = sumsF n (fun _ o => o) (meets n l ll ll.length) := ⟨_, rfl⟩
  rw [← hpts]
  have up : Up H.next H (H.push ⟨32, true, [.int .i64 n, v]⟩) := (Up.refl _ H).push (Nat.le_refl _) _
  have e1 : (H.push ⟨32, true, [.int .i64 n, v]⟩).row H.next = some ⟨32, true, [.int .i64 n, v]⟩ := by rw [AH.push_row, if_pos rfl]
  have n1 : (H.push ⟨32, true, [.int .i64 n, v]⟩).next = H.next + 1 := rfl
  try simp (disch := first | omega | (simp only [ints_length, List.length_replicate, List.length_set]; done) | (simp only [ints_length, List.length_replicate, List.length_set]; omega)) only [Sall,evalOp,init,binE,binI,unE,convE,okNil,builtE,gv,TD.isAgg,resV,↓reduceIte,Nat.reduceEqDiff,reduceCtorEq,Nat.reduceAdd,Nat.reduceMul,Nat.reduceLeDiff,quietOp,blindOp,Int.reduceEq,Int.reduceLT,Int.reduceLE,Nat.reduceLT,ti2,ti3,ti4,ti45,ti46,ti38,ti25,ti30,ti22,ti32,ti24,ti95,ti172,ti169,ti165,ti166,ti65,ti143,ti87, hone]
  have sc1 : Sc (H.push ⟨32, true, [.int .i64 n, v]⟩) := Sc.push hs _
  revert up e1 n1 sc1
  generalize H.push ⟨32, true, [.int .i64 n, v]⟩ = H1
  intro up e1 n1 sc1
  have hv1 := hv.same (up.le hs).row
  have hx1 := hx.same (up.le hs).row
  refine awp_cutQ (fun t H2 => ∃ (pu : Value) (oi lo hi : Nat), t 7 = pu ∧ t 8 = .slice (some ⟨oi, 0, some 1⟩) n n ∧ t 1 = x ∧ t 2 = .bool third ∧ t 3 = .pointer (some ⟨H.next, 0, none⟩) ∧ Up H.next H H2 ∧ H2.row H.next = some ⟨32, true, [.int .i64 n, v]⟩ ∧ H2.row oi = some ⟨2, true, ints (List.replicate n 0)⟩ ∧ Fr 1 2 lo hi H2 pu n pts ∧ H.next < lo ∧ hi ≤ H2.next ∧ H.next < oi ∧ oi < H2.next ∧ (oi < lo ∨ hi ≤ oi)) ?_ ?_
  · refine draw_tree (OT.run [0, 1, 2, 3, 5, 6] (.two 4 7 (OT.run [8, 7, 9] .nil) (OT.run [4, 8, 9] .nil))) (by kernel_rfl) (by kernel_rfl) (Nat.le_of_ble_eq_true rfl) ?_
    try simp (disch := first | omega | (simp only [ints_length, List.length_replicate, List.length_set]; done) | (simp only [ints_length, List.length_replicate, List.length_set]; omega)) only [Sall,evalOp,init,binE,binI,unE,convE,okNil,builtE,gv,TD.isAgg,resV,↓reduceIte,Nat.reduceEqDiff,reduceCtorEq,Nat.reduceAdd,Nat.reduceMul,Nat.reduceLeDiff,quietOp,blindOp,Int.reduceEq,Int.reduceLT,Int.reduceLE,Nat.reduceLT,ti2,ti3,ti4,ti45,ti46,ti38,ti25,ti30,ti22,ti32,ti24,ti95,ti172,ti169,ti165,ti166,ti65,ti143,ti87, awpT_nil, awpT_one, awpT_run_nil, awpT_run_cons, e1, builtE, hx.len]
    refine awpT_two ?_ ?_
    · try simp (disch := first | omega | (simp only [ints_length, List.length_replicate, List.length_set]; done) | (simp only [ints_length, List.length_replicate, List.length_set]; omega)) only [Sall,evalOp,init,binE,binI,unE,convE,okNil,builtE,gv,TD.isAgg,resV,↓reduceIte,Nat.reduceEqDiff,reduceCtorEq,Nat.reduceAdd,Nat.reduceMul,Nat.reduceLeDiff,quietOp,blindOp,Int.reduceEq,Int.reduceLT,Int.reduceLE,Nat.reduceLT,ti2,ti3,ti4,ti45,ti46,ti38,ti25,ti30,ti22,ti32,ti24,ti95,ti172,ti169,ti165,ti166,ti65,ti143,ti87, awpT_nil, awpT_one, awpT_run_nil, awpT_run_cons]
      refine ACalls.wf (by kernel_rfl) fun hs1 => (l10Points_c n v k l x ll ll.length H1 hb hres (Nat.le_refl _) hl hv1 hx1).sc.mono ?_
      rintro pu H2 ⟨⟨up2, hf⟩, sc2⟩
      rw [← hpts] at hf
      have n2 := up2.next
      refine ⟨.inr (.inr (up2.le hs1)), ?_⟩
      refine Holds.mp ?_
      try simp (disch := first | omega | (simp only [ints_length, List.length_replicate, List.length_set]; done) | (simp only [ints_length, List.length_replicate, List.length_set]; omega)) only [Sall,evalOp,init,binE,binI,unE,convE,okNil,builtE,gv,TD.isAgg,resV,↓reduceIte,Nat.reduceEqDiff,reduceCtorEq,Nat.reduceAdd,Nat.reduceMul,Nat.reduceLeDiff,quietOp,blindOp,Int.reduceEq,Int.reduceLT,Int.reduceLE,Nat.reduceLT,ti2,ti3,ti4,ti45,ti46,ti38,ti25,ti30,ti22,ti32,ti24,ti95,ti172,ti169,ti165,ti166,ti65,ti143,ti87, awpT_nil, awpT_one, awpT_run_nil, awpT_run_cons, zeros_int1]
      (repeat refine And.intro (by omega) ?_)
      refine ⟨.inr (.inr (sc2.le _)), ?_⟩
      refine ⟨pu, H2.next, H1.next, H2.next, ?_⟩
      try simp (disch := first | omega | (simp only [ints_length, List.length_replicate, List.length_set]; done) | (simp only [ints_length, List.length_replicate, List.length_set]; omega)) only [Sall,evalOp,init,binE,binI,unE,convE,okNil,builtE,gv,TD.isAgg,resV,↓reduceIte,Nat.reduceEqDiff,reduceCtorEq,Nat.reduceAdd,Nat.reduceMul,Nat.reduceLeDiff,quietOp,blindOp,Int.reduceEq,Int.reduceLT,Int.reduceLE,Nat.reduceLT,ti2,ti3,ti4,ti45,ti46,ti38,ti25,ti30,ti22,ti32,ti24,ti95,ti172,ti169,ti165,ti166,ti65,ti143,ti87, true_and]
      refine ⟨(up.trans up2 (by omega)).push (by omega) _, ?_, hf.same fun i _ hi => by rw [AH.push_row, if_neg (by omega)], ?_⟩
      · rw [if_neg (by omega), up2.row _ (by omega), e1]
      · exact ⟨by omega, by omega, by omega, by omega, .inr trivial⟩
    · try simp (disch := first | omega | (simp only [ints_length, List.length_replicate, List.length_set]; done) | (simp only [ints_length, List.length_replicate, List.length_set]; omega)) only [Sall,evalOp,init,binE,binI,unE,convE,okNil,builtE,gv,TD.isAgg,resV,↓reduceIte,Nat.reduceEqDiff,reduceCtorEq,Nat.reduceAdd,Nat.reduceMul,Nat.reduceLeDiff,quietOp,blindOp,Int.reduceEq,Int.reduceLT,Int.reduceLE,Nat.reduceLT,ti2,ti3,ti4,ti45,ti46,ti38,ti25,ti30,ti22,ti32,ti24,ti95,ti172,ti169,ti165,ti166,ti65,ti143,ti87, awpT_nil, awpT_one, awpT_run_nil, awpT_run_cons, zeros_int1]
      (repeat refine And.intro (by omega) ?_)
      refine ⟨.inr (.inr (sc1.le _)), ?_⟩
      obtain ⟨H2, e2⟩ : ∃ H2, H2 = H1.push ⟨2, true, ints (List.replicate n 0)⟩ := ⟨_, rfl⟩
      have n2 : H2.next = H1.next + 1 := by rw [e2]; rfl
      have r2 : H2.row H1.next = some ⟨2, true, ints (List.replicate n 0)⟩ := by rw [e2, AH.push_row, if_pos rfl]
      have s2 : ∀ i, i < H1.next → H2.row i = H1.row i := fun i hi => by rw [e2, AH.push_row, if_neg (by omega)]
      have sc2 : Sc H2 := by rw [e2]; exact sc1.push _
      have up2 : Up H.next H H2 := ⟨by have := up.next; omega, fun i hi => by rw [s2 i (by omega), up.row i hi]⟩
      rw [← e2]
      clear e2
      refine (l10Points_c n v k l x ll ll.length H2 hb hres (Nat.le_refl _) hl (hv.same (up2.le hs).row) (hx.same (up2.le hs).row)).mono ?_
      rintro pu H3 ⟨up3, hf⟩
      rw [← hpts] at hf
      have n3 := up3.next
      refine ⟨.inr (.inr (up3.le sc2)), ?_⟩
      refine Holds.mp ?_
      try simp (disch := first | omega | (simp only [ints_length, List.length_replicate, List.length_set]; done) | (simp only [ints_length, List.length_replicate, List.length_set]; omega)) only [Sall,evalOp,init,binE,binI,unE,convE,okNil,builtE,gv,TD.isAgg,resV,↓reduceIte,Nat.reduceEqDiff,reduceCtorEq,Nat.reduceAdd,Nat.reduceMul,Nat.reduceLeDiff,quietOp,blindOp,Int.reduceEq,Int.reduceLT,Int.reduceLE,Nat.reduceLT,ti2,ti3,ti4,ti45,ti46,ti38,ti25,ti30,ti22,ti32,ti24,ti95,ti172,ti169,ti165,ti166,ti65,ti143,ti87, awpT_nil, awpT_one, awpT_run_nil, awpT_run_cons]
      refine ⟨pu, H1.next, H2.next, H3.next, ?_⟩
      try simp (disch := first | omega | (simp only [ints_length, List.length_replicate, List.length_set]; done) | (simp only [ints_length, List.length_replicate, List.length_set]; omega)) only [Sall,evalOp,init,binE,binI,unE,convE,okNil,builtE,gv,TD.isAgg,resV,↓reduceIte,Nat.reduceEqDiff,reduceCtorEq,Nat.reduceAdd,Nat.reduceMul,Nat.reduceLeDiff,quietOp,blindOp,Int.reduceEq,Int.reduceLT,Int.reduceLE,Nat.reduceLT,ti2,ti3,ti4,ti45,ti46,ti38,ti25,ti30,ti22,ti32,ti24,ti95,ti172,ti169,ti165,ti166,ti65,ti143,ti87, true_and]
      exact ⟨up2.trans up3 (by omega), by rw [up3.row _ (by omega), s2 _ (by omega), e1], by rw [up3.row _ (by omega), r2], hf, by omega, by omega, by omega, by omega⟩
  · rintro t H2 ⟨pu, oi, plo, phi, h7, h8, h1, h2, h3, u2, r0, ro, hf, b1, b2, b3, b4, b5⟩
    try simp (disch := first | omega | (simp only [ints_length, List.length_replicate, List.length_set]; done) | (simp only [ints_length, List.length_replicate, List.length_set]; omega)) only [Sall,evalOp,init,binE,binI,unE,convE,okNil,builtE,gv,TD.isAgg,resV,↓reduceIte,Nat.reduceEqDiff,reduceCtorEq,Nat.reduceAdd,Nat.reduceMul,Nat.reduceLeDiff,quietOp,blindOp,Int.reduceEq,Int.reduceLT,Int.reduceLE,Nat.reduceLT,ti2,ti3,ti4,ti45,ti46,ti38,ti25,ti30,ti22,ti32,ti24,ti95,ti172,ti169,ti165,ti166,ti65,ti143,ti87, h7, h8, h1, h2, h3]
    refine awp_loop (fun m t H' => ∃ a : Nat, m = ll.length - a ∧ a ≤ ll.length ∧ t 9 = .int .i64 a ∧ t 8 = .slice (some ⟨oi, 0, some 1⟩) n n ∧ t 7 = pu ∧ t 2 = .bool third ∧ t 1 = x ∧ t 3 = .pointer (some ⟨H.next, 0, none⟩) ∧ Up H.next H H' ∧ H2.next ≤ H'.next ∧ H'.row H.next = some ⟨32, true, [.int .i64 n, v]⟩ ∧ Fr 1 2 plo phi H' pu n pts ∧ H'.row oi = some ⟨2, true, ints (sumsF n (sumF third pts) (meets n l ll a))⟩) ll.length ?_ ?_
    · refine ⟨0, by omega, by omega, ?_⟩
      try simp (disch := first | omega | (simp only [ints_length, List.length_replicate, List.length_set]; done) | (simp only [ints_length, List.length_replicate, List.length_set]; omega)) only [Sall,evalOp,init,binE,binI,unE,convE,okNil,builtE,gv,TD.isAgg,resV,↓reduceIte,Nat.reduceEqDiff,reduceCtorEq,Nat.reduceAdd,Nat.reduceMul,Nat.reduceLeDiff,quietOp,blindOp,Int.reduceEq,Int.reduceLT,Int.reduceLE,Nat.reduceLT,ti2,ti3,ti4,ti45,ti46,ti38,ti25,ti30,ti22,ti32,ti24,ti95,ti172,ti169,ti165,ti166,ti65,ti143,ti87, Int.natCast_zero, meets_zero, sumsF_nil, h7, h8, h1, h2, h3]
      exact ⟨u2, r0, hf, ro⟩
    · rintro m t H' ⟨a, hm, h14, h9, h8, h7, h2, h1, h3, hup, hnx, hr1, hf', hr2⟩
      try simp (disch := first | omega | (simp only [ints_length, List.length_replicate, List.length_set]; done) | (simp only [ints_length, List.length_replicate, List.length_set]; omega)) only [Sall,evalOp,init,binE,binI,unE,convE,okNil,builtE,gv,TD.isAgg,resV,↓reduceIte,Nat.reduceEqDiff,reduceCtorEq,Nat.reduceAdd,Nat.reduceMul,Nat.reduceLeDiff,quietOp,blindOp,Int.reduceEq,Int.reduceLT,Int.reduceLE,Nat.reduceLT,ti2,ti3,ti4,ti45,ti46,ti38,ti25,ti30,ti22,ti32,ti24,ti95,ti172,ti169,ti165,ti166,ti65,ti143,ti87, h9, h1, builtE, hx.len]
      refine condC_dec (fun h => ?_) (fun h => ?_)
      · obtain ⟨i, o, u, c, r, y, my, ex, hrB, hy, hsx, hok⟩ := hx.get (j := a) (by omega)
        obtain ⟨i', o', u', c', r', ev, hrB', hc', hs', hg'⟩ := hv.get (by omega)
        have hr' : H'.row i' = some r' := by rw [hup.row _ (hs _ _ hrB'), hrB']
        have hiB := hs _ _ hrB
        obtain ⟨hlen, hvals⟩ := hrs a (by omega)
        have hrl : (rnd l a).length = 14 := rnd_length l a k hv.1 (by omega)
        have hlh := hup.next
        refine draw_id (by kernel_rfl) (by kernel_rfl) ?_
        try simp (disch := first | omega | (simp only [ints_length, List.length_replicate, List.length_set]; done) | (simp only [ints_length, List.length_replicate, List.length_set]; omega)) only [Sall,evalOp,init,binE,binI,unE,convE,okNil,builtE,gv,TD.isAgg,resV,↓reduceIte,Nat.reduceEqDiff,reduceCtorEq,Nat.reduceAdd,Nat.reduceMul,Nat.reduceLeDiff,quietOp,blindOp,Int.reduceEq,Int.reduceLT,Int.reduceLE,Nat.reduceLT,ti2,ti3,ti4,ti45,ti46,ti38,ti25,ti30,ti22,ti32,ti24,ti95,ti172,ti169,ti165,ti166,ti65,ti143,ti87, h9, h3, hr1, ev, hr', hg']
        (repeat refine And.intro (by omega) ?_)
        refine ACalls.wf (by kernel_rfl) fun hs1 => (l01Pairs_c n (rnd l a) hrl (by omega) H').mono ?_
        rintro p H3 ⟨up3, hp⟩
        have hpl := hp.rd.len
        refine ⟨.inr (.inr (up3.le hs1)), ?_⟩
        have n3 := up3.next
        have hr3 : H3.row H.next = some ⟨32, true, [.int .i64 n, v]⟩ := by rw [up3.row _ (by omega), hr1]
        have hr4 : H3.row oi = some ⟨2, true, ints (sumsF n (sumF third pts) (meets n l ll a))⟩ := by rw [up3.row _ (by omega), hr2]
        have hf3 : Fr 1 2 plo phi H3 pu n pts := hf'.same fun i _ hi => up3.row i (by omega)
        have hplen := pairsL_le (rnd l a) n
        have hround := hrounds a (by omega)
        refine Holds.mp ?_
        try simp (disch := first | omega | (simp only [ints_length, List.length_replicate, List.length_set]; done) | (simp only [ints_length, List.length_replicate, List.length_set]; omega)) only [Sall,evalOp,init,binE,binI,unE,convE,okNil,builtE,gv,TD.isAgg,resV,↓reduceIte,Nat.reduceEqDiff,reduceCtorEq,Nat.reduceAdd,Nat.reduceMul,Nat.reduceLeDiff,quietOp,blindOp,Int.reduceEq,Int.reduceLT,Int.reduceLE,Nat.reduceLT,ti2,ti3,ti4,ti45,ti46,ti38,ti25,ti30,ti22,ti32,ti24,ti95,ti172,ti169,ti165,ti166,ti65,ti143,ti87, h9, h8, h7, h2, h1, h3]
        refine awp_loop (fun z t H4 => ∃ b : Nat, z = (pairsL (rnd l a) n).length - b ∧ b ≤ (pairsL (rnd l a) n).length ∧ t 11 = .int .i64 b ∧ t 10 = p ∧ t 9 = .int .i64 a ∧ t 8 = .slice (some ⟨oi, 0, some 1⟩) n n ∧ t 7 = pu ∧ t 2 = .bool third ∧ t 1 = x ∧ t 3 = .pointer (some ⟨H.next, 0, none⟩) ∧ Up H.next H H4 ∧ H3.next ≤ H4.next ∧ H4.row H.next = some ⟨32, true, [.int .i64 n, v]⟩ ∧
            Fr2 1 38 2 H'.next H3.next H4 p (pairsL (rnd l a) n) ∧ Fr 1 2 plo phi H4 pu n pts ∧ H4.row oi = some ⟨2, true, ints (sumsF n (sumF third pts) (meets n l ll a ++ evRound n a (rnd l a) (ll.getD a []) b))⟩) (pairsL (rnd l a) n).length ?_ ?_
        · refine ⟨0, by omega, by omega, ?_⟩
          try simp (disch := first | omega | (simp only [ints_length, List.length_replicate, List.length_set]; done) | (simp only [ints_length, List.length_replicate, List.length_set]; omega)) only [Sall,evalOp,init,binE,binI,unE,convE,okNil,builtE,gv,TD.isAgg,resV,↓reduceIte,Nat.reduceEqDiff,reduceCtorEq,Nat.reduceAdd,Nat.reduceMul,Nat.reduceLeDiff,quietOp,blindOp,Int.reduceEq,Int.reduceLT,Int.reduceLE,Nat.reduceLT,ti2,ti3,ti4,ti45,ti46,ti38,ti25,ti30,ti22,ti32,ti24,ti95,ti172,ti169,ti165,ti166,ti65,ti143,ti87, Int.natCast_zero, evRound_zero, List.append_nil, h9, h8, h7, h2, h1, h3]
          exact ⟨hup.trans up3 hlh, hr3, hp, hf3, hr4⟩
        · rintro z t H4 ⟨b, hz, hbp, h11, h10, h9, h8, h7, h2, h1, h3, hup4, hn4, hr44, hp4, hf4, hr5⟩
          have hpl4 := hp4.rd.len
          try simp (disch := first | omega | (simp only [ints_length, List.length_replicate, List.length_set]; done) | (simp only [ints_length, List.length_replicate, List.length_set]; omega)) only [Sall,evalOp,init,binE,binI,unE,convE,okNil,builtE,gv,TD.isAgg,resV,↓reduceIte,Nat.reduceEqDiff,reduceCtorEq,Nat.reduceAdd,Nat.reduceMul,Nat.reduceLeDiff,quietOp,blindOp,Int.reduceEq,Int.reduceLT,Int.reduceLE,Nat.reduceLT,ti2,ti3,ti4,ti45,ti46,ti38,ti25,ti30,ti22,ti32,ti24,ti95,ti172,ti169,ti165,ti166,ti65,ti143,ti87, h11, h10, builtE, hpl4]
          refine condC_dec (fun hh => ?_) (fun hh => ?_)
          · obtain ⟨pi, pvs, px, pm, pb, pc, rfl, q1, q2, q3, q4, q5, q6, q7, q8⟩ := hp4.getF (j := b) (by omega)
            have hpm := q8.lenK1
            obtain ⟨aa, ha1, ha2, ha3⟩ := pairsL_get (rnd l a) n b (by omega)
            obtain ⟨_, ha4, ha5, _⟩ := roundB_at hround (a := aa) (by omega)
            have hmy := hsx.lenK1
            obtain ⟨i5, o5, u5, c5, r5, rfl, gB, g2, g3, _⟩ := hsx.get (by omega)
            have hi5 := hs _ _ gB
            have g1 : H4.row i5 = some r5 := by rw [hup4.row _ hi5, gB]
            have gr : H4.row i = some r := by rw [hup4.row _ hiB, hrB]
            have g4 := g3 b (by omega)
            rw [ha3] at q8 hpm
            simp only [List.length_cons, List.length_nil] at hpm
            obtain rfl : pm = 2 := hpm
            obtain ⟨i6, w1, w2, rfl, w3⟩ := q8.get (by omega)
            obtain ⟨i7, k1, k2, rfl, k3⟩ := hf4.get (by omega)
            have hpl := hf4.1
            have evs0 : meets n l ll a ++ evRound n a (rnd l a) (ll.getD a []) (b + 1) = ((meets n l ll a ++ evRound n a (rnd l a) (ll.getD a []) b) ++ [(a, (aa : Int), (rnd l a).getD aa 0, wonI ((ll.getD a []).getD b 0))]) ++ [(a, (rnd l a).getD aa 0, (aa : Int), 2 - wonI ((ll.getD a []).getD b 0))] := by
              rw [evRound_succ, ha3]; simp [evPair]
            have i0 : (ints [(aa : Int), (rnd l a).getD aa 0])[Int.toNat 0]? = some (.int .i64 aa) := rfl
            have i1 : (ints [(aa : Int), (rnd l a).getD aa 0])[Int.toNat 1]? = some (.int .i64 ((rnd l a).getD aa 0)) := rfl
            have hsl := sumsF_length n (sumF third pts) (meets n l ll a ++ evRound n a (rnd l a) (ll.getD a []) b)
            have evs1 : sumsF n (sumF third pts) (meets n l ll a ++ evRound n a (rnd l a) (ll.getD a []) (b + 1)) = addAt (addAt (sumsF n (sumF third pts) (meets n l ll a ++ evRound n a (rnd l a) (ll.getD a []) b)) aa (sumF third pts ((rnd l a).getD aa 0) (wonI ((ll.getD a []).getD b 0)))) ((rnd l a).getD aa 0) (sumF third pts aa (2 - wonI ((ll.getD a []).getD b 0))) := by
              rw [evs0, sumsF_append, sumsF_append]
            revert hr5 hsl evs1
            generalize sumsF n (sumF third pts) (meets n l ll a ++ evRound n a (rnd l a) (ll.getD a []) b) = A
            intro hr5 hsl evs1
            have ne1 : ¬ pi = oi := by omega
            have ne2 : ¬ i6 = oi := by omega
            have ne3 : ¬ i7 = oi := by omega
            have ne4 : ¬ H.next = oi := by omega
            refine draw_id (by kernel_rfl) (by kernel_rfl) ?_
            try simp (disch := first | omega | (simp only [ints_length, List.length_replicate, List.length_set]; done) | (simp only [ints_length, List.length_replicate, List.length_set]; omega)) only [Sall,evalOp,init,binE,binI,unE,convE,okNil,builtE,gv,TD.isAgg,resV,↓reduceIte,Nat.reduceEqDiff,reduceCtorEq,Nat.reduceAdd,Nat.reduceMul,Nat.reduceLeDiff,quietOp,blindOp,Int.reduceEq,Int.reduceLT,Int.reduceLE,Nat.reduceLT,ti2,ti3,ti4,ti45,ti46,ti38,ti25,ti30,ti22,ti32,ti24,ti95,ti172,ti169,ti165,ti166,ti65,ti143,ti87, h11, h10, q3, q5, w3, i0, i1]
            (repeat refine And.intro (by omega) ?_)
            refine Holds.mp ?_
            cases third <;> rw [holds_def]
            · try simp (disch := first | omega | (simp only [ints_length, List.length_replicate, List.length_set]; done) | (simp only [ints_length, List.length_replicate, List.length_set]; omega)) only [Sall,evalOp,init,binE,binI,unE,convE,okNil,builtE,gv,TD.isAgg,resV,↓reduceIte,Nat.reduceEqDiff,reduceCtorEq,Nat.reduceAdd,Nat.reduceMul,Nat.reduceLeDiff,quietOp,blindOp,Int.reduceEq,Int.reduceLT,Int.reduceLE,Nat.reduceLT,ti2,ti3,ti4,ti45,ti46,ti38,ti25,ti30,ti22,ti32,ti24,ti95,ti172,ti169,ti165,ti166,ti65,ti143,ti87, h11, h10, h9, h8, h7, h2]
              refine draw_id (by kernel_rfl) (by kernel_rfl) ?_
              try simp (disch := first | omega | (simp only [ints_length, List.length_replicate, List.length_set]; done) | (simp only [ints_length, List.length_replicate, List.length_set]; omega)) only [Sall,evalOp,init,binE,binI,unE,convE,okNil,builtE,gv,TD.isAgg,resV,↓reduceIte,Nat.reduceEqDiff,reduceCtorEq,Nat.reduceAdd,Nat.reduceMul,Nat.reduceLeDiff,quietOp,blindOp,Int.reduceEq,Int.reduceLT,Int.reduceLE,Nat.reduceLT,ti2,ti3,ti4,ti45,ti46,ti38,ti25,ti30,ti22,ti32,ti24,ti95,ti172,ti169,ti165,ti166,ti65,ti143,ti87, h8, h7, hr5, k3, ints_get?, ints_set]
              try simp only [List.length_set]
              (repeat refine And.intro (by omega) ?_)
              refine ⟨.inr (.inl (by kernel_rfl)), ?_⟩
              refine Holds.mp ?_
              try simp (disch := first | omega | (simp only [ints_length, List.length_replicate, List.length_set]; done) | (simp only [ints_length, List.length_replicate, List.length_set]; omega)) only [Sall,evalOp,init,binE,binI,unE,convE,okNil,builtE,gv,TD.isAgg,resV,↓reduceIte,Nat.reduceEqDiff,reduceCtorEq,Nat.reduceAdd,Nat.reduceMul,Nat.reduceLeDiff,quietOp,blindOp,Int.reduceEq,Int.reduceLT,Int.reduceLE,Nat.reduceLT,ti2,ti3,ti4,ti45,ti46,ti38,ti25,ti30,ti22,ti32,ti24,ti95,ti172,ti169,ti165,ti166,ti65,ti143,ti87, h11, h10, h9, h8, h7, h2, h1, h3]
              refine draw_id (by kernel_rfl) (by kernel_rfl) ?_
              try simp (disch := first | omega | (simp only [ints_length, List.length_replicate, List.length_set]; done) | (simp only [ints_length, List.length_replicate, List.length_set]; omega)) only [Sall,evalOp,init,binE,binI,unE,convE,okNil,builtE,gv,TD.isAgg,resV,↓reduceIte,Nat.reduceEqDiff,reduceCtorEq,Nat.reduceAdd,Nat.reduceMul,Nat.reduceLeDiff,quietOp,blindOp,Int.reduceEq,Int.reduceLT,Int.reduceLE,Nat.reduceLT,ti2,ti3,ti4,ti45,ti46,ti38,ti25,ti30,ti22,ti32,ti24,ti95,ti172,ti169,ti165,ti166,ti65,ti143,ti87, h8, h7, hr5, k3, ne3, ints_get?, ints_set]
              try simp only [List.length_set]
              (repeat refine And.intro (by omega) ?_)
              refine ⟨.inr (.inl (by kernel_rfl)), ?_⟩
              refine Holds.mp ?_
              try simp (disch := first | omega | (simp only [ints_length, List.length_replicate, List.length_set]; done) | (simp only [ints_length, List.length_replicate, List.length_set]; omega)) only [Sall,evalOp,init,binE,binI,unE,convE,okNil,builtE,gv,TD.isAgg,resV,↓reduceIte,Nat.reduceEqDiff,reduceCtorEq,Nat.reduceAdd,Nat.reduceMul,Nat.reduceLeDiff,quietOp,blindOp,Int.reduceEq,Int.reduceLT,Int.reduceLE,Nat.reduceLT,ti2,ti3,ti4,ti45,ti46,ti38,ti25,ti30,ti22,ti32,ti24,ti95,ti172,ti169,ti165,ti166,ti65,ti143,ti87, h11, h10, h9, h8, h7, h2, h1, h3, w64, ne4]
              refine ⟨(pairsL (rnd l a) n).length - (b + 1), by omega, b + 1, rfl, by omega, by omega, (hup4.set (by omega) _).set (by omega) _, hn4, hr44, hp4.same fun i _ hi => ?_, hf4.same fun i hi1 hi2 => ?_, ?_⟩
              · rw [AH.setCells_row, if_neg (by omega), AH.setCells_row, if_neg (by omega)]
              · rw [AH.setCells_row, if_neg (by omega), AH.setCells_row, if_neg (by omega)]
              · rw [hr5, evs1]; rfl
            · try simp (disch := first | omega | (simp only [ints_length, List.length_replicate, List.length_set]; done) | (simp only [ints_length, List.length_replicate, List.length_set]; omega)) only [Sall,evalOp,init,binE,binI,unE,convE,okNil,builtE,gv,TD.isAgg,resV,↓reduceIte,Nat.reduceEqDiff,reduceCtorEq,Nat.reduceAdd,Nat.reduceMul,Nat.reduceLeDiff,quietOp,blindOp,Int.reduceEq,Int.reduceLT,Int.reduceLE,Nat.reduceLT,ti2,ti3,ti4,ti45,ti46,ti38,ti25,ti30,ti22,ti32,ti24,ti95,ti172,ti169,ti165,ti166,ti65,ti143,ti87, h11, h10, h9, h8, h7, h2, h1, ex, gr, hy, hok, g1, g4]
              (repeat refine And.intro (by omega) ?_)
              refine (l10Won_c _ _).to ?_
              try simp (disch := first | omega | (simp only [ints_length, List.length_replicate, List.length_set]; done) | (simp only [ints_length, List.length_replicate, List.length_set]; omega)) only [Sall,evalOp,init,binE,binI,unE,convE,okNil,builtE,gv,TD.isAgg,resV,↓reduceIte,Nat.reduceEqDiff,reduceCtorEq,Nat.reduceAdd,Nat.reduceMul,Nat.reduceLeDiff,quietOp,blindOp,Int.reduceEq,Int.reduceLT,Int.reduceLE,Nat.reduceLT,ti2,ti3,ti4,ti45,ti46,ti38,ti25,ti30,ti22,ti32,ti24,ti95,ti172,ti169,ti165,ti166,ti65,ti143,ti87, h11, h10, h9, h8, h7, h2]
              refine draw_id (by kernel_rfl) (by kernel_rfl) ?_
              try simp (disch := first | omega | (simp only [ints_length, List.length_replicate, List.length_set]; done) | (simp only [ints_length, List.length_replicate, List.length_set]; omega)) only [Sall,evalOp,init,binE,binI,unE,convE,okNil,builtE,gv,TD.isAgg,resV,↓reduceIte,Nat.reduceEqDiff,reduceCtorEq,Nat.reduceAdd,Nat.reduceMul,Nat.reduceLeDiff,quietOp,blindOp,Int.reduceEq,Int.reduceLT,Int.reduceLE,Nat.reduceLT,ti2,ti3,ti4,ti45,ti46,ti38,ti25,ti30,ti22,ti32,ti24,ti95,ti172,ti169,ti165,ti166,ti65,ti143,ti87, h8, h7, hr5, k3, ints_get?, ints_set]
              try simp only [List.length_set]
              (repeat refine And.intro (by omega) ?_)
              refine ⟨.inr (.inl (by kernel_rfl)), ?_⟩
              refine Holds.mp ?_
              try simp (disch := first | omega | (simp only [ints_length, List.length_replicate, List.length_set]; done) | (simp only [ints_length, List.length_replicate, List.length_set]; omega)) only [Sall,evalOp,init,binE,binI,unE,convE,okNil,builtE,gv,TD.isAgg,resV,↓reduceIte,Nat.reduceEqDiff,reduceCtorEq,Nat.reduceAdd,Nat.reduceMul,Nat.reduceLeDiff,quietOp,blindOp,Int.reduceEq,Int.reduceLT,Int.reduceLE,Nat.reduceLT,ti2,ti3,ti4,ti45,ti46,ti38,ti25,ti30,ti22,ti32,ti24,ti95,ti172,ti169,ti165,ti166,ti65,ti143,ti87, h11, h10, h9, h8, h7, h2, h1, h3]
              refine draw_id (by kernel_rfl) (by kernel_rfl) ?_
              try simp (disch := first | omega | (simp only [ints_length, List.length_replicate, List.length_set]; done) | (simp only [ints_length, List.length_replicate, List.length_set]; omega)) only [Sall,evalOp,init,binE,binI,unE,convE,okNil,builtE,gv,TD.isAgg,resV,↓reduceIte,Nat.reduceEqDiff,reduceCtorEq,Nat.reduceAdd,Nat.reduceMul,Nat.reduceLeDiff,quietOp,blindOp,Int.reduceEq,Int.reduceLT,Int.reduceLE,Nat.reduceLT,ti2,ti3,ti4,ti45,ti46,ti38,ti25,ti30,ti22,ti32,ti24,ti95,ti172,ti169,ti165,ti166,ti65,ti143,ti87, h8, h7, hr5, k3, ne3, ints_get?, ints_set]
              try simp only [List.length_set]
              (repeat refine And.intro (by omega) ?_)
              refine ⟨.inr (.inl (by kernel_rfl)), ?_⟩
              refine Holds.mp ?_
              try simp (disch := first | omega | (simp only [ints_length, List.length_replicate, List.length_set]; done) | (simp only [ints_length, List.length_replicate, List.length_set]; omega)) only [Sall,evalOp,init,binE,binI,unE,convE,okNil,builtE,gv,TD.isAgg,resV,↓reduceIte,Nat.reduceEqDiff,reduceCtorEq,Nat.reduceAdd,Nat.reduceMul,Nat.reduceLeDiff,quietOp,blindOp,Int.reduceEq,Int.reduceLT,Int.reduceLE,Nat.reduceLT,ti2,ti3,ti4,ti45,ti46,ti38,ti25,ti30,ti22,ti32,ti24,ti95,ti172,ti169,ti165,ti166,ti65,ti143,ti87, h11, h10, h9, h8, h7, h2, h1, h3, w64, ne4]
              refine ⟨(pairsL (rnd l a) n).length - (b + 1), by omega, b + 1, rfl, by omega, by omega, (hup4.set (by omega) _).set (by omega) _, hn4, hr44, hp4.same fun i _ hi => ?_, hf4.same fun i hi1 hi2 => ?_, ?_⟩
              · rw [AH.setCells_row, if_neg (by omega), AH.setCells_row, if_neg (by omega)]
              · rw [AH.setCells_row, if_neg (by omega), AH.setCells_row, if_neg (by omega)]
              · rw [hr5, evs1]; rfl
          · try simp (disch := first | omega | (simp only [ints_length, List.length_replicate, List.length_set]; done) | (simp only [ints_length, List.length_replicate, List.length_set]; omega)) only [Sall,evalOp,init,binE,binI,unE,convE,okNil,builtE,gv,TD.isAgg,resV,↓reduceIte,Nat.reduceEqDiff,reduceCtorEq,Nat.reduceAdd,Nat.reduceMul,Nat.reduceLeDiff,quietOp,blindOp,Int.reduceEq,Int.reduceLT,Int.reduceLE,Nat.reduceLT,ti2,ti3,ti4,ti45,ti46,ti38,ti25,ti30,ti22,ti32,ti24,ti95,ti172,ti169,ti165,ti166,ti65,ti143,ti87, h9, h8, h7, h2, h1, h3, w64]
            have hbb : b = (pairsL (rnd l a) n).length := by omega
            refine ⟨ll.length - (a + 1), by omega, a + 1, rfl, by omega, by omega, hup4, by omega, hr44, hf4, ?_⟩
            rw [meets_succ, ← hbb]; exact hr5
      · try simp (disch := first | omega | (simp only [ints_length, List.length_replicate, List.length_set]; done) | (simp only [ints_length, List.length_replicate, List.length_set]; omega)) only [Sall,evalOp,init,binE,binI,unE,convE,okNil,builtE,gv,TD.isAgg,resV,↓reduceIte,Nat.reduceEqDiff,reduceCtorEq,Nat.reduceAdd,Nat.reduceMul,Nat.reduceLeDiff,quietOp,blindOp,Int.reduceEq,Int.reduceLT,Int.reduceLE,Nat.reduceLT,ti2,ti3,ti4,ti45,ti46,ti38,ti25,ti30,ti22,ti32,ti24,ti95,ti172,ti169,ti165,ti166,ti65,ti143,ti87, h8]
        have ha : a = ll.length := by omega
        subst ha
        exact ⟨hup, (sumsF_length n _ _).trans (Nat.mul_one n).symm, .inr ⟨oi, by omega, by omega, rfl, hr2⟩⟩
end Go.Proofs.Ytgkmdfjjlghecaa.A
end

section
set_option linter.unusedSimpArgs false
set_option linter.unusedVariables false
set_option maxRecDepth 100000
set_option maxHeartbeats 2000000
namespace Go.Proofs.Ytgkmdfjjlghecaa.A
open Go Go.Abs Go.RowKit

theorem codeS_yes {q : Int} {k : Nat} {l : List Int} {b : Bool} (h : schedB q k l = true) (hb : b = true) : codeS q k l b = 0 := by unfold codeS; rw [if_pos h, if_pos hb]
theorem codeS_no {q : Int} {k : Nat} {l : List Int} {b : Bool} (h : ¬ (schedB q k l = true ∧ b = true)) : (codeS q k l b != 0) = true := by
  unfold codeS
  split
  · rename_i h1
    rw [if_neg (fun h2 => h ⟨h1, h2⟩)]; rfl
  · rfl
theorem fr_nil (ty lo hi : Nat) (H : AH) : Fr 1 ty lo hi H (.slice none 0 0) 0 [] := ⟨rfl, .inl ⟨rfl, rfl⟩⟩

/-- Points of all teams, if the schedule and the results are right. -/
def ptsR (q : Int) (k : Nat) (l : List Int) (ll : List (List Int)) : List Int := if schedB q k l = true ∧ resB q.toNat k l ll = true then sumsF q.toNat (fun _ o => o) (meets q.toNat l ll ll.length) else []
/-- Second or third numbers of all teams, if the schedule and the results are right. -/
def sumR (third : Bool) (q : Int) (k : Nat) (l : List Int) (ll : List (List Int)) : List Int := if schedB q k l = true ∧ resB q.toNat k l ll = true then sumsF q.toNat (sumF third (sumsF q.toNat (fun _ o => o) (meets q.toNat l ll ll.length))) (meets q.toNat l ll ll.length) else []
theorem second_sum (n : Nat) (l : List Int) (ll : List (List Int)) : sumsF n (fun b _ => (sumsF n (fun _ o => o) (meets n l ll ll.length)).getD b.toNat 0) (meets n l ll ll.length) = sumsF n (sumF false (sumsF n (fun _ o => o) (meets n l ll ll.length))) (meets n l ll ll.length) := by
  refine sumsF_congr (fun b o => ?_) _
  unfold sumF
  rw [if_neg (by simp), Int.one_mul, w64 (sumsF_range _ _ _ _)]
theorem ptsR_length (q : Int) (k : Nat) (l : List Int) (ll : List (List Int)) : (ptsR q k l ll).length ≤ 14 := by
  unfold ptsR
  split
  · rename_i h
    obtain ⟨h2, _, _⟩ := schedB_at h.1
    rw [sumsF_length]; omega
  · simp
theorem sumR_length (third : Bool) (q : Int) (k : Nat) (l : List Int) (ll : List (List Int)) : (sumR third q k l ll).length ≤ 14 := by
  unfold sumR
  split
  · rename_i h
    obtain ⟨h2, _, _⟩ := schedB_at h.1
    rw [sumsF_length]; omega
  · simp

theorem specPointsOf_c (q : Int) (v : Value) (k : Nat) (l : List Int) (x : Value) (ll : List (List Int)) (H : AH) (hv : Rd 14 H v k l) (hk : k ≤ 4294967296) (hx : Rd2 1 H x ll) (hl : ll.length ≤ 4294967296) (hl2 : ∀ y ∈ ll, y.length ≤ 4294967296) :
    ACalls Try.prog 73 [.agg #[.int .i64 q, v], x] H (fun r H' => ∃ u, r = .tuple #[u, .int .i64 (codeS q k l (resB q.toNat k l ll))] ∧ Up H.next H H' ∧ Fr 1 2 H.next H'.next H' u (ptsR q k l ll).length (ptsR q k l ll)) := by
  refine ACalls.wf (by kernel_rfl) fun hs => acalls_of_awp [.tmp 4, .tmp 5] Try.func73 (by kernel_rfl) rfl rfl (Nat.le_of_ble_eq_true rfl) (by kernel_rfl) ?_
  have hone := hv.one
  have up : Up H.next H (H.push ⟨32, true, [.int .i64 q, v]⟩) := (Up.refl _ H).push (Nat.le_refl _) _
  have e1 : (H.push ⟨32, true, [.int .i64 q, v]⟩).row H.next = some ⟨32, true, [.int .i64 q, v]⟩ := by rw [AH.push_row, if_pos rfl]
  have n1 : (H.push ⟨32, true, [.int .i64 q, v]⟩).next = H.next + 1 := rfl
  try simp (disch := first | omega | (simp only [ints_length, List.length_replicate, List.length_set]; done) | (simp only [ints_length, List.length_replicate, List.length_set]; omega)) only [Sall,evalOp,init,binE,binI,unE,convE,okNil,builtE,gv,TD.isAgg,resV,↓reduceIte,Nat.reduceEqDiff,reduceCtorEq,Nat.reduceAdd,Nat.reduceMul,Nat.reduceLeDiff,quietOp,blindOp,Int.reduceEq,Int.reduceLT,Int.reduceLE,Nat.reduceLT,ti2,ti3,ti4,ti45,ti46,ti38,ti25,ti30,ti22,ti32,ti24,ti95,ti172,ti169,ti165,ti166,ti65,ti143,ti87, hone]
  revert up e1 n1
  generalize H.push ⟨32, true, [.int .i64 q, v]⟩ = H1
  intro up e1 n1
  have hv1 := hv.same (up.le hs).row
  have hx1 := hx.same (up.le hs).row
  refine (l10Code_c q v k l x ll (.slice none 0 0) 0 [] H1 hv1 hk hx1 hl hl2 (fr_nil 0 0 0 _).rd (by omega)).to ?_
  rw [show (resB q.toNat k l ll && (List.range 0).all fun i => decide (0 ≤ ([] : List Int).getD i 0 ∧ ([] : List Int).getD i 0 ≤ q - 1)) = resB q.toNat k l ll from Bool.and_true _]
  by_cases hok : schedB q k l = true ∧ resB q.toNat k l ll = true
  · obtain ⟨hb, hres⟩ := hok
    obtain ⟨h2, _, _⟩ := schedB_at hb
    obtain ⟨n, rfl⟩ : ∃ n : Nat, q = n := ⟨q.toNat, by omega⟩
    unfold ptsR
    rw [if_pos ⟨hb, hres⟩, codeS_yes hb hres]
    rw [Int.toNat_natCast] at hres ⊢
    try simp (disch := first | omega | (simp only [ints_length, List.length_replicate, List.length_set]; done) | (simp only [ints_length, List.length_replicate, List.length_set]; omega)) only [Sall,evalOp,init,binE,binI,unE,convE,okNil,builtE,gv,TD.isAgg,resV,↓reduceIte,Nat.reduceEqDiff,reduceCtorEq,Nat.reduceAdd,Nat.reduceMul,Nat.reduceLeDiff,quietOp,blindOp,Int.reduceEq,Int.reduceLT,Int.reduceLE,Nat.reduceLT,ti2,ti3,ti4,ti45,ti46,ti38,ti25,ti30,ti22,ti32,ti24,ti95,ti172,ti169,ti165,ti166,ti65,ti143,ti87, bne_self_eq_false, e1, builtE, hx1.len]
    refine (l10Points_c n v k l x ll ll.length H1 hb hres (Nat.le_refl _) hl hv1 hx1).mono ?_
    rintro u H2 ⟨up2, hf⟩
    have hu := hf.rd.one
    refine Holds.mp ?_
    try simp (disch := first | omega | (simp only [ints_length, List.length_replicate, List.length_set]; done) | (simp only [ints_length, List.length_replicate, List.length_set]; omega)) only [Sall,evalOp,init,binE,binI,unE,convE,okNil,builtE,gv,TD.isAgg,resV,↓reduceIte,Nat.reduceEqDiff,reduceCtorEq,Nat.reduceAdd,Nat.reduceMul,Nat.reduceLeDiff,quietOp,blindOp,Int.reduceEq,Int.reduceLT,Int.reduceLE,Nat.reduceLT,ti2,ti3,ti4,ti45,ti46,ti38,ti25,ti30,ti22,ti32,ti24,ti95,ti172,ti169,ti165,ti166,ti65,ti143,ti87, hu]
    refine ⟨u, rfl, up.trans up2 (by omega), ?_⟩
    rw [sumsF_length]
    exact hf.wide (by omega) (Nat.le_refl _)
  · have ec := codeS_no hok
    unfold ptsR
    rw [if_neg hok]
    try simp (disch := first | omega | (simp only [ints_length, List.length_replicate, List.length_set]; done) | (simp only [ints_length, List.length_replicate, List.length_set]; omega)) only [Sall,evalOp,init,binE,binI,unE,convE,okNil,builtE,gv,TD.isAgg,resV,↓reduceIte,Nat.reduceEqDiff,reduceCtorEq,Nat.reduceAdd,Nat.reduceMul,Nat.reduceLeDiff,quietOp,blindOp,Int.reduceEq,Int.reduceLT,Int.reduceLE,Nat.reduceLT,ti2,ti3,ti4,ti45,ti46,ti38,ti25,ti30,ti22,ti32,ti24,ti95,ti172,ti169,ti165,ti166,ti65,ti143,ti87, ec]
    exact ⟨_, rfl, up, fr_nil _ _ _ _⟩

theorem PointsOf_c (q : Int) (v : Value) (k : Nat) (l : List Int) (x : Value) (ll : List (List Int)) (H : AH) (hv : Rd 14 H v k l) (hk : k ≤ 4294967296) (hx : Rd2 1 H x ll) (hl : ll.length ≤ 4294967296) (hl2 : ∀ y ∈ ll, y.length ≤ 4294967296) :
    ACalls Try.prog 72 [.agg #[.int .i64 q, v], x] H (fun r H' => ∃ u, r = .tuple #[u, .int .i64 (codeS q k l (resB q.toNat k l ll))] ∧ Up H.next H H' ∧ Fr 1 2 H.next H'.next H' u (ptsR q k l ll).length (ptsR q k l ll)) := by
  refine ACalls.wf (by kernel_rfl) fun hs => acalls_of_awp [.tmp 4, .tmp 5] Try.func72 (by kernel_rfl) rfl rfl (Nat.le_of_ble_eq_true rfl) (by kernel_rfl) ?_
  have hone := hv.one
  have up : Up H.next H (H.push ⟨32, true, [.int .i64 q, v]⟩) := (Up.refl _ H).push (Nat.le_refl _) _
  have e1 : (H.push ⟨32, true, [.int .i64 q, v]⟩).row H.next = some ⟨32, true, [.int .i64 q, v]⟩ := by rw [AH.push_row, if_pos rfl]
  have n1 : (H.push ⟨32, true, [.int .i64 q, v]⟩).next = H.next + 1 := rfl
  try simp (disch := first | omega | (simp only [ints_length, List.length_replicate, List.length_set]; done) | (simp only [ints_length, List.length_replicate, List.length_set]; omega)) only [Sall,evalOp,init,binE,binI,unE,convE,okNil,builtE,gv,TD.isAgg,resV,↓reduceIte,Nat.reduceEqDiff,reduceCtorEq,Nat.reduceAdd,Nat.reduceMul,Nat.reduceLeDiff,quietOp,blindOp,Int.reduceEq,Int.reduceLT,Int.reduceLE,Nat.reduceLT,ti2,ti3,ti4,ti45,ti46,ti38,ti25,ti30,ti22,ti32,ti24,ti95,ti172,ti169,ti165,ti166,ti65,ti143,ti87, hone]
  revert up e1 n1
  generalize H.push ⟨32, true, [.int .i64 q, v]⟩ = H1
  intro up e1 n1
  have hv1 := hv.same (up.le hs).row
  have hx1 := hx.same (up.le hs).row
  refine (resultsCode_c q v k l x ll 92 [] true H1 hv1 hk hx1 hl hl2 fun H' _ _ _ => always_c H').to ?_
  rw [Bool.and_true]
  by_cases hok : schedB q k l = true ∧ resB q.toNat k l ll = true
  · obtain ⟨hb, hres⟩ := hok
    obtain ⟨h2, _, _⟩ := schedB_at hb
    obtain ⟨n, rfl⟩ : ∃ n : Nat, q = n := ⟨q.toNat, by omega⟩
    unfold ptsR
    rw [if_pos ⟨hb, hres⟩, codeS_yes hb hres]
    rw [Int.toNat_natCast] at hres ⊢
    try simp (disch := first | omega | (simp only [ints_length, List.length_replicate, List.length_set]; done) | (simp only [ints_length, List.length_replicate, List.length_set]; omega)) only [Sall,evalOp,init,binE,binI,unE,convE,okNil,builtE,gv,TD.isAgg,resV,↓reduceIte,Nat.reduceEqDiff,reduceCtorEq,Nat.reduceAdd,Nat.reduceMul,Nat.reduceLeDiff,quietOp,blindOp,Int.reduceEq,Int.reduceLT,Int.reduceLE,Nat.reduceLT,ti2,ti3,ti4,ti45,ti46,ti38,ti25,ti30,ti22,ti32,ti24,ti95,ti172,ti169,ti165,ti166,ti65,ti143,ti87, bne_self_eq_false, e1, builtE, hx1.len]
    refine (points_c n v k l x ll  H1 hb hres  hl hv1 hx1).mono ?_
    rintro u H2 ⟨up2, hf⟩
    have hu := hf.rd.one
    refine Holds.mp ?_
    try simp (disch := first | omega | (simp only [ints_length, List.length_replicate, List.length_set]; done) | (simp only [ints_length, List.length_replicate, List.length_set]; omega)) only [Sall,evalOp,init,binE,binI,unE,convE,okNil,builtE,gv,TD.isAgg,resV,↓reduceIte,Nat.reduceEqDiff,reduceCtorEq,Nat.reduceAdd,Nat.reduceMul,Nat.reduceLeDiff,quietOp,blindOp,Int.reduceEq,Int.reduceLT,Int.reduceLE,Nat.reduceLT,ti2,ti3,ti4,ti45,ti46,ti38,ti25,ti30,ti22,ti32,ti24,ti95,ti172,ti169,ti165,ti166,ti65,ti143,ti87, hu]
    refine ⟨u, rfl, up.trans up2 (by omega), ?_⟩
    rw [sumsF_length]
    exact hf.wide (by omega) (Nat.le_refl _)
  · have ec := codeS_no hok
    unfold ptsR
    rw [if_neg hok]
    try simp (disch := first | omega | (simp only [ints_length, List.length_replicate, List.length_set]; done) | (simp only [ints_length, List.length_replicate, List.length_set]; omega)) only [Sall,evalOp,init,binE,binI,unE,convE,okNil,builtE,gv,TD.isAgg,resV,↓reduceIte,Nat.reduceEqDiff,reduceCtorEq,Nat.reduceAdd,Nat.reduceMul,Nat.reduceLeDiff,quietOp,blindOp,Int.reduceEq,Int.reduceLT,Int.reduceLE,Nat.reduceLT,ti2,ti3,ti4,ti45,ti46,ti38,ti25,ti30,ti22,ti32,ti24,ti95,ti172,ti169,ti165,ti166,ti65,ti143,ti87, ec]
    exact ⟨_, rfl, up, fr_nil _ _ _ _⟩

theorem specSecondNumbers_c (q : Int) (v : Value) (k : Nat) (l : List Int) (x : Value) (ll : List (List Int)) (H : AH) (hv : Rd 14 H v k l) (hk : k ≤ 4294967296) (hx : Rd2 1 H x ll) (hl : ll.length ≤ 4294967296) (hl2 : ∀ y ∈ ll, y.length ≤ 4294967296) :
    ACalls Try.prog 75 [.agg #[.int .i64 q, v], x] H (fun r H' => ∃ u, r = .tuple #[u, .int .i64 (codeS q k l (resB q.toNat k l ll))] ∧ Up H.next H H' ∧ Fr 1 2 H.next H'.next H' u (sumR false q k l ll).length (sumR false q k l ll)) := by
  refine ACalls.wf (by kernel_rfl) fun hs => acalls_of_awp [.tmp 4, .tmp 5] Try.func75 (by kernel_rfl) rfl rfl (Nat.le_of_ble_eq_true rfl) (by kernel_rfl) ?_
  have hone := hv.one
  have up : Up H.next H (H.push ⟨32, true, [.int .i64 q, v]⟩) := (Up.refl _ H).push (Nat.le_refl _) _
  have e1 : (H.push ⟨32, true, [.int .i64 q, v]⟩).row H.next = some ⟨32, true, [.int .i64 q, v]⟩ := by rw [AH.push_row, if_pos rfl]
  have n1 : (H.push ⟨32, true, [.int .i64 q, v]⟩).next = H.next + 1 := rfl
  try simp (disch := first | omega | (simp only [ints_length, List.length_replicate, List.length_set]; done) | (simp only [ints_length, List.length_replicate, List.length_set]; omega)) only [Sall,evalOp,init,binE,binI,unE,convE,okNil,builtE,gv,TD.isAgg,resV,↓reduceIte,Nat.reduceEqDiff,reduceCtorEq,Nat.reduceAdd,Nat.reduceMul,Nat.reduceLeDiff,quietOp,blindOp,Int.reduceEq,Int.reduceLT,Int.reduceLE,Nat.reduceLT,ti2,ti3,ti4,ti45,ti46,ti38,ti25,ti30,ti22,ti32,ti24,ti95,ti172,ti169,ti165,ti166,ti65,ti143,ti87, hone]
  revert up e1 n1
  generalize H.push ⟨32, true, [.int .i64 q, v]⟩ = H1
  intro up e1 n1
  have hv1 := hv.same (up.le hs).row
  have hx1 := hx.same (up.le hs).row
  refine (l10Code_c q v k l x ll (.slice none 0 0) 0 [] H1 hv1 hk hx1 hl hl2 (fr_nil 0 0 0 _).rd (by omega)).to ?_
  rw [show (resB q.toNat k l ll && (List.range 0).all fun i => decide (0 ≤ ([] : List Int).getD i 0 ∧ ([] : List Int).getD i 0 ≤ q - 1)) = resB q.toNat k l ll from Bool.and_true _]
  by_cases hok : schedB q k l = true ∧ resB q.toNat k l ll = true
  · obtain ⟨hb, hres⟩ := hok
    obtain ⟨h2, _, _⟩ := schedB_at hb
    obtain ⟨n, rfl⟩ : ∃ n : Nat, q = n := ⟨q.toNat, by omega⟩
    unfold sumR
    rw [if_pos ⟨hb, hres⟩, codeS_yes hb hres]
    rw [Int.toNat_natCast] at hres ⊢
    try simp (disch := first | omega | (simp only [ints_length, List.length_replicate, List.length_set]; done) | (simp only [ints_length, List.length_replicate, List.length_set]; omega)) only [Sall,evalOp,init,binE,binI,unE,convE,okNil,builtE,gv,TD.isAgg,resV,↓reduceIte,Nat.reduceEqDiff,reduceCtorEq,Nat.reduceAdd,Nat.reduceMul,Nat.reduceLeDiff,quietOp,blindOp,Int.reduceEq,Int.reduceLT,Int.reduceLE,Nat.reduceLT,ti2,ti3,ti4,ti45,ti46,ti38,ti25,ti30,ti22,ti32,ti24,ti95,ti172,ti169,ti165,ti166,ti65,ti143,ti87, bne_self_eq_false, e1, builtE, hx1.len]
    refine (l10Sums_c n v k l x ll false H1 hb hres  hl hv1 hx1).mono ?_
    rintro u H2 ⟨up2, hf⟩
    have hu := hf.rd.one
    refine Holds.mp ?_
    try simp (disch := first | omega | (simp only [ints_length, List.length_replicate, List.length_set]; done) | (simp only [ints_length, List.length_replicate, List.length_set]; omega)) only [Sall,evalOp,init,binE,binI,unE,convE,okNil,builtE,gv,TD.isAgg,resV,↓reduceIte,Nat.reduceEqDiff,reduceCtorEq,Nat.reduceAdd,Nat.reduceMul,Nat.reduceLeDiff,quietOp,blindOp,Int.reduceEq,Int.reduceLT,Int.reduceLE,Nat.reduceLT,ti2,ti3,ti4,ti45,ti46,ti38,ti25,ti30,ti22,ti32,ti24,ti95,ti172,ti169,ti165,ti166,ti65,ti143,ti87, hu]
    refine ⟨u, rfl, up.trans up2 (by omega), ?_⟩
    rw [sumsF_length]
    exact hf.wide (by omega) (Nat.le_refl _)
  · have ec := codeS_no hok
    unfold sumR
    rw [if_neg hok]
    try simp (disch := first | omega | (simp only [ints_length, List.length_replicate, List.length_set]; done) | (simp only [ints_length, List.length_replicate, List.length_set]; omega)) only [Sall,evalOp,init,binE,binI,unE,convE,okNil,builtE,gv,TD.isAgg,resV,↓reduceIte,Nat.reduceEqDiff,reduceCtorEq,Nat.reduceAdd,Nat.reduceMul,Nat.reduceLeDiff,quietOp,blindOp,Int.reduceEq,Int.reduceLT,Int.reduceLE,Nat.reduceLT,ti2,ti3,ti4,ti45,ti46,ti38,ti25,ti30,ti22,ti32,ti24,ti95,ti172,ti169,ti165,ti166,ti65,ti143,ti87, ec]
    exact ⟨_, rfl, up, fr_nil _ _ _ _⟩

theorem SecondNumbers_c (q : Int) (v : Value) (k : Nat) (l : List Int) (x : Value) (ll : List (List Int)) (H : AH) (hv : Rd 14 H v k l) (hk : k ≤ 4294967296) (hx : Rd2 1 H x ll) (hl : ll.length ≤ 4294967296) (hl2 : ∀ y ∈ ll, y.length ≤ 4294967296) :
    ACalls Try.prog 74 [.agg #[.int .i64 q, v], x] H (fun r H' => ∃ u, r = .tuple #[u, .int .i64 (codeS q k l (resB q.toNat k l ll))] ∧ Up H.next H H' ∧ Fr 1 2 H.next H'.next H' u (sumR false q k l ll).length (sumR false q k l ll)) := by
  refine ACalls.wf (by kernel_rfl) fun hs => acalls_of_awp [.tmp 4, .tmp 5] Try.func74 (by kernel_rfl) rfl rfl (Nat.le_of_ble_eq_true rfl) (by kernel_rfl) ?_
  have hone := hv.one
  have up : Up H.next H (H.push ⟨32, true, [.int .i64 q, v]⟩) := (Up.refl _ H).push (Nat.le_refl _) _
  have e1 : (H.push ⟨32, true, [.int .i64 q, v]⟩).row H.next = some ⟨32, true, [.int .i64 q, v]⟩ := by rw [AH.push_row, if_pos rfl]
  have n1 : (H.push ⟨32, true, [.int .i64 q, v]⟩).next = H.next + 1 := rfl
  try simp (disch := first | omega | (simp only [ints_length, List.length_replicate, List.length_set]; done) | (simp only [ints_length, List.length_replicate, List.length_set]; omega)) only [Sall,evalOp,init,binE,binI,unE,convE,okNil,builtE,gv,TD.isAgg,resV,↓reduceIte,Nat.reduceEqDiff,reduceCtorEq,Nat.reduceAdd,Nat.reduceMul,Nat.reduceLeDiff,quietOp,blindOp,Int.reduceEq,Int.reduceLT,Int.reduceLE,Nat.reduceLT,ti2,ti3,ti4,ti45,ti46,ti38,ti25,ti30,ti22,ti32,ti24,ti95,ti172,ti169,ti165,ti166,ti65,ti143,ti87, hone]
  revert up e1 n1
  generalize H.push ⟨32, true, [.int .i64 q, v]⟩ = H1
  intro up e1 n1
  have hv1 := hv.same (up.le hs).row
  have hx1 := hx.same (up.le hs).row
  refine (resultsCode_c q v k l x ll 92 [] true H1 hv1 hk hx1 hl hl2 fun H' _ _ _ => always_c H').to ?_
  rw [Bool.and_true]
  by_cases hok : schedB q k l = true ∧ resB q.toNat k l ll = true
  · obtain ⟨hb, hres⟩ := hok
    obtain ⟨h2, _, _⟩ := schedB_at hb
    obtain ⟨n, rfl⟩ : ∃ n : Nat, q = n := ⟨q.toNat, by omega⟩
    unfold sumR
    rw [if_pos ⟨hb, hres⟩, codeS_yes hb hres]
    rw [Int.toNat_natCast] at hres ⊢
    try simp (disch := first | omega | (simp only [ints_length, List.length_replicate, List.length_set]; done) | (simp only [ints_length, List.length_replicate, List.length_set]; omega)) only [Sall,evalOp,init,binE,binI,unE,convE,okNil,builtE,gv,TD.isAgg,resV,↓reduceIte,Nat.reduceEqDiff,reduceCtorEq,Nat.reduceAdd,Nat.reduceMul,Nat.reduceLeDiff,quietOp,blindOp,Int.reduceEq,Int.reduceLT,Int.reduceLE,Nat.reduceLT,ti2,ti3,ti4,ti45,ti46,ti38,ti25,ti30,ti22,ti32,ti24,ti95,ti172,ti169,ti165,ti166,ti65,ti143,ti87, bne_self_eq_false, e1, builtE, hx1.len]
    refine (second_c n v k l x ll  H1 hb hres  hl hv1 hx1).mono ?_
    rintro u H2 ⟨up2, hf⟩
    have hu := hf.rd.one
    refine Holds.mp ?_
    try simp (disch := first | omega | (simp only [ints_length, List.length_replicate, List.length_set]; done) | (simp only [ints_length, List.length_replicate, List.length_set]; omega)) only [Sall,evalOp,init,binE,binI,unE,convE,okNil,builtE,gv,TD.isAgg,resV,↓reduceIte,Nat.reduceEqDiff,reduceCtorEq,Nat.reduceAdd,Nat.reduceMul,Nat.reduceLeDiff,quietOp,blindOp,Int.reduceEq,Int.reduceLT,Int.reduceLE,Nat.reduceLT,ti2,ti3,ti4,ti45,ti46,ti38,ti25,ti30,ti22,ti32,ti24,ti95,ti172,ti169,ti165,ti166,ti65,ti143,ti87, hu]
    refine ⟨u, rfl, up.trans up2 (by omega), ?_⟩
    rw [sumsF_length]
    rw [second_sum] at hf
    exact hf.wide (by omega) (Nat.le_refl _)
  · have ec := codeS_no hok
    unfold sumR
    rw [if_neg hok]
    try simp (disch := first | omega | (simp only [ints_length, List.length_replicate, List.length_set]; done) | (simp only [ints_length, List.length_replicate, List.length_set]; omega)) only [Sall,evalOp,init,binE,binI,unE,convE,okNil,builtE,gv,TD.isAgg,resV,↓reduceIte,Nat.reduceEqDiff,reduceCtorEq,Nat.reduceAdd,Nat.reduceMul,Nat.reduceLeDiff,quietOp,blindOp,Int.reduceEq,Int.reduceLT,Int.reduceLE,Nat.reduceLT,ti2,ti3,ti4,ti45,ti46,ti38,ti25,ti30,ti22,ti32,ti24,ti95,ti172,ti169,ti165,ti166,ti65,ti143,ti87, ec]
    exact ⟨_, rfl, up, fr_nil _ _ _ _⟩
end Go.Proofs.Ytgkmdfjjlghecaa.A
end

section
set_option linter.unusedSimpArgs false
set_option linter.unusedVariables false
namespace Go.Abs

/-- What a meeting adds to the points of a and of b from their meetings. -/
def btwStep (a b : Int) (s : Int × Int) (e : Ev) : Int × Int :=
  if e.2.1 = a ∧ e.2.2.1 = b then (IntKind.i64.wrap (s.1 + e.2.2.2), s.2) else if e.2.1 = b ∧ e.2.2.1 = a then (s.1, IntKind.i64.wrap (s.2 + e.2.2.2)) else s
def btw (a b : Int) (es : List Ev) : Int × Int := es.foldl (btwStep a b) (0, 0)
theorem btw_nil (a b : Int) : btw a b [] = (0, 0) := rfl
theorem btw_append (a b : Int) (es : List Ev) (e : Ev) : btw a b (es ++ [e]) = btwStep a b (btw a b es) e := by simp [btw]
theorem btw_pair {a b : Int} (hab : a ≠ b) (es : List Ev) (i : Nat) (p r o : Int) :
    btw a b ((es ++ [(i, p, r, o)]) ++ [(i, r, p, 2 - o)]) = if p = a ∧ r = b then (IntKind.i64.wrap ((btw a b es).1 + o), IntKind.i64.wrap ((btw a b es).2 + (2 - o))) else if p = b ∧ r = a then (IntKind.i64.wrap ((btw a b es).1 + (2 - o)), IntKind.i64.wrap ((btw a b es).2 + o)) else btw a b es := by
  rw [btw_append, btw_append]
  unfold btwStep
  by_cases h1 : p = a ∧ r = b
  · obtain ⟨rfl, rfl⟩ := h1
    simp [hab, Ne.symm hab]
  · by_cases h2 : p = b ∧ r = a
    · obtain ⟨rfl, rfl⟩ := h2
      simp [hab, Ne.symm hab]
    · simp only [h1, h2, if_false]
      rw [if_neg (by rintro ⟨rfl, rfl⟩; exact h2 ⟨rfl, rfl⟩), if_neg (by rintro ⟨rfl, rfl⟩; exact h1 ⟨rfl, rfl⟩)]

/-- The points of a team in each round, one place further. -/
def byRd (a : Int) (R : Nat) (es : List Ev) : List Int := es.foldl (fun l e => if e.2.1 = a then l.set (e.1 + 1) e.2.2.2 else l) (List.replicate (R + 1) 0)
theorem byRd_nil (a : Int) (R : Nat) : byRd a R [] = List.replicate (R + 1) 0 := rfl
theorem byRd_append (a : Int) (R : Nat) (es : List Ev) (e : Ev) : byRd a R (es ++ [e]) = if e.2.1 = a then (byRd a R es).set (e.1 + 1) e.2.2.2 else byRd a R es := by simp [byRd]
theorem byRd_length (a : Int) (R : Nat) (es : List Ev) : (byRd a R es).length = R + 1 := by
  unfold byRd
  have : ∀ (es : List Ev) (l : List Int), (es.foldl (fun l e => if e.2.1 = a then l.set (e.1 + 1) e.2.2.2 else l) l).length = l.length := by
    intro es
    induction es with
    | nil => intro l; rfl
    | cons e es ih => intro l; rw [List.foldl_cons, ih]; split <;> simp
  rw [this, List.length_replicate]
/-- Each number with the one before it added, the first i. -/
def pref : Nat → List Int → List Int
  | 0, l => l
  | i + 1, l => (pref i l).set (i + 1) (IntKind.i64.wrap ((pref i l).getD (i + 1) 0 + (pref i l).getD i 0))
theorem pref_length (i : Nat) (l : List Int) : (pref i l).length = l.length := by
  induction i with
  | zero => rfl
  | succ i ih => simp [pref, ih]
/-- The points of a team after each number of rounds. -/
def ptsBy (n : Nat) (l : List Int) (ll : List (List Int)) (a : Nat) (m : Nat) : List Int := (List.range m).map fun i => (sumsF n (fun _ o => o) (meets n l ll i)).getD a 0
theorem ptsBy_length (n : Nat) (l : List Int) (ll : List (List Int)) (a m : Nat) : (ptsBy n l ll a m).length = m := by simp [ptsBy]
theorem ptsBy_succ (n : Nat) (l : List Int) (ll : List (List Int)) (a m : Nat) : ptsBy n l ll a (m + 1) = ptsBy n l ll a m ++ [(sumsF n (fun _ o => o) (meets n l ll m)).getD a 0] := by simp [ptsBy, List.range_succ]
end Go.Abs
end

section
set_option linter.unusedSimpArgs false
set_option linter.unusedVariables false
set_option maxRecDepth 100000
set_option maxHeartbeats 2000000
namespace Go.Proofs.Ytgkmdfjjlghecaa.A
open Go Go.Abs Go.RowKit

theorem hasTeam_c (q : Int) (v : Value) (a : Int) (H : AH) (hq : 2 ≤ q ∧ q ≤ 14) (hone : v.oneCell' = true) : ACalls Try.prog 89 [.agg #[.int .i64 q, v], .int .i64 a] H (is (.bool (decide (0 ≤ a ∧ a ≤ q - 1))) H) := by
  refine acalls_up rfl (acalls_of_awp [.tmp 4] Try.func89 (by kernel_rfl) rfl rfl (Nat.le_of_ble_eq_true rfl) (by kernel_rfl) ?_)
  have up : Up H.next H (H.push ⟨32, true, [.int .i64 q, v]⟩) := (Up.refl _ H).push (Nat.le_refl _) _
  try simp (disch := first | omega | (simp only [ints_length, List.length_replicate, List.length_set]; done) | (simp only [ints_length, List.length_replicate, List.length_set]; omega)) only [Sall,evalOp,init,binE,binI,unE,convE,okNil,builtE,gv,TD.isAgg,resV,↓reduceIte,Nat.reduceEqDiff,reduceCtorEq,Nat.reduceAdd,Nat.reduceMul,Nat.reduceLeDiff,quietOp,blindOp,Int.reduceEq,Int.reduceLT,Int.reduceLE,Nat.reduceLT,ti2,ti3,ti4,ti45,ti46,ti38,ti25,ti30,ti22,ti32,ti24,ti95,ti172,ti169,ti165,ti166,ti65,ti143,ti87, hone, w64]
  refine (between_c _ _ _ _).to ?_
  try simp (disch := first | omega | (simp only [ints_length, List.length_replicate, List.length_set]; done) | (simp only [ints_length, List.length_replicate, List.length_set]; omega)) only [Sall,evalOp,init,binE,binI,unE,convE,okNil,builtE,gv,TD.isAgg,resV,↓reduceIte,Nat.reduceEqDiff,reduceCtorEq,Nat.reduceAdd,Nat.reduceMul,Nat.reduceLeDiff,quietOp,blindOp,Int.reduceEq,Int.reduceLT,Int.reduceLE,Nat.reduceLT,ti2,ti3,ti4,ti45,ti46,ti38,ti25,ti30,ti22,ti32,ti24,ti95,ti172,ti169,ti165,ti166,ti65,ti143,ti87, true_and]
  exact up

/-- Are there two different teams of these numbers? -/
def twoB (q a b : Int) : Bool := decide (0 ≤ a ∧ a ≤ q - 1) && decide (0 ≤ b ∧ b ≤ q - 1) && a != b
def btwR (q : Int) (k : Nat) (l : List Int) (ll : List (List Int)) (a b : Int) : Int × Int := if schedB q k l = true ∧ (resB q.toNat k l ll && twoB q a b) = true then btw a b (meets q.toNat l ll ll.length) else (0, 0)

theorem codeS_le {q : Int} {k : Nat} {l : List Int} {b b' : Bool} (h : ¬ (schedB q k l = true ∧ b = true)) (hb : b' = true → b = true) : codeS q k l b = codeS q k l b' := by
  unfold codeS
  by_cases h1 : schedB q k l = true
  · rw [if_pos h1, if_pos h1, if_neg (fun h2 => h ⟨h1, h2⟩), if_neg (fun h2 => h ⟨h1, hb h2⟩)]
  · rw [if_neg h1, if_neg h1]

end Go.Proofs.Ytgkmdfjjlghecaa.A
end

section
set_option linter.unusedSimpArgs false
namespace Go.Abs

/-- The points of a team in a round in which it meets another one. -/
def ownAt (r x : List Int) (a : Nat) : Int := if (a : Int) < r.getD a 0 then wonI (x.getD (pairsL r a).length 0) else 2 - wonI (x.getD (pairsL r (r.getD a 0).toNat).length 0)

/-- The events of the pairs of the first m teams. -/
def evUpto (i : Nat) (r x : List Int) (m : Nat) : List Ev := (List.range (pairsL r m).length).flatMap fun j => evPair i ((pairsL r m).getD j []) (wonI (x.getD j 0))
theorem evUpto_all (n i : Nat) (r x : List Int) : evRound n i r x (pairsL r n).length = evUpto i r x n := rfl
theorem evUpto_yes (i : Nat) (r x : List Int) (m : Nat) (h : (m : Int) < r.getD m 0) : evUpto i r x (m + 1) = evUpto i r x m ++ [(i, (m : Int), r.getD m 0, wonI (x.getD (pairsL r m).length 0)), (i, r.getD m 0, (m : Int), 2 - wonI (x.getD (pairsL r m).length 0))] := by
  unfold evUpto
  rw [pairsL_yes r m h, List.length_append, List.length_singleton, List.range_succ, List.flatMap_append]
  congr 1
  · rw [List.flatMap_def, List.flatMap_def]
    congr 1
    apply List.map_congr_left
    intro j hj
    rw [List.mem_range] at hj
    rw [List.getD_eq_getElem?_getD, List.getElem?_append_left hj, ← List.getD_eq_getElem?_getD]
  · simp only [List.flatMap_cons, List.flatMap_nil, List.append_nil]
    rw [List.getD_eq_getElem?_getD, List.getElem?_append_right (Nat.le_refl _), Nat.sub_self]
    rfl
theorem evUpto_no (i : Nat) (r x : List Int) (m : Nat) (h : ¬ (m : Int) < r.getD m 0) : evUpto i r x (m + 1) = evUpto i r x m := by
  unfold evUpto; rw [pairsL_no r m h]

theorem evUpto_filter {n : Nat} {r : List Int} (hr : ∀ a : Nat, a < n → 0 ≤ r.getD a 0 ∧ r.getD a 0 < n ∧ r.getD (r.getD a 0).toNat 0 = a) (i : Nat) (x : List Int) {a : Nat} (ha : a < n) : ∀ m, m ≤ n →
    (evUpto i r x m).filter (fun e => decide (e.2.1 = (a : Int))) = if (a < m ∧ (a : Int) < r.getD a 0) ∨ (r.getD a 0 < m ∧ r.getD a 0 < a) then [(i, (a : Int), r.getD a 0, ownAt r x a)] else []
  | 0, _ => by
    obtain ⟨h1, _, _⟩ := hr a ha
    rw [if_neg (by omega)]; rfl
  | m + 1, hm => by
    have ih := evUpto_filter hr i x ha m (by omega)
    obtain ⟨a1, a2, a3⟩ := hr a ha
    obtain ⟨m1, m2, m3⟩ := hr m (by omega)
    by_cases h : (m : Int) < r.getD m 0
    · rw [evUpto_yes i r x m h, List.filter_append, ih]
      by_cases c1 : a = m
      · subst c1
        have c2 : ¬ r.getD a 0 = (a : Int) := by omega
        rw [if_neg (by omega), if_pos (by omega)]
        have : ownAt r x a = wonI (x.getD (pairsL r a).length 0) := by unfold ownAt; rw [if_pos h]
        simp only [List.filter_cons, List.filter_nil, decide_true, c2, decide_false, if_true, List.nil_append, this]
        simp
      · by_cases c2 : r.getD m 0 = (a : Int)
        · have e1 : r.getD a 0 = (m : Int) := by rw [c2] at m3; simpa using m3
          have c3 : ¬ (m : Int) = (a : Int) := by omega
          rw [if_neg (by omega), if_pos (by omega)]
          have : ownAt r x a = 2 - wonI (x.getD (pairsL r m).length 0) := by unfold ownAt; rw [if_neg (by omega), e1]; simp
          simp only [List.filter_cons, List.filter_nil, c2, decide_true, c3, decide_false, if_true, List.nil_append, this, e1]
          simp
        · have c3 : ¬ (m : Int) = (a : Int) := by omega
          have e1 : ¬ r.getD a 0 = (m : Int) := fun e => c2 (by rw [e] at a3; simpa using a3)
          simp only [List.filter_cons, List.filter_nil, c2, c3, decide_false, Bool.false_eq_true, if_false, List.append_nil]
          congr 1
          simp only [eq_iff_iff]
          omega
    · rw [evUpto_no i r x m h, ih]
      congr 1
      simp only [eq_iff_iff]
      have e1 : r.getD a 0 = (m : Int) → (a : Int) = r.getD m 0 := fun e => by rw [e] at a3; simpa using a3.symm
      have e2 : a = m → r.getD a 0 = r.getD m 0 := fun e => by rw [e]
      constructor
      · rintro (⟨b1, b2⟩ | ⟨b1, b2⟩)
        · exact .inl ⟨by omega, b2⟩
        · exact .inr ⟨by omega, b2⟩
      · rintro (⟨b1, b2⟩ | ⟨b1, b2⟩)
        · refine .inl ⟨?_, b2⟩
          by_cases c : a = m
          · have := e2 c; omega
          · omega
        · refine .inr ⟨?_, b2⟩
          by_cases c : r.getD a 0 = (m : Int)
          · have := e1 c; omega
          · omega

theorem evRound_filter {n : Nat} {r : List Int} (hr : ∀ a : Nat, a < n → 0 ≤ r.getD a 0 ∧ r.getD a 0 < n ∧ r.getD (r.getD a 0).toNat 0 = a) (i : Nat) (x : List Int) {a : Nat} (ha : a < n) :
    (evRound n i r x (pairsL r n).length).filter (fun e => decide (e.2.1 = (a : Int))) = if r.getD a 0 = a then [] else [(i, (a : Int), r.getD a 0, ownAt r x a)] := by
  rw [evUpto_all, evUpto_filter hr i x ha n (Nat.le_refl _)]
  obtain ⟨a1, a2, a3⟩ := hr a ha
  by_cases c : r.getD a 0 = (a : Int)
  · rw [if_pos c, if_neg (by omega)]
  · rw [if_neg c, if_pos (by omega)]

theorem sums_filter (f : Int → Int → Int) (a : Nat) : ∀ (es : List Ev) (A : List Int), a < A.length → (∀ e ∈ es, 0 ≤ e.2.1) →
    (es.foldl (fun l e => addAt l e.2.1 (f e.2.2.1 e.2.2.2)) A).getD a 0 = (es.filter (fun e => decide (e.2.1 = (a : Int)))).foldl (fun z e => IntKind.i64.wrap (z + f e.2.2.1 e.2.2.2)) (A.getD a 0)
  | [], A, _, _ => rfl
  | e :: es, A, hA, he => by
    rw [List.foldl_cons, sums_filter f a es _ (by rw [addAt_length]; exact hA) (fun e h => he e (List.mem_cons_of_mem _ h))]
    have h0 := he e (List.mem_cons_self)
    by_cases c : e.2.1 = (a : Int)
    · rw [List.filter_cons, if_pos (by simpa using c), List.foldl_cons]
      congr 1
      unfold addAt
      rw [c, Int.toNat_natCast, List.getD_eq_getElem?_getD, List.getElem?_set_self hA]
      rfl
    · rw [List.filter_cons, if_neg (by simpa using c)]
      congr 1
      unfold addAt
      rw [List.getD_eq_getElem?_getD, List.getElem?_set_ne (by omega), ← List.getD_eq_getElem?_getD]

theorem evRound_nonneg {n : Nat} {r : List Int} (hr : ∀ a : Nat, a < n → 0 ≤ r.getD a 0 ∧ r.getD a 0 < n ∧ r.getD (r.getD a 0).toNat 0 = a) (i : Nat) (x : List Int) : ∀ e ∈ evRound n i r x (pairsL r n).length, 0 ≤ e.2.1 := by
  intro e he
  unfold evRound at he
  rw [List.mem_flatMap] at he
  obtain ⟨j, hj, he⟩ := he
  obtain ⟨a, ha, hlt, hp⟩ := pairsL_get r n j (by simpa using hj)
  rw [hp] at he
  unfold evPair at he
  obtain ⟨h1, _, _⟩ := hr a ha
  rcases List.mem_cons.1 he with rfl | he
  · show (0 : Int) ≤ (a : Int); omega
  · rw [List.mem_singleton] at he
    subst he
    exact h1

/-- The points of a team in round i, 0 where it is free. -/
def ownR (l : List Int) (ll : List (List Int)) (a i : Nat) : Int := if (rnd l i).getD a 0 = a then 0 else ownAt (rnd l i) (ll.getD i []) a

section
variable {n k : Nat} {l : List Int} {ll : List (List Int)}

theorem rnd_inv (hb : schedB n k l = true) {i : Nat} (hi : i < k) : ∀ a : Nat, a < n → 0 ≤ (rnd l i).getD a 0 ∧ (rnd l i).getD a 0 < n ∧ (rnd l i).getD ((rnd l i).getD a 0).toNat 0 = a := fun a ha => (roundB_at ((schedB_at hb).2.2 i hi) (by omega)).2

theorem pts_succ (hb : schedB n k l = true) {m a : Nat} (hm : m < k) (ha : a < n) : (sumsF n (fun _ o => o) (meets n l ll (m + 1))).getD a 0 = IntKind.i64.wrap (ownR l ll a m + (sumsF n (fun _ o => o) (meets n l ll m)).getD a 0) := by
  have hr := rnd_inv hb hm
  have e : sumsF n (fun _ o => o) (meets n l ll (m + 1)) = (evRound n m (rnd l m) (ll.getD m []) (pairsL (rnd l m) n).length).foldl (fun l e => addAt l e.2.1 e.2.2.2) (sumsF n (fun _ o => o) (meets n l ll m)) := by
    rw [meets_succ]; unfold sumsF; rw [List.foldl_append]
  rw [e, sums_filter (fun _ o => o) a _ _ (by rw [sumsF_length]; exact ha) (evRound_nonneg hr m _), evRound_filter hr m _ ha]
  unfold ownR
  by_cases c : (rnd l m).getD a 0 = (a : Int)
  · rw [if_pos c, if_pos c, Int.zero_add, List.foldl_nil, w64 (sumsF_range _ _ _ _)]
  · rw [if_neg c, if_neg c, List.foldl_cons, List.foldl_nil, Int.add_comm]

theorem byRd_succ (hb : schedB n k l = true) {m a R : Nat} (hm : m < k) (ha : a < n) : byRd a R (meets n l ll (m + 1)) = if (rnd l m).getD a 0 = a then byRd a R (meets n l ll m) else (byRd a R (meets n l ll m)).set (m + 1) (ownAt (rnd l m) (ll.getD m []) a) := by
  have hr := rnd_inv hb hm
  have e : byRd a R (meets n l ll (m + 1)) = (evRound n m (rnd l m) (ll.getD m []) (pairsL (rnd l m) n).length).foldl (fun l e => if e.2.1 = (a : Int) then l.set (e.1 + 1) e.2.2.2 else l) (byRd a R (meets n l ll m)) := by
    rw [meets_succ]; unfold byRd; rw [List.foldl_append]
  have g : ∀ (es : List Ev) (A : List Int), es.foldl (fun l e => if e.2.1 = (a : Int) then l.set (e.1 + 1) e.2.2.2 else l) A = (es.filter (fun e => decide (e.2.1 = (a : Int)))).foldl (fun l e => l.set (e.1 + 1) e.2.2.2) A := by
    intro es
    induction es with
    | nil => intro A; rfl
    | cons e es ih =>
      intro A
      rw [List.foldl_cons, List.filter_cons]
      by_cases c : e.2.1 = (a : Int)
      · rw [if_pos c, if_pos (by simpa using c), List.foldl_cons, ih]
      · rw [if_neg c, if_neg (by simpa using c), ih]
  rw [e, g, evRound_filter hr m _ ha]
  by_cases c : (rnd l m).getD a 0 = (a : Int)
  · rw [if_pos c, if_pos c]; rfl
  · rw [if_neg c, if_neg c]; rfl

theorem byRd_get (hb : schedB n k l = true) {a R : Nat} (ha : a < n) : ∀ m, m ≤ k → m ≤ R → ∀ j, j < R + 1 → (byRd a R (meets n l ll m)).getD j 0 = if 0 < j ∧ j ≤ m then ownR l ll a (j - 1) else 0
  | 0, _, _, j, hj => by
    rw [if_neg (by omega), meets_zero, byRd_nil]
    simp [List.getD_eq_getElem?_getD, List.getElem?_replicate, hj]
  | m + 1, hm, hR, j, hj => by
    have ih := byRd_get hb ha m (by omega) (by omega) j hj
    have hlen := byRd_length (a : Int) R (meets n l ll m)
    rw [byRd_succ hb (by omega) ha]
    by_cases c : (rnd l m).getD a 0 = (a : Int)
    · rw [if_pos c, ih]
      by_cases c2 : j = m + 1
      · subst c2
        rw [if_neg (by omega), if_pos (by omega)]
        unfold ownR
        rw [Nat.add_sub_cancel, if_pos c]
      · by_cases c3 : 0 < j ∧ j ≤ m
        · rw [if_pos c3, if_pos (by omega)]
        · rw [if_neg c3, if_neg (by omega)]
    · rw [if_neg c]
      by_cases c2 : j = m + 1
      · subst c2
        rw [if_pos (by omega), List.getD_eq_getElem?_getD, List.getElem?_set_self (by omega)]
        unfold ownR
        rw [Nat.add_sub_cancel, if_neg c]
        rfl
      · rw [List.getD_eq_getElem?_getD, List.getElem?_set_ne (by omega), ← List.getD_eq_getElem?_getD, ih]
        by_cases c3 : 0 < j ∧ j ≤ m
        · rw [if_pos c3, if_pos (by omega)]
        · rw [if_neg c3, if_neg (by omega)]

theorem pref_get (hb : schedB n k l = true) {a R : Nat} (ha : a < n) (hR : R ≤ k) : ∀ i, i ≤ R → ∀ j, j < R + 1 → (pref i (byRd a R (meets n l ll R))).getD j 0 = if j ≤ i then (sumsF n (fun _ o => o) (meets n l ll j)).getD a 0 else (byRd a R (meets n l ll R)).getD j 0
  | 0, _, j, hj => by
    show (byRd a R (meets n l ll R)).getD j 0 = _
    by_cases c : j ≤ 0
    · obtain rfl : j = 0 := by omega
      rw [if_pos (Nat.le_refl _), byRd_get hb ha R hR (Nat.le_refl _) 0 hj, if_neg (by omega), meets_zero, sumsF_nil]
      simp [List.getD_eq_getElem?_getD, List.getElem?_replicate, ha]
    · rw [if_neg c]
  | i + 1, hi, j, hj => by
    have ih := pref_get hb ha hR i (by omega)
    have hlen : (pref i (byRd a R (meets n l ll R))).length = R + 1 := by rw [pref_length, byRd_length]
    show ((pref i (byRd a R (meets n l ll R))).set (i + 1) _).getD j 0 = _
    by_cases c : j = i + 1
    · subst c
      rw [List.getD_eq_getElem?_getD, List.getElem?_set_self (by omega), if_pos (Nat.le_refl _), ih (i + 1) hj, if_neg (by omega), ih i (by omega), if_pos (Nat.le_refl _), byRd_get hb ha R hR (Nat.le_refl _) (i + 1) hj, if_pos (by omega), Nat.add_sub_cancel, pts_succ hb (by omega) ha]
      rfl
    · rw [List.getD_eq_getElem?_getD, List.getElem?_set_ne (by omega), ← List.getD_eq_getElem?_getD, ih j hj]
      by_cases c2 : j ≤ i
      · rw [if_pos c2, if_pos (by omega)]
      · rw [if_neg c2, if_neg (by omega)]

/-- What the program adds up is what the reference tells. -/
theorem pref_all (hb : schedB n k l = true) {a R : Nat} (ha : a < n) (hR : R ≤ k) : pref R (byRd a R (meets n l ll R)) = ptsBy n l ll a (R + 1) := by
  apply List.ext_getElem?
  intro j
  by_cases hj : j < R + 1
  · have h1 := pref_get (ll := ll) hb ha hR R (Nat.le_refl _) j hj
    rw [if_pos (by omega)] at h1
    have e1 : j < (pref R (byRd a R (meets n l ll R))).length := by rw [pref_length, byRd_length]; exact hj
    rw [List.getD_eq_getElem?_getD, List.getElem?_eq_getElem e1] at h1
    rw [List.getElem?_eq_getElem e1]
    unfold ptsBy
    rw [List.getElem?_map, List.getElem?_range hj]
    simpa using h1
  · rw [List.getElem?_eq_none (by rw [pref_length, byRd_length]; omega), List.getElem?_eq_none (by rw [ptsBy_length]; omega)]
end
end Go.Abs
end

section
set_option linter.unusedSimpArgs false
set_option linter.unusedVariables false
set_option maxRecDepth 100000
set_option maxHeartbeats 2000000
namespace Go.Proofs.Ytgkmdfjjlghecaa.A
open Go Go.Abs Go.RowKit

def byR (q : Int) (k : Nat) (l : List Int) (ll : List (List Int)) (a : Int) : List Int := if schedB q k l = true ∧ (resB q.toNat k l ll && decide (0 ≤ a ∧ a ≤ q - 1)) = true then ptsBy q.toNat l ll a.toNat (ll.length + 1) else []
theorem byR_length (q : Int) (k : Nat) (l : List Int) (ll : List (List Int)) (a : Int) : (byR q k l ll a).length ≤ 41 := by
  unfold byR
  split
  · rename_i h
    obtain ⟨_, h2, _⟩ := schedB_at h.1
    have h3 := h.2
    rw [Bool.and_eq_true] at h3
    obtain ⟨h4, _⟩ := resB_at h3.1
    rw [ptsBy_length]; omega
  · simp

end Go.Proofs.Ytgkmdfjjlghecaa.A
end

section
set_option linter.unusedSimpArgs false
set_option linter.unusedVariables false
namespace Go.Abs

/-- All orders of the numbers that begin with a list that wants so many more. -/
def ordN (nums : List Int) : Nat → List Int → List (List Int)
  | 0, y => [y]
  | f + 1, y => nums.flatMap fun x => if y.contains x = true then [] else ordN nums f (y ++ [x])
/-- Those whose next number is one of the first c. -/
def ordP (nums : List Int) (f : Nat) (y : List Int) (c : Nat) : List (List Int) := (nums.take c).flatMap fun x => if y.contains x = true then [] else ordN nums f (y ++ [x])
theorem ordP_zero (nums : List Int) (f : Nat) (y : List Int) : ordP nums f y 0 = [] := rfl
theorem ordP_all (nums : List Int) (f : Nat) (y : List Int) : ordP nums f y nums.length = ordN nums (f + 1) y := by
  unfold ordP; rw [List.take_length]; rfl
theorem ordP_succ (nums : List Int) (f : Nat) (y : List Int) (c : Nat) (hc : c < nums.length) : ordP nums f y (c + 1) = ordP nums f y c ++ (if y.contains (nums.getD c 0) = true then [] else ordN nums f (y ++ [nums.getD c 0])) := by
  unfold ordP
  rw [List.take_add_one, List.getElem?_eq_getElem hc, List.flatMap_append, List.getD_eq_getElem?_getD, List.getElem?_eq_getElem hc]
  simp
/-- The first of them are a beginning of all of them. -/
theorem ordP_pre (nums : List Int) (f : Nat) (y : List Int) (c : Nat) (hc : c < nums.length) : ∃ L, ordN nums (f + 1) y = ordP nums f y (c + 1) ++ L := by
  refine ⟨(nums.drop (c + 1)).flatMap fun x => if y.contains x = true then [] else ordN nums f (y ++ [x]), ?_⟩
  have h : ordN nums (f + 1) y = nums.flatMap fun x => if y.contains x = true then [] else ordN nums f (y ++ [x]) := rfl
  rw [h]
  unfold ordP
  rw [← List.flatMap_append, List.take_append_drop]
theorem any_contains (y : List Int) (x : Int) : ((List.range y.length).any fun i => y.getD i 0 == x) = y.contains x := by
  rw [Bool.eq_iff_iff, List.any_eq_true, List.contains_iff_mem]
  constructor
  · rintro ⟨i, hi, h⟩
    have hi' : i < y.length := by simpa using hi
    rw [List.getD_eq_getElem?_getD, List.getElem?_eq_getElem hi'] at h
    have : y[i] = x := by simpa using h
    rw [← this]; exact List.getElem_mem _
  · intro h
    obtain ⟨i, hi, rfl⟩ := List.mem_iff_getElem.1 h
    exact ⟨i, by simpa using hi, by simp [hi]⟩
/-- Numbers from a on. -/
theorem seq_len_le (nums : List Int) (f : Nat) (y : List Int) : (ordN nums f y).length ≤ nums.length ^ f := by
  induction f generalizing y with
  | zero => simp [ordN]
  | succ f ih =>
    unfold ordN
    have : ∀ l : List Int, (l.flatMap fun x => if y.contains x = true then [] else ordN nums f (y ++ [x])).length ≤ l.length * nums.length ^ f := by
      intro l
      induction l with
      | nil => simp
      | cons x l ihl =>
        rw [List.flatMap_cons, List.length_append, List.length_cons, Nat.succ_mul]
        have h1 : (if y.contains x = true then [] else ordN nums f (y ++ [x])).length ≤ nums.length ^ f := by
          split
          · simp
          · exact ih _
        omega
    have h := this nums
    rw [Nat.pow_succ, Nat.mul_comm]; exact h
end Go.Abs
end

section
set_option linter.unusedSimpArgs false
set_option linter.unusedVariables false
namespace Go.Abs
open Go Go.RowKit

theorem Fr2.setF {ty ty' lo hi : Nat} {H : AH} {v : Value} {ll : List (List Int)} (h : Fr2 1 ty ty' lo hi H v ll) {j : Nat} (hj : j < ll.length) (hne : 0 < (ll.getD j []).length) :
    ∃ i vs i6, v = .slice (some ⟨i, 0, some 1⟩) ll.length ll.length ∧ lo ≤ i ∧ i < hi ∧ H.row i = some ⟨ty, true, vs⟩ ∧ vs[j]? = some (.slice (some ⟨i6, 0, some 1⟩) (ll.getD j []).length (ll.getD j []).length) ∧ lo ≤ i6 ∧ i6 < hi ∧ ¬ i = i6 ∧ H.row i6 = some ⟨ty', true, ints (ll.getD j [])⟩ ∧
      ∀ l' : List Int, l'.length = (ll.getD j []).length → Fr2 1 ty ty' lo hi (H.setCells i6 (ints l')) v (ll.set j l') := by
  rcases h with ⟨rfl, _⟩ | ⟨i, vs, b, h1, h2, rfl, hr, hl, g0, gn, gi, gm, hh⟩
  · simp at hj
  · obtain ⟨x, m, hx, hf⟩ := hh j hj
    have hm := hf.lenK1
    have m1 := mono_of_step gm (Nat.zero_le j)
    have m2 := mono_of_step gm (show j + 1 ≤ ll.length from hj)
    obtain ⟨i6, k1, k2, rfl, k3⟩ := hf.get (by omega)
    rw [hm] at hx
    refine ⟨i, vs, i6, rfl, h1, h2, hr, hx, by omega, by omega, by omega, k3, fun l' hl' => ?_⟩
    refine .inr ⟨i, vs, b, h1, h2, by rw [List.length_set], by rw [AH.setCells_row, if_neg (by omega)]; exact hr, by rw [List.length_set]; exact hl, g0, by rw [List.length_set]; exact gn, by rw [List.length_set]; exact gi, gm, fun j' hj' => ?_⟩
    rw [List.length_set] at hj'
    by_cases e : j' = j
    · subst e
      refine ⟨_, (ll.getD j' []).length, hx, ?_⟩
      have e1 : (ll.set j' l').getD j' [] = l' := by rw [List.getD_eq_getElem?_getD, List.getElem?_set_self hj]; rfl
      rw [e1]
      exact ⟨by omega, .inr ⟨i6, k1, k2, rfl, by rw [AH.setCells_row, if_pos rfl, k3]; rfl⟩⟩
    · obtain ⟨x', m', hx', hf'⟩ := hh j' hj'
      have e1 : (ll.set j l').getD j' [] = ll.getD j' [] := by rw [List.getD_eq_getElem?_getD, List.getElem?_set_ne (by omega), ← List.getD_eq_getElem?_getD]
      refine ⟨x', m', hx', ?_⟩
      rw [e1]
      refine hf'.same fun z z1 z2 => ?_
      rw [AH.setCells_row, if_neg]
      rcases Nat.lt_or_gt_of_ne e with hlt | hgt
      · have := mono_of_step gm (show j' + 1 ≤ j from hlt); omega
      · have := mono_of_step gm (show j + 1 ≤ j' from hgt); omega

theorem Sc.set {H : AH} (h : Sc H) (i : Nat) (cs : List Value) : Sc (H.setCells i cs) := by
  intro j x hx
  rw [AH.setCells_row] at hx
  rw [AH.setCells_next]
  split at hx
  · rename_i e
    subst e
    cases hr : H.row j with
    | none => rw [hr] at hx; cases hx
    | some r => exact h j r hr
  · exact h j x hx
end Go.Abs
end

section
set_option linter.unusedSimpArgs false
set_option linter.unusedVariables false
set_option maxRecDepth 100000
set_option maxHeartbeats 2000000
namespace Go.Proofs.Ytgkmdfjjlghecaa.A
open Go Go.Abs Go.RowKit

theorem indexI_c (v : Value) (y : List Int) (x : Int) (H : AH) (hv : Rd 1 H v y.length y) (hy : y.length ≤ 4294967296) :
    ACalls Try.prog 162 [v, .int .i64 x] H (is (.int .i64 (firstI (fun i => y.getD i 0 == x) y.length)) H) := by
  refine acalls_up rfl (acalls_of_awp [.tmp 4] Try.func162 (by kernel_rfl) rfl rfl (Nat.le_of_ble_eq_true rfl) (by kernel_rfl) ?_)
  try simp (disch := first | omega | (simp only [ints_length, List.length_replicate, List.length_set]; done) | (simp only [ints_length, List.length_replicate, List.length_set]; omega)) only [Sall,evalOp,init,binE,binI,unE,convE,okNil,builtE,gv,TD.isAgg,resV,↓reduceIte,Nat.reduceEqDiff,reduceCtorEq,Nat.reduceAdd,Nat.reduceMul,Nat.reduceLeDiff,quietOp,blindOp,Int.reduceEq,Int.reduceLT,Int.reduceLE,Nat.reduceLT,ti2,ti3,ti4,ti45,ti46,ti38,ti25,ti30,ti22,ti32,ti24,ti95,ti172,ti169,ti165,ti166,ti65,ti143,ti87, builtE, hv.len]
  refine awp_loop (fun m t H' => ∃ a : Nat, m = y.length - a ∧ a ≤ y.length ∧ t 8 = .int .i64 a ∧ t 7 = .int .i64 y.length ∧ t 0 = v ∧ t 1 = .int .i64 x ∧ H' = H ∧ (∀ i, i < a → (y.getD i 0 == x) = false)) y.length ?_ ?_
  · refine ⟨0, by omega, by omega, ?_⟩
    try simp (disch := first | omega | (simp only [ints_length, List.length_replicate, List.length_set]; done) | (simp only [ints_length, List.length_replicate, List.length_set]; omega)) only [Sall,evalOp,init,binE,binI,unE,convE,okNil,builtE,gv,TD.isAgg,resV,↓reduceIte,Nat.reduceEqDiff,reduceCtorEq,Nat.reduceAdd,Nat.reduceMul,Nat.reduceLeDiff,quietOp,blindOp,Int.reduceEq,Int.reduceLT,Int.reduceLE,Nat.reduceLT,ti2,ti3,ti4,ti45,ti46,ti38,ti25,ti30,ti22,ti32,ti24,ti95,ti172,ti169,ti165,ti166,ti65,ti143,ti87, Int.natCast_zero, Nat.not_lt_zero, false_implies]
  · rintro m t H' ⟨a, hm, han, h8, h7, h0, h1, rfl, hall⟩
    try simp (disch := first | omega | (simp only [ints_length, List.length_replicate, List.length_set]; done) | (simp only [ints_length, List.length_replicate, List.length_set]; omega)) only [Sall,evalOp,init,binE,binI,unE,convE,okNil,builtE,gv,TD.isAgg,resV,↓reduceIte,Nat.reduceEqDiff,reduceCtorEq,Nat.reduceAdd,Nat.reduceMul,Nat.reduceLeDiff,quietOp,blindOp,Int.reduceEq,Int.reduceLT,Int.reduceLE,Nat.reduceLT,ti2,ti3,ti4,ti45,ti46,ti38,ti25,ti30,ti22,ti32,ti24,ti95,ti172,ti169,ti165,ti166,ti65,ti143,ti87, h8, h7]
    refine condC_dec (fun h => ?_) (fun h => ?_)
    · obtain ⟨i, o, u, c, r, rfl, hr, hc, hs, _⟩ := hv.get (by omega)
      have g1 := hs a (by omega)
      by_cases hx : y.getD a 0 = x
      · have e1 : (x == y.getD a 0) = true := by rw [hx]; exact beq_self_eq_true _
        try simp (disch := first | omega | (simp only [ints_length, List.length_replicate, List.length_set]; done) | (simp only [ints_length, List.length_replicate, List.length_set]; omega)) only [Sall,evalOp,init,binE,binI,unE,convE,okNil,builtE,gv,TD.isAgg,resV,↓reduceIte,Nat.reduceEqDiff,reduceCtorEq,Nat.reduceAdd,Nat.reduceMul,Nat.reduceLeDiff,quietOp,blindOp,Int.reduceEq,Int.reduceLT,Int.reduceLE,Nat.reduceLT,ti2,ti3,ti4,ti45,ti46,ti38,ti25,ti30,ti22,ti32,ti24,ti95,ti172,ti169,ti165,ti166,ti65,ti143,ti87, h8, h0, h1, hr, g1, e1]
        (repeat refine And.intro (by omega) ?_)
        rw [firstI_at (by omega) (by rw [hx]; exact beq_self_eq_true _) hall]
        exact ⟨rfl, Up.refl _ _⟩
      · have e1 : (x == y.getD a 0) = false := beq_eq_false_iff_ne.2 (Ne.symm hx)
        try simp (disch := first | omega | (simp only [ints_length, List.length_replicate, List.length_set]; done) | (simp only [ints_length, List.length_replicate, List.length_set]; omega)) only [Sall,evalOp,init,binE,binI,unE,convE,okNil,builtE,gv,TD.isAgg,resV,↓reduceIte,Nat.reduceEqDiff,reduceCtorEq,Nat.reduceAdd,Nat.reduceMul,Nat.reduceLeDiff,quietOp,blindOp,Int.reduceEq,Int.reduceLT,Int.reduceLE,Nat.reduceLT,ti2,ti3,ti4,ti45,ti46,ti38,ti25,ti30,ti22,ti32,ti24,ti95,ti172,ti169,ti165,ti166,ti65,ti143,ti87, h8, h7, h0, h1, hr, g1, e1, w64]
        (repeat refine And.intro (by omega) ?_)
        refine ⟨y.length - (a + 1), by omega, a + 1, rfl, by omega, rfl, fun i hi => ?_⟩
        by_cases e : i = a
        · rw [e]; exact beq_eq_false_iff_ne.2 hx
        · exact hall i (by omega)
    · try simp (disch := first | omega | (simp only [ints_length, List.length_replicate, List.length_set]; done) | (simp only [ints_length, List.length_replicate, List.length_set]; omega)) only [Sall,evalOp,init,binE,binI,unE,convE,okNil,builtE,gv,TD.isAgg,resV,↓reduceIte,Nat.reduceEqDiff,reduceCtorEq,Nat.reduceAdd,Nat.reduceMul,Nat.reduceLeDiff,quietOp,blindOp,Int.reduceEq,Int.reduceLT,Int.reduceLE,Nat.reduceLT,ti2,ti3,ti4,ti45,ti46,ti38,ti25,ti30,ti22,ti32,ti24,ti95,ti172,ti169,ti165,ti166,ti65,ti143,ti87, true_and]
      rw [firstI_none (fun i hi => hall i (by omega))]
      exact ⟨rfl, Up.refl _ _⟩

theorem containsI_c (v : Value) (y : List Int) (x : Int) (H : AH) (hv : Rd 1 H v y.length y) (hy : y.length ≤ 4294967296) :
    ACalls Try.prog 122 [v, .int .i64 x] H (is (.bool (y.contains x)) H) := by
  refine acalls_of_awp [.tmp 4] Try.func122 (by kernel_rfl) rfl rfl (Nat.le_of_ble_eq_true rfl) (by kernel_rfl) ?_
  try simp (disch := first | omega | (simp only [ints_length, List.length_replicate, List.length_set]; done) | (simp only [ints_length, List.length_replicate, List.length_set]; omega)) only [Sall,evalOp,init,binE,binI,unE,convE,okNil,builtE,gv,TD.isAgg,resV,↓reduceIte,Nat.reduceEqDiff,reduceCtorEq,Nat.reduceAdd,Nat.reduceMul,Nat.reduceLeDiff,quietOp,blindOp,Int.reduceEq,Int.reduceLT,Int.reduceLE,Nat.reduceLT,ti2,ti3,ti4,ti45,ti46,ti38,ti25,ti30,ti22,ti32,ti24,ti95,ti172,ti169,ti165,ti166,ti65,ti143,ti87, true_and]
  refine (indexI_c v y x H hv hy).to ?_
  try simp (disch := first | omega | (simp only [ints_length, List.length_replicate, List.length_set]; done) | (simp only [ints_length, List.length_replicate, List.length_set]; omega)) only [Sall,evalOp,init,binE,binI,unE,convE,okNil,builtE,gv,TD.isAgg,resV,↓reduceIte,Nat.reduceEqDiff,reduceCtorEq,Nat.reduceAdd,Nat.reduceMul,Nat.reduceLeDiff,quietOp,blindOp,Int.reduceEq,Int.reduceLT,Int.reduceLE,Nat.reduceLT,ti2,ti3,ti4,ti45,ti46,ti38,ti25,ti30,ti22,ti32,ti24,ti95,ti172,ti169,ti165,ti166,ti65,ti143,ti87, is, firstI_any]
  exact any_contains y x

/-- What is read where nothing is nil is appended to a new list. -/
theorem rd_seg {k n i o c : Nat} {u : Option Nat} {H : AH} {l : List Int} (h : Rd k H (.slice (some ⟨i, o, u⟩) n c) n l) (hn : 0 < n) : ∃ r, H.row i = some r ∧ o + n * k ≤ r.cells.length ∧ seg r.cells o (n * k) = ints l := by
  rcases h.2 with ⟨h0, _⟩ | ⟨i', o', u', c', r, e, hr, h3, h4⟩
  · omega
  · cases e; exact ⟨r, hr, h3, h4⟩

/-- A list that may be copied: nil, or with a row behind it. -/
def Cp (H : AH) (v : Value) (y : List Int) : Prop := Rd 1 H v y.length y ∧ (y.length = 0 → v = .slice none 0 0 ∨ ∃ i c r, v = .slice (some ⟨i, 0, some 1⟩) 0 c ∧ H.row i = some r ∧ r.rw = true)

theorem Cp.of_fr {ty lo hi : Nat} {H : AH} {v : Value} {y : List Int} (h : Fr 1 ty lo hi H v y.length y) : Cp H v y := by
  refine ⟨h.rd, fun h0 => ?_⟩
  rcases h.2 with ⟨_, rfl⟩ | ⟨i, h1, h2, rfl, hr⟩
  · exact .inl rfl
  · rw [h0]; exact .inr ⟨i, 0, _, rfl, hr, rfl⟩

theorem cloneI_c (v : Value) (y : List Int) (H : AH) (hv : Cp H v y) (hy : y.length ≤ 4194304) :
    ACalls Try.prog 188 [v] H (fun u H' => Up H.next H H' ∧ Fr 1 2 H.next H'.next H' u y.length y) := by
  refine ACalls.wf (by kernel_rfl) fun hs => acalls_of_awp [.tmp 2] Try.func188 (by kernel_rfl) rfl rfl (Nat.le_of_ble_eq_true rfl) (by kernel_rfl) ?_
  obtain ⟨hrd, hz⟩ := hv
  by_cases h0 : y.length = 0
  · have hy0 : y = [] := List.eq_nil_of_length_eq_zero h0
    subst hy0
    rcases hz h0 with rfl | ⟨i, c, r, rfl, hr, hw⟩
    · try simp (disch := first | omega | (simp only [ints_length, List.length_replicate, List.length_set]; done) | (simp only [ints_length, List.length_replicate, List.length_set]; omega)) only [Sall,evalOp,init,binE,binI,unE,convE,okNil,builtE,gv,TD.isAgg,resV,↓reduceIte,Nat.reduceEqDiff,reduceCtorEq,Nat.reduceAdd,Nat.reduceMul,Nat.reduceLeDiff,quietOp,blindOp,Int.reduceEq,Int.reduceLT,Int.reduceLE,Nat.reduceLT,ti2,ti3,ti4,ti45,ti46,ti38,ti25,ti30,ti22,ti32,ti24,ti95,ti172,ti169,ti165,ti166,ti65,ti143,ti87, binE, Option.isNone_none]
      exact ⟨Up.refl _ _, ⟨rfl, .inl ⟨rfl, rfl⟩⟩⟩
    · have hi := hs _ _ hr
      have ne : ¬ i = H.next := by omega
      have hok : Go.Abs.Row.ok r [] = True := eq_true (.inl hw)
      try simp (disch := first | omega | (simp only [ints_length, List.length_replicate, List.length_set]; done) | (simp only [ints_length, List.length_replicate, List.length_set]; omega)) only [Sall,evalOp,init,binE,binI,unE,convE,okNil,builtE,gv,TD.isAgg,resV,↓reduceIte,Nat.reduceEqDiff,reduceCtorEq,Nat.reduceAdd,Nat.reduceMul,Nat.reduceLeDiff,quietOp,blindOp,Int.reduceEq,Int.reduceLT,Int.reduceLE,Nat.reduceLT,ti2,ti3,ti4,ti45,ti46,ti38,ti25,ti30,ti22,ti32,ti24,ti95,ti172,ti169,ti165,ti166,ti65,ti143,ti87, binE, zeros_zero, slCells, hr, ne, hok, appE]
      (repeat refine And.intro (by omega) ?_)
      refine ⟨(Up.refl _ H).push (Nat.le_refl _) _, ⟨rfl, .inr ⟨H.next, Nat.le_refl _, Nat.lt_succ_self _, rfl, by rw [AH.push_row, if_pos rfl]; rfl⟩⟩⟩
  · obtain ⟨i, o, u, c, r, rfl, hr, hc, _, _⟩ := hrd.get (by omega)
    obtain ⟨r', hr', hc', hseg⟩ := rd_seg hrd (by omega)
    rw [hr] at hr'
    cases hr'
    rw [Nat.mul_one] at hseg hc
    have hi := hs _ _ hr
    have ne : ¬ i = H.next := by omega
    try simp (disch := first | omega | (simp only [ints_length, List.length_replicate, List.length_set]; done) | (simp only [ints_length, List.length_replicate, List.length_set]; omega)) only [Sall,evalOp,init,binE,binI,unE,convE,okNil,builtE,gv,TD.isAgg,resV,↓reduceIte,Nat.reduceEqDiff,reduceCtorEq,Nat.reduceAdd,Nat.reduceMul,Nat.reduceLeDiff,quietOp,blindOp,Int.reduceEq,Int.reduceLT,Int.reduceLE,Nat.reduceLT,ti2,ti3,ti4,ti45,ti46,ti38,ti25,ti30,ti22,ti32,ti24,ti95,ti172,ti169,ti165,ti166,ti65,ti143,ti87, binE, zeros_zero, slCells, hr, ne, hseg]
    (repeat refine And.intro (by omega) ?_)
    have h3 : Fr 1 2 H.next (H.next + 1) (H.push ⟨2, true, []⟩) (.slice (some ⟨H.next, 0, some 1⟩) 0 0) 0 [] := ⟨rfl, .inr ⟨H.next, Nat.le_refl _, Nat.lt_succ_self _, rfl, by rw [AH.push_row, if_pos rfl]; rfl⟩⟩
    refine appE_fr h3 rfl (by omega) (by omega) (by omega) (by decide) (by omega) (by rw [AH.push_next]; omega) ?_
    intro v' H4 k1 k2 k3
    rw [AH.push_next] at k1 k2 k3
    rw [Nat.zero_add, List.nil_append] at k3
    have k5 := k3.rd.one
    try simp (disch := first | omega | (simp only [ints_length, List.length_replicate, List.length_set]; done) | (simp only [ints_length, List.length_replicate, List.length_set]; omega)) only [Sall,evalOp,init,binE,binI,unE,convE,okNil,builtE,gv,TD.isAgg,resV,↓reduceIte,Nat.reduceEqDiff,reduceCtorEq,Nat.reduceAdd,Nat.reduceMul,Nat.reduceLeDiff,quietOp,blindOp,Int.reduceEq,Int.reduceLT,Int.reduceLE,Nat.reduceLT,ti2,ti3,ti4,ti45,ti46,ti38,ti25,ti30,ti22,ti32,ti24,ti95,ti172,ti169,ti165,ti166,ti65,ti143,ti87, true_and]
    exact ⟨⟨by omega, fun i hi => by rw [k2 i (by omega) (by omega), AH.push_row, if_neg (by omega)]⟩, k3.wide (by omega) (by omega)⟩

theorem l01Own_c (v : Value) (y : List Int) (H : AH) (hv : Cp H v y) (hy : y.length ≤ 4194304) :
    ACalls Try.prog 196 [v] H (fun u H' => Up H.next H H' ∧ Fr 1 2 H.next H'.next H' u y.length y) := by
  refine ACalls.wf (by kernel_rfl) fun hs => acalls_of_awp [.tmp 2] Try.func196 (by kernel_rfl) rfl rfl (Nat.le_of_ble_eq_true rfl) (by kernel_rfl) ?_
  obtain ⟨hrd, hz⟩ := hv
  by_cases h0 : y.length = 0
  · have hy0 : y = [] := List.eq_nil_of_length_eq_zero h0
    subst hy0
    rcases hz h0 with rfl | ⟨i, c, r, rfl, hr, hw⟩
    · try simp (disch := first | omega | (simp only [ints_length, List.length_replicate, List.length_set]; done) | (simp only [ints_length, List.length_replicate, List.length_set]; omega)) only [Sall,evalOp,init,binE,binI,unE,convE,okNil,builtE,gv,TD.isAgg,resV,↓reduceIte,Nat.reduceEqDiff,reduceCtorEq,Nat.reduceAdd,Nat.reduceMul,Nat.reduceLeDiff,quietOp,blindOp,Int.reduceEq,Int.reduceLT,Int.reduceLE,Nat.reduceLT,ti2,ti3,ti4,ti45,ti46,ti38,ti25,ti30,ti22,ti32,ti24,ti95,ti172,ti169,ti165,ti166,ti65,ti143,ti87, zeros_zero, slCells, appE]
      refine ⟨(Up.refl _ H).push (Nat.le_refl _) _, ⟨rfl, .inr ⟨H.next, Nat.le_refl _, Nat.lt_succ_self _, rfl, by rw [AH.push_row, if_pos rfl]; rfl⟩⟩⟩
    · have hi := hs _ _ hr
      have ne : ¬ i = H.next := by omega
      have hok : Go.Abs.Row.ok r [] = True := eq_true (.inl hw)
      try simp (disch := first | omega | (simp only [ints_length, List.length_replicate, List.length_set]; done) | (simp only [ints_length, List.length_replicate, List.length_set]; omega)) only [Sall,evalOp,init,binE,binI,unE,convE,okNil,builtE,gv,TD.isAgg,resV,↓reduceIte,Nat.reduceEqDiff,reduceCtorEq,Nat.reduceAdd,Nat.reduceMul,Nat.reduceLeDiff,quietOp,blindOp,Int.reduceEq,Int.reduceLT,Int.reduceLE,Nat.reduceLT,ti2,ti3,ti4,ti45,ti46,ti38,ti25,ti30,ti22,ti32,ti24,ti95,ti172,ti169,ti165,ti166,ti65,ti143,ti87, zeros_zero, slCells, hr, ne, hok, appE]
      (repeat refine And.intro (by omega) ?_)
      refine ⟨(Up.refl _ H).push (Nat.le_refl _) _, ⟨rfl, .inr ⟨H.next, Nat.le_refl _, Nat.lt_succ_self _, rfl, by rw [AH.push_row, if_pos rfl]; rfl⟩⟩⟩
  · obtain ⟨i, o, u, c, r, rfl, hr, hc, _, _⟩ := hrd.get (by omega)
    obtain ⟨r', hr', hc', hseg⟩ := rd_seg hrd (by omega)
    rw [hr] at hr'
    cases hr'
    rw [Nat.mul_one] at hseg hc
    have hi := hs _ _ hr
    have ne : ¬ i = H.next := by omega
    try simp (disch := first | omega | (simp only [ints_length, List.length_replicate, List.length_set]; done) | (simp only [ints_length, List.length_replicate, List.length_set]; omega)) only [Sall,evalOp,init,binE,binI,unE,convE,okNil,builtE,gv,TD.isAgg,resV,↓reduceIte,Nat.reduceEqDiff,reduceCtorEq,Nat.reduceAdd,Nat.reduceMul,Nat.reduceLeDiff,quietOp,blindOp,Int.reduceEq,Int.reduceLT,Int.reduceLE,Nat.reduceLT,ti2,ti3,ti4,ti45,ti46,ti38,ti25,ti30,ti22,ti32,ti24,ti95,ti172,ti169,ti165,ti166,ti65,ti143,ti87, zeros_zero, slCells, hr, ne, hseg]
    (repeat refine And.intro (by omega) ?_)
    have h3 : Fr 1 2 H.next (H.next + 1) (H.push ⟨2, true, []⟩) (.slice (some ⟨H.next, 0, some 1⟩) 0 0) 0 [] := ⟨rfl, .inr ⟨H.next, Nat.le_refl _, Nat.lt_succ_self _, rfl, by rw [AH.push_row, if_pos rfl]; rfl⟩⟩
    refine appE_fr h3 rfl (by omega) (by omega) (by omega) (by decide) (by omega) (by rw [AH.push_next]; omega) ?_
    intro v' H4 k1 k2 k3
    rw [AH.push_next] at k1 k2 k3
    rw [Nat.zero_add, List.nil_append] at k3
    have k5 := k3.rd.one
    try simp (disch := first | omega | (simp only [ints_length, List.length_replicate, List.length_set]; done) | (simp only [ints_length, List.length_replicate, List.length_set]; omega)) only [Sall,evalOp,init,binE,binI,unE,convE,okNil,builtE,gv,TD.isAgg,resV,↓reduceIte,Nat.reduceEqDiff,reduceCtorEq,Nat.reduceAdd,Nat.reduceMul,Nat.reduceLeDiff,quietOp,blindOp,Int.reduceEq,Int.reduceLT,Int.reduceLE,Nat.reduceLT,ti2,ti3,ti4,ti45,ti46,ti38,ti25,ti30,ti22,ti32,ti24,ti95,ti172,ti169,ti165,ti166,ti65,ti143,ti87, true_and]
    exact ⟨⟨by omega, fun i hi => by rw [k2 i (by omega) (by omega), AH.push_row, if_neg (by omega)]⟩, k3.wide (by omega) (by omega)⟩

theorem seqL_succ (a : Int) (m : Nat) : seqL a (m + 1) = seqL a m ++ [a + m] := by simp [seqL, List.range_succ]

theorem numbersFrom_c (a b : Int) (m : Nat) (ha : 0 ≤ a ∧ a ≤ 1024) (hm : m ≤ 1024) (hb : b = a + m - 1) (H : AH) :
    ACalls Try.prog 143 [.int .i64 a, .int .i64 b] H (fun u H' => Up H.next H H' ∧ Fr 1 2 H.next H'.next H' u m (seqL a m)) := by
  refine acalls_of_awp [.tmp 4] Try.func143 (by kernel_rfl) rfl rfl (Nat.le_of_ble_eq_true rfl) (by kernel_rfl) ?_
  try simp (disch := first | omega | (simp only [ints_length, List.length_replicate, List.length_set]; done) | (simp only [ints_length, List.length_replicate, List.length_set]; omega)) only [Sall,evalOp,init,binE,binI,unE,convE,okNil,builtE,gv,TD.isAgg,resV,↓reduceIte,Nat.reduceEqDiff,reduceCtorEq,Nat.reduceAdd,Nat.reduceMul,Nat.reduceLeDiff,quietOp,blindOp,Int.reduceEq,Int.reduceLT,Int.reduceLE,Nat.reduceLT,ti2,ti3,ti4,ti45,ti46,ti38,ti25,ti30,ti22,ti32,ti24,ti95,ti172,ti169,ti165,ti166,ti65,ti143,ti87, zeros_zero]
  refine awp_loop (fun z t H' => ∃ (c : Nat) (u : Value) (lo hi : Nat), z = m - c ∧ c ≤ m ∧ t 6 = .int .i64 (a + c) ∧ t 5 = u ∧ t 1 = .int .i64 b ∧ Up H.next H H' ∧ H.next ≤ lo ∧ lo ≤ hi ∧ hi ≤ H'.next ∧ Fr 1 2 lo hi H' u c (seqL a c)) m ?_ ?_
  · refine ⟨0, .slice (some ⟨H.next, 0, some 1⟩) 0 0, H.next, H.next + 1, by omega, by omega, ?_⟩
    try simp (disch := first | omega | (simp only [ints_length, List.length_replicate, List.length_set]; done) | (simp only [ints_length, List.length_replicate, List.length_set]; omega)) only [Sall,evalOp,init,binE,binI,unE,convE,okNil,builtE,gv,TD.isAgg,resV,↓reduceIte,Nat.reduceEqDiff,reduceCtorEq,Nat.reduceAdd,Nat.reduceMul,Nat.reduceLeDiff,quietOp,blindOp,Int.reduceEq,Int.reduceLT,Int.reduceLE,Nat.reduceLT,ti2,ti3,ti4,ti45,ti46,ti38,ti25,ti30,ti22,ti32,ti24,ti95,ti172,ti169,ti165,ti166,ti65,ti143,ti87, Int.natCast_zero, Int.add_zero]
    refine ⟨(Up.refl _ H).push (Nat.le_refl _) _, ?_⟩
    (repeat refine And.intro (by omega) ?_)
    exact ⟨rfl, .inr ⟨H.next, Nat.le_refl _, Nat.lt_succ_self _, rfl, by rw [AH.push_row, if_pos rfl]; rfl⟩⟩
  · rintro z t H' ⟨c, u, lo, hi, hz, hcm, h6, h5, h1, hup, hlo, hlh, hhi, hfr⟩
    try simp (disch := first | omega | (simp only [ints_length, List.length_replicate, List.length_set]; done) | (simp only [ints_length, List.length_replicate, List.length_set]; omega)) only [Sall,evalOp,init,binE,binI,unE,convE,okNil,builtE,gv,TD.isAgg,resV,↓reduceIte,Nat.reduceEqDiff,reduceCtorEq,Nat.reduceAdd,Nat.reduceMul,Nat.reduceLeDiff,quietOp,blindOp,Int.reduceEq,Int.reduceLT,Int.reduceLE,Nat.reduceLT,ti2,ti3,ti4,ti45,ti46,ti38,ti25,ti30,ti22,ti32,ti24,ti95,ti172,ti169,ti165,ti166,ti65,ti143,ti87, h6, h1]
    refine condC_dec (fun h => ?_) (fun h => ?_)
    · have zz : zeros 1 [.int .i64 0] = [.int .i64 0] := rfl
      have hup1 := hup.next
      try simp (disch := first | omega | (simp only [ints_length, List.length_replicate, List.length_set]; done) | (simp only [ints_length, List.length_replicate, List.length_set]; omega)) only [Sall,evalOp,init,binE,binI,unE,convE,okNil,builtE,gv,TD.isAgg,resV,↓reduceIte,Nat.reduceEqDiff,reduceCtorEq,Nat.reduceAdd,Nat.reduceMul,Nat.reduceLeDiff,quietOp,blindOp,Int.reduceEq,Int.reduceLT,Int.reduceLE,Nat.reduceLT,ti2,ti3,ti4,ti45,ti46,ti38,ti25,ti30,ti22,ti32,ti24,ti95,ti172,ti169,ti165,ti166,ti65,ti143,ti87, h6, h5, zz, slCells]
      obtain ⟨H2, e2⟩ : ∃ H2, H2 = H'.push ⟨2, true, [.int .i64 (a + c)]⟩ := ⟨_, rfl⟩
      have n2 : H2.next = H'.next + 1 := by rw [e2]; rfl
      have s2 : ∀ i, i < H'.next → H2.row i = H'.row i := fun i hi => by rw [e2, AH.push_row, if_neg (by omega)]
      rw [← e2]
      clear e2
      refine appE_fr (k := 1) (lo := lo) (hi := hi) (l := seqL a c) (m := [a + (c : Int)]) (hfr.same fun i _ hi => s2 i (by omega)) rfl (by omega) rfl (by omega) (by decide) (by omega) (by omega) ?_
      intro v' H3 n3 s3 f3
      try simp (disch := first | omega | (simp only [ints_length, List.length_replicate, List.length_set]; done) | (simp only [ints_length, List.length_replicate, List.length_set]; omega)) only [Sall,evalOp,init,binE,binI,unE,convE,okNil,builtE,gv,TD.isAgg,resV,↓reduceIte,Nat.reduceEqDiff,reduceCtorEq,Nat.reduceAdd,Nat.reduceMul,Nat.reduceLeDiff,quietOp,blindOp,Int.reduceEq,Int.reduceLT,Int.reduceLE,Nat.reduceLT,ti2,ti3,ti4,ti45,ti46,ti38,ti25,ti30,ti22,ti32,ti24,ti95,ti172,ti169,ti165,ti166,ti65,ti143,ti87, h6, h1, w64]
      refine ⟨m - (c + 1), by omega, c + 1, v', H2.next, H2.next + 1, rfl, by omega, by omega, rfl, ⟨by omega, fun i hi => ?_⟩, by omega, by omega, by omega, ?_⟩
      · rw [s3 i (by omega) (by omega), s2 i (by omega), hup.row i hi]
      · rw [seqL_succ]; exact f3
    · try simp (disch := first | omega | (simp only [ints_length, List.length_replicate, List.length_set]; done) | (simp only [ints_length, List.length_replicate, List.length_set]; omega)) only [Sall,evalOp,init,binE,binI,unE,convE,okNil,builtE,gv,TD.isAgg,resV,↓reduceIte,Nat.reduceEqDiff,reduceCtorEq,Nat.reduceAdd,Nat.reduceMul,Nat.reduceLeDiff,quietOp,blindOp,Int.reduceEq,Int.reduceLT,Int.reduceLE,Nat.reduceLT,ti2,ti3,ti4,ti45,ti46,ti38,ti25,ti30,ti22,ti32,ti24,ti95,ti172,ti169,ti165,ti166,ti65,ti143,ti87, h5]
      have hc : c = m := by omega
      subst hc
      exact ⟨hup, hfr.wide hlo hhi⟩

/-! ### All orders -/
/-- A list that stays readable as long as the rows from b0 on stay. -/
def Per (b0 : Nat) (H : AH) (v : Value) (y : List Int) : Prop := ∀ H', (∀ i, b0 ≤ i → i < H.next → H'.row i = H.row i) → Cp H' v y
theorem Per.nil (b0 : Nat) (H : AH) : Per b0 H (.slice none 0 0) [] := fun H' _ => ⟨⟨rfl, .inl ⟨rfl, none, 0, rfl, fun _ => rfl⟩⟩, fun _ => .inl rfl⟩
theorem Per.fr {b0 ty lo hi : Nat} {H : AH} {v : Value} {y : List Int} (h : Fr 1 ty lo hi H v y.length y) (hb : b0 ≤ lo) (hn : hi ≤ H.next) : Per b0 H v y := by
  intro H' hr
  refine Cp.of_fr (ty := ty) (lo := lo) (hi := hi) ⟨h.1, ?_⟩
  rcases h.2 with h2 | ⟨i, h1, h2, hv, hri⟩
  · exact .inl h2
  · exact .inr ⟨i, h1, h2, hv, by rw [hr i (by omega) (by omega)]; exact hri⟩

/-- How a walk through all orders ends. -/
def OrdR (b0 : Nat) (cont : List Int → Bool) (S : List (List Int) → AH → Prop) (es L : List (List Int)) (H : AH) (r : Value) (H' : AH) : Prop :=
  H.next ≤ H'.next ∧ (∀ i, b0 ≤ i → i < H.next → H'.row i = H.row i) ∧
  ((r = .bool true ∧ (∀ z ∈ L, cont z = true) ∧ S (es ++ L) H') ∨ (r = .bool false ∧ ∃ L1 z L2, L = L1 ++ z :: L2 ∧ (∀ w ∈ L1, cont w = true) ∧ cont z = false ∧ S (es ++ L1 ++ [z]) H'))

theorem orders_c (g : FuncId) (cap : List Value) (cont : List Int → Bool) (ok : List Int → Prop) (S : List (List Int) → AH → Prop) (b0 : Nat) (nv : Value) (nums : List Int) (B : AH) (hnv : Rd 1 B nv nums.length nums) (hnl : nums.length ≤ 64)
    (hSr : ∀ es H', S es H' → ∀ i r, B.row i = some r → H'.row i = some r)
    (hSt : ∀ es H1 H2, S es H1 → H1.next ≤ H2.next → (∀ i, i < H1.next → H2.row i = H1.row i) → S es H2)
    (hok : ∀ y x, ok y → x ∈ nums → y.contains x = false → ok (y ++ [x]))
    (hstep : ∀ es y v H1, S es H1 → (∀ z ∈ es, cont z = true) → b0 ≤ H1.next → y.length = nums.length → ok y → Cp H1 v y →
      ACalls Try.prog g (v :: cap) H1 (fun r H2 => r = .bool (cont y) ∧ S (es ++ [y]) H2 ∧ H1.next ≤ H2.next ∧ ∀ i, b0 ≤ i → i < H1.next → H2.row i = H1.row i)) :
    ∀ (fuel : Nat) (y : List Int) (es : List (List Int)) (v : Value) (H : AH), fuel + y.length = nums.length → S es H → (∀ z ∈ es, cont z = true) → b0 ≤ H.next → Per b0 H v y → ok y →
      ACalls Try.prog 142 [v, nv, .func (.func g) #[] cap.toArray] H (OrdR b0 cont S es (ordN nums fuel y) H) := by
  intro fuel
  induction fuel with
  | zero =>
    intro y es v H hlen hS hall hb hp hy
    refine acalls_of_awp [.tmp 6] Try.func142 (by kernel_rfl) rfl rfl (Nat.le_of_ble_eq_true rfl) (by kernel_rfl) ?_
    have hcp := hp H (fun i _ _ => rfl)
    have hn := hnv.same (hSr _ _ hS)
    have e1 : ((y.length : Int) == (nums.length : Int)) = true := by rw [show y.length = nums.length by omega]; exact beq_self_eq_true _
    try simp (disch := first | omega | (simp only [ints_length, List.length_replicate, List.length_set]; done) | (simp only [ints_length, List.length_replicate, List.length_set]; omega)) only [Sall,evalOp,init,binE,binI,unE,convE,okNil,builtE,gv,TD.isAgg,resV,↓reduceIte,Nat.reduceEqDiff,reduceCtorEq,Nat.reduceAdd,Nat.reduceMul,Nat.reduceLeDiff,quietOp,blindOp,Int.reduceEq,Int.reduceLT,Int.reduceLE,Nat.reduceLT,ti2,ti3,ti4,ti45,ti46,ti38,ti25,ti30,ti22,ti32,ti24,ti95,ti172,ti169,ti165,ti166,ti65,ti143,ti87, builtE, hcp.1.len, hn.len, e1]
    refine (hstep es y v H hS hall hb (by omega) hy hcp).fin ?_
    rintro H2 ⟨hS2, hn2, hr2⟩
    try simp (disch := first | omega | (simp only [ints_length, List.length_replicate, List.length_set]; done) | (simp only [ints_length, List.length_replicate, List.length_set]; omega)) only [Sall,evalOp,init,binE,binI,unE,convE,okNil,builtE,gv,TD.isAgg,resV,↓reduceIte,Nat.reduceEqDiff,reduceCtorEq,Nat.reduceAdd,Nat.reduceMul,Nat.reduceLeDiff,quietOp,blindOp,Int.reduceEq,Int.reduceLT,Int.reduceLE,Nat.reduceLT,ti2,ti3,ti4,ti45,ti46,ti38,ti25,ti30,ti22,ti32,ti24,ti95,ti172,ti169,ti165,ti166,ti65,ti143,ti87, true_and]
    refine ⟨hn2, hr2, ?_⟩
    cases hc : cont y with
    | true => exact .inl ⟨rfl, fun z hz => by simp only [ordN, List.mem_singleton] at hz; rw [hz, hc], hS2⟩
    | false => exact .inr ⟨rfl, [], y, [], rfl, by simp, hc, by simpa using hS2⟩
  | succ f ih =>
    intro y es v H hlen hS hall hb hp hy
    refine ACalls.wf (by kernel_rfl) fun hs => acalls_of_awp [.tmp 6] Try.func142 (by kernel_rfl) rfl rfl (Nat.le_of_ble_eq_true rfl) (by kernel_rfl) ?_
    have hcp := hp H (fun i _ _ => rfl)
    have hn := hnv.same (hSr _ _ hS)
    have e1 : ((y.length : Int) == (nums.length : Int)) = false := by rw [beq_eq_false_iff_ne]; omega
    try simp (disch := first | omega | (simp only [ints_length, List.length_replicate, List.length_set]; done) | (simp only [ints_length, List.length_replicate, List.length_set]; omega)) only [Sall,evalOp,init,binE,binI,unE,convE,okNil,builtE,gv,TD.isAgg,resV,↓reduceIte,Nat.reduceEqDiff,reduceCtorEq,Nat.reduceAdd,Nat.reduceMul,Nat.reduceLeDiff,quietOp,blindOp,Int.reduceEq,Int.reduceLT,Int.reduceLE,Nat.reduceLT,ti2,ti3,ti4,ti45,ti46,ti38,ti25,ti30,ti22,ti32,ti24,ti95,ti172,ti169,ti165,ti166,ti65,ti143,ti87, builtE, hcp.1.len, hn.len, e1]
    refine awp_loop (fun m t H' => ∃ c : Nat, m = nums.length - c ∧ c ≤ nums.length ∧ t 19 = .int .i64 c ∧ t 18 = .int .i64 nums.length ∧ t 17 = nv ∧ t 0 = v ∧ t 1 = nv ∧ t 2 = .func (.func g) #[] cap.toArray ∧ H.next ≤ H'.next ∧ (∀ i, b0 ≤ i → i < H.next → H'.row i = H.row i) ∧ (∀ z ∈ ordP nums f y c, cont z = true) ∧ S (es ++ ordP nums f y c) H') nums.length ?_ ?_
    · refine ⟨0, by omega, by omega, ?_⟩
      try simp (disch := first | omega | (simp only [ints_length, List.length_replicate, List.length_set]; done) | (simp only [ints_length, List.length_replicate, List.length_set]; omega)) only [Sall,evalOp,init,binE,binI,unE,convE,okNil,builtE,gv,TD.isAgg,resV,↓reduceIte,Nat.reduceEqDiff,reduceCtorEq,Nat.reduceAdd,Nat.reduceMul,Nat.reduceLeDiff,quietOp,blindOp,Int.reduceEq,Int.reduceLT,Int.reduceLE,Nat.reduceLT,ti2,ti3,ti4,ti45,ti46,ti38,ti25,ti30,ti22,ti32,ti24,ti95,ti172,ti169,ti165,ti166,ti65,ti143,ti87, Int.natCast_zero, ordP_zero, List.append_nil]
      exact ⟨by simp, hS⟩
    · rintro m t H' ⟨c, hm, hcn, h19, h18, h17, h0, h1, h2, hnx, hrows, hpc, hS'⟩
      try simp (disch := first | omega | (simp only [ints_length, List.length_replicate, List.length_set]; done) | (simp only [ints_length, List.length_replicate, List.length_set]; omega)) only [Sall,evalOp,init,binE,binI,unE,convE,okNil,builtE,gv,TD.isAgg,resV,↓reduceIte,Nat.reduceEqDiff,reduceCtorEq,Nat.reduceAdd,Nat.reduceMul,Nat.reduceLeDiff,quietOp,blindOp,Int.reduceEq,Int.reduceLT,Int.reduceLE,Nat.reduceLT,ti2,ti3,ti4,ti45,ti46,ti38,ti25,ti30,ti22,ti32,ti24,ti95,ti172,ti169,ti165,ti166,ti65,ti143,ti87, h19, h18]
      refine condC_dec (fun h => ?_) (fun h => ?_)
      · have hn' := hnv.same (hSr _ _ hS')
        have hcp' := hp H' hrows
        obtain ⟨i, o, u, cc, r, rfl, hr, hc', hg, _⟩ := hn'.get (by omega)
        have g1 := hg c (by omega)
        have hpre := ordP_pre nums f y c (by omega)
        have hsucc := ordP_succ nums f y c (by omega)
        have hxm : nums.getD c 0 ∈ nums := by rw [List.getD_eq_getElem?_getD, List.getElem?_eq_getElem (by omega)]; exact List.getElem_mem _
        revert g1 hsucc hxm
        generalize nums.getD c 0 = x
        intro g1 hsucc hxm
        try simp (disch := first | omega | (simp only [ints_length, List.length_replicate, List.length_set]; done) | (simp only [ints_length, List.length_replicate, List.length_set]; omega)) only [Sall,evalOp,init,binE,binI,unE,convE,okNil,builtE,gv,TD.isAgg,resV,↓reduceIte,Nat.reduceEqDiff,reduceCtorEq,Nat.reduceAdd,Nat.reduceMul,Nat.reduceLeDiff,quietOp,blindOp,Int.reduceEq,Int.reduceLT,Int.reduceLE,Nat.reduceLT,ti2,ti3,ti4,ti45,ti46,ti38,ti25,ti30,ti22,ti32,ti24,ti95,ti172,ti169,ti165,ti166,ti65,ti143,ti87, h19, h17, h0, hr, g1]
        (repeat refine And.intro (by omega) ?_)
        refine (containsI_c v y x H' hcp'.1 (by omega)).to ?_
        cases hct : y.contains x with
        | true =>
          rw [hct, if_pos rfl, List.append_nil] at hsucc
          try simp (disch := first | omega | (simp only [ints_length, List.length_replicate, List.length_set]; done) | (simp only [ints_length, List.length_replicate, List.length_set]; omega)) only [Sall,evalOp,init,binE,binI,unE,convE,okNil,builtE,gv,TD.isAgg,resV,↓reduceIte,Nat.reduceEqDiff,reduceCtorEq,Nat.reduceAdd,Nat.reduceMul,Nat.reduceLeDiff,quietOp,blindOp,Int.reduceEq,Int.reduceLT,Int.reduceLE,Nat.reduceLT,ti2,ti3,ti4,ti45,ti46,ti38,ti25,ti30,ti22,ti32,ti24,ti95,ti172,ti169,ti165,ti166,ti65,ti143,ti87, Bool.not_true, h19, h18, h17, h0, h1, h2, w64]
          refine ⟨nums.length - (c + 1), by omega, c + 1, rfl, by omega, rfl, hnx, hrows, ?_⟩
          rw [hsucc]; exact ⟨hpc, hS'⟩
        | false =>
          rw [hct, if_neg (by simp)] at hsucc
          have zz : zeros 1 [.int .i64 0] = [.int .i64 0] := rfl
          try simp (disch := first | omega | (simp only [ints_length, List.length_replicate, List.length_set]; done) | (simp only [ints_length, List.length_replicate, List.length_set]; omega)) only [Sall,evalOp,init,binE,binI,unE,convE,okNil,builtE,gv,TD.isAgg,resV,↓reduceIte,Nat.reduceEqDiff,reduceCtorEq,Nat.reduceAdd,Nat.reduceMul,Nat.reduceLeDiff,quietOp,blindOp,Int.reduceEq,Int.reduceLT,Int.reduceLE,Nat.reduceLT,ti2,ti3,ti4,ti45,ti46,ti38,ti25,ti30,ti22,ti32,ti24,ti95,ti172,ti169,ti165,ti166,ti65,ti143,ti87, Bool.not_false, h19, h18, h17, h0, h1, h2]
          refine (cloneI_c v y H' hcp' (by omega)).mono ?_
          rintro w H2 ⟨up2, hf⟩
          have n2 := up2.next
          refine Holds.mp ?_
          try simp (disch := first | omega | (simp only [ints_length, List.length_replicate, List.length_set]; done) | (simp only [ints_length, List.length_replicate, List.length_set]; omega)) only [Sall,evalOp,init,binE,binI,unE,convE,okNil,builtE,gv,TD.isAgg,resV,↓reduceIte,Nat.reduceEqDiff,reduceCtorEq,Nat.reduceAdd,Nat.reduceMul,Nat.reduceLeDiff,quietOp,blindOp,Int.reduceEq,Int.reduceLT,Int.reduceLE,Nat.reduceLT,ti2,ti3,ti4,ti45,ti46,ti38,ti25,ti30,ti22,ti32,ti24,ti95,ti172,ti169,ti165,ti166,ti65,ti143,ti87, h19, h18, h17, h0, h1, h2, zz, slCells]
          obtain ⟨H3, e3⟩ : ∃ H3, H3 = H2.push ⟨2, true, [.int .i64 x]⟩ := ⟨_, rfl⟩
          have n3 : H3.next = H2.next + 1 := by rw [e3]; rfl
          have s3 : ∀ i, i < H2.next → H3.row i = H2.row i := fun i hi => by rw [e3, AH.push_row, if_neg (by omega)]
          rw [← e3]
          clear e3
          refine appE_fr (k := 1) (lo := H'.next) (hi := H2.next) (l := y) (m := [x]) (hf.same fun i _ hi => s3 i (by omega)) rfl (by omega) rfl (by omega) (by decide) (by omega) (by omega) ?_
          intro v' H4 n4 s4 f4
          have old : ∀ i, i < H'.next → H4.row i = H'.row i := fun i hi => by rw [s4 i (by omega) (by omega), s3 i (by omega), up2.row i hi]
          have hl1 : (y ++ [x]).length = y.length + 1 := by simp
          rw [← hl1] at f4
          try simp (disch := first | omega | (simp only [ints_length, List.length_replicate, List.length_set]; done) | (simp only [ints_length, List.length_replicate, List.length_set]; omega)) only [Sall,evalOp,init,binE,binI,unE,convE,okNil,builtE,gv,TD.isAgg,resV,↓reduceIte,Nat.reduceEqDiff,reduceCtorEq,Nat.reduceAdd,Nat.reduceMul,Nat.reduceLeDiff,quietOp,blindOp,Int.reduceEq,Int.reduceLT,Int.reduceLE,Nat.reduceLT,ti2,ti3,ti4,ti45,ti46,ti38,ti25,ti30,ti22,ti32,ti24,ti95,ti172,ti169,ti165,ti166,ti65,ti143,ti87, h19, h18, h17, h0, h1, h2]
          refine (ih (y ++ [x]) (es ++ ordP nums f y c) v' H4 (by omega) (hSt _ _ _ hS' (by omega) old) (fun z hz => (List.mem_append.1 hz).elim (hall z) (hpc z)) (by omega) (Per.fr f4 (by omega) (by omega)) (hok y x hy hxm hct)).mono ?_
          rintro rr H5 ⟨n5, r5, hcase⟩
          have rows5 : ∀ i, b0 ≤ i → i < H.next → H5.row i = H.row i := fun i hb1 hr1 => by rw [r5 i hb1 (by omega), old i (by omega), hrows i hb1 hr1]
          refine Holds.mp ?_
          rcases hcase with ⟨rfl, q1, q2⟩ | ⟨rfl, L1, z, L2, q1, q2, q3, q4⟩ <;> rw [holds_def]
          · try simp (disch := first | omega | (simp only [ints_length, List.length_replicate, List.length_set]; done) | (simp only [ints_length, List.length_replicate, List.length_set]; omega)) only [Sall,evalOp,init,binE,binI,unE,convE,okNil,builtE,gv,TD.isAgg,resV,↓reduceIte,Nat.reduceEqDiff,reduceCtorEq,Nat.reduceAdd,Nat.reduceMul,Nat.reduceLeDiff,quietOp,blindOp,Int.reduceEq,Int.reduceLT,Int.reduceLE,Nat.reduceLT,ti2,ti3,ti4,ti45,ti46,ti38,ti25,ti30,ti22,ti32,ti24,ti95,ti172,ti169,ti165,ti166,ti65,ti143,ti87, Bool.not_true, h19, h18, h17, h0, h1, h2, w64]
            refine ⟨nums.length - (c + 1), by omega, c + 1, rfl, by omega, rfl, by omega, rows5, ?_⟩
            rw [hsucc]
            refine ⟨fun z hz => (List.mem_append.1 hz).elim (hpc z) (q1 z), ?_⟩
            rw [← List.append_assoc]; exact q2
          · try simp (disch := first | omega | (simp only [ints_length, List.length_replicate, List.length_set]; done) | (simp only [ints_length, List.length_replicate, List.length_set]; omega)) only [Sall,evalOp,init,binE,binI,unE,convE,okNil,builtE,gv,TD.isAgg,resV,↓reduceIte,Nat.reduceEqDiff,reduceCtorEq,Nat.reduceAdd,Nat.reduceMul,Nat.reduceLeDiff,quietOp,blindOp,Int.reduceEq,Int.reduceLT,Int.reduceLE,Nat.reduceLT,ti2,ti3,ti4,ti45,ti46,ti38,ti25,ti30,ti22,ti32,ti24,ti95,ti172,ti169,ti165,ti166,ti65,ti143,ti87, Bool.not_false]
            refine ⟨by omega, rows5, .inr ⟨rfl, ordP nums f y c ++ L1, z, ?_⟩⟩
            obtain ⟨L3, hL3⟩ := hpre
            refine ⟨L2 ++ L3, ?_, fun w hw => (List.mem_append.1 hw).elim (hpc w) (q2 w), q3, ?_⟩
            · rw [hL3, hsucc, q1]; simp
            · rw [← List.append_assoc]; exact q4
      · have hc : c = nums.length := by omega
        subst hc
        rw [ordP_all] at hpc hS'
        try simp (disch := first | omega | (simp only [ints_length, List.length_replicate, List.length_set]; done) | (simp only [ints_length, List.length_replicate, List.length_set]; omega)) only [Sall,evalOp,init,binE,binI,unE,convE,okNil,builtE,gv,TD.isAgg,resV,↓reduceIte,Nat.reduceEqDiff,reduceCtorEq,Nat.reduceAdd,Nat.reduceMul,Nat.reduceLeDiff,quietOp,blindOp,Int.reduceEq,Int.reduceLT,Int.reduceLE,Nat.reduceLT,ti2,ti3,ti4,ti45,ti46,ti38,ti25,ti30,ti22,ti32,ti24,ti95,ti172,ti169,ti165,ti166,ti65,ti143,ti87, true_and]
        exact ⟨hnx, hrows, .inl ⟨rfl, hpc, hS'⟩⟩
end Go.Proofs.Ytgkmdfjjlghecaa.A
end

section
set_option linter.unusedSimpArgs false
set_option linter.unusedVariables false
namespace Go.Abs

def sortedL (zs : List Int) : List Int := zs.mergeSort fun x y => decide (x ≤ y)
theorem sortedL_length (zs : List Int) : (sortedL zs).length = zs.length := by simp [sortedL]
theorem sortedL_perm (zs : List Int) : (sortedL zs).Perm zs := List.mergeSort_perm _ _
theorem sortedL_sorted (zs : List Int) : (sortedL zs).Pairwise (fun x y => x ≤ y) := by
  have h := List.pairwise_mergeSort (le := fun x y : Int => decide (x ≤ y)) (fun a b c h1 h2 => by simp at *; omega) (fun a b => by simp; omega) zs
  exact h.imp (by simp)

theorem sorted_unique : ∀ {a b : List Int}, a.Perm b → a.Pairwise (fun x y => x ≤ y) → b.Pairwise (fun x y => x ≤ y) → a = b
  | [], b, h, _, _ => by rw [List.nil_perm] at h; exact h.symm
  | x :: a, [], h, _, _ => by rw [List.perm_nil] at h; exact h
  | x :: a, y :: b, h, ha, hb => by
    have hxy : x = y := by
      have h1 : x ∈ y :: b := h.subset (List.mem_cons_self)
      have h2 : y ∈ x :: a := h.symm.subset (List.mem_cons_self)
      have ha' : ∀ z ∈ a, x ≤ z := fun z hz => List.rel_of_pairwise_cons ha hz
      have hb' : ∀ z ∈ b, y ≤ z := fun z hz => List.rel_of_pairwise_cons hb hz
      rcases List.mem_cons.1 h1 with e | e
      · exact e
      · rcases List.mem_cons.1 h2 with e2 | e2
        · exact e2.symm
        · have := ha' _ e2; have := hb' _ e; omega
    subst hxy
    rw [sorted_unique ((List.perm_cons x).1 h) ha.of_cons hb.of_cons]

theorem seqL_pair (a : Int) (n : Nat) : (seqL a n).Pairwise (fun x y => x < y) := by
  unfold seqL
  rw [List.pairwise_map]
  exact List.pairwise_lt_range.imp (by intro x y h; omega)
theorem seqL_sorted (a : Int) (n : Nat) : (seqL a n).Pairwise (fun x y => x ≤ y) := (seqL_pair a n).imp (by intro x y h; omega)
theorem seqL_nodup (a : Int) (n : Nat) : (seqL a n).Nodup := (seqL_pair a n).imp (by intro x y h; omega)
theorem mem_seqL_iff (a : Int) (n : Nat) (x : Int) : x ∈ seqL a n ↔ a ≤ x ∧ x < a + n := by
  unfold seqL
  rw [List.mem_map]
  constructor
  · rintro ⟨i, hi, rfl⟩
    have : i < n := by simpa using hi
    constructor <;> omega
  · rintro ⟨h1, h2⟩
    exact ⟨(x - a).toNat, by simp; omega, by omega⟩

theorem sortedL_eq {y z : List Int} (h : y.Perm z) (hz : z.Pairwise (fun x y => x ≤ y)) : sortedL y = z :=
  sorted_unique ((sortedL_perm y).trans h) (sortedL_sorted y) hz
theorem sortedL_seq (a : Int) (n : Nat) (y : List Int) : sortedL y = seqL a n ↔ y.Perm (seqL a n) :=
  ⟨fun h => h ▸ (sortedL_perm y).symm, fun h => sortedL_eq h (seqL_sorted a n)⟩

/-- As many different ones among others: all of them. -/
theorem perm_of_nodup {α : Type} [DecidableEq α] : ∀ (y z : List α), y.Nodup → (∀ x ∈ y, x ∈ z) → z.length ≤ y.length → y.Perm z
  | [], z, _, _, h => by
    have : z = [] := List.eq_nil_of_length_eq_zero (by simpa using h)
    rw [this]
  | a :: y, z, hn, hs, h => by
    have ha : a ∈ z := hs a (List.mem_cons_self)
    have hn' := List.nodup_cons.1 hn
    have hp := List.perm_cons_erase ha
    have hl := List.length_erase_of_mem ha
    have hz : 0 < z.length := List.length_pos_of_mem ha
    have ih := perm_of_nodup y (z.erase a) hn'.2 (fun x hx => (List.mem_erase_of_ne (by rintro rfl; exact hn'.1 hx)).2 (hs x (List.mem_cons_of_mem _ hx))) (by rw [hl]; simp at h; omega)
    exact (ih.cons a).trans hp.symm

def ordB (n : Nat) (y : List Int) : Bool := decide (y.length = n) && decide (sortedL y = seqL 0 n)
theorem ordB_iff (n : Nat) (y : List Int) : ordB n y = true ↔ y.length = n ∧ (∀ x ∈ y, 0 ≤ x ∧ x < n) ∧ y.Nodup := by
  unfold ordB
  rw [Bool.and_eq_true, decide_eq_true_iff, decide_eq_true_iff, sortedL_seq]
  constructor
  · rintro ⟨h1, h2⟩
    refine ⟨h1, fun x hx => ?_, (h2.nodup_iff).2 (seqL_nodup 0 n)⟩
    have := (mem_seqL_iff 0 n x).1 (h2.subset hx)
    omega
  · rintro ⟨h1, h2, h3⟩
    exact ⟨h1, perm_of_nodup y _ h3 (fun x hx => (mem_seqL_iff 0 n x).2 (by have := h2 x hx; omega)) (by rw [seqL_length]; omega)⟩

theorem take_snoc {α : Type} (y : List α) (d : α) (i : Nat) (hi : i < y.length) : y.take (i + 1) = y.take i ++ [y.getD i d] := by
  rw [List.take_add_one, List.getElem?_eq_getElem hi, List.getD_eq_getElem?_getD, List.getElem?_eq_getElem hi]
  rfl
theorem nodup_snoc {α : Type} [DecidableEq α] {y : List α} {x : α} : (y ++ [x]).Nodup ↔ y.Nodup ∧ x ∉ y := by
  rw [List.nodup_append]
  constructor
  · rintro ⟨h1, _, h2⟩
    exact ⟨h1, fun h => h2 x h x (by simp) rfl⟩
  · rintro ⟨h1, h2⟩
    refine ⟨h1, by simp, fun a ha b hb e => ?_⟩
    rw [List.mem_singleton] at hb
    subst hb; subst e; exact h2 ha
theorem nodup_take {α : Type} {y : List α} (h : y.Nodup) (i : Nat) : (y.take i).Nodup := h.sublist (List.take_sublist _ _)

/-- What is known of the numbers that have been looked at. -/
def goodTo (n : Nat) (y : List Int) (i : Nat) : Prop := (∀ x ∈ y.take i, 0 ≤ x ∧ x < n) ∧ (y.take i).Nodup
theorem goodTo_zero (n : Nat) (y : List Int) : goodTo n y 0 := ⟨by simp, by simp⟩
theorem goodTo_succ {n : Nat} {y : List Int} {i : Nat} (hi : i < y.length) (h : goodTo n y i) (h1 : 0 ≤ y.getD i 0 ∧ y.getD i 0 < n) (h2 : (y.take i).contains (y.getD i 0) = false) : goodTo n y (i + 1) := by
  unfold goodTo
  rw [take_snoc y 0 i hi]
  refine ⟨fun x hx => ?_, nodup_snoc.2 ⟨h.2, fun hm => ?_⟩⟩
  · rcases List.mem_append.1 hx with hx | hx
    · exact h.1 x hx
    · rw [List.mem_singleton] at hx; rw [hx]; exact h1
  · rw [List.contains_iff_mem.2 hm] at h2; cases h2
theorem goodTo_all {n : Nat} {y : List Int} (h : goodTo n y y.length) : ordB n y = decide (y.length = n) := by
  unfold goodTo at h
  rw [List.take_length] at h
  by_cases e : y.length = n
  · rw [decide_eq_true e, ordB_iff]; exact ⟨e, h.1, h.2⟩
  · unfold ordB; rw [decide_eq_false e]; rfl
theorem ordB_bad {n : Nat} {y : List Int} {i : Nat} (hi : i < y.length) (h : ¬ (0 ≤ y.getD i 0 ∧ y.getD i 0 < n) ∨ (y.take i).contains (y.getD i 0) = true) : ordB n y = false := by
  rw [Bool.eq_false_iff]
  intro ho
  obtain ⟨_, h1, h2⟩ := (ordB_iff n y).1 ho
  rcases h with h | h
  · exact h (h1 _ (by rw [List.getD_eq_getElem?_getD, List.getElem?_eq_getElem hi]; exact List.getElem_mem _))
  · have h3 := nodup_take h2 (i + 1)
    rw [take_snoc y 0 i hi] at h3
    exact (nodup_snoc.1 h3).2 (List.contains_iff_mem.1 h)
theorem ordB_sorted_bad {n : Nat} {y : List Int} {i : Nat} (hi : i < y.length) (h : (sortedL y).getD i 0 ≠ (i : Int)) : ordB n y = false := by
  rw [Bool.eq_false_iff]
  intro ho
  unfold ordB at ho
  rw [Bool.and_eq_true, decide_eq_true_iff, decide_eq_true_iff] at ho
  rw [ho.2, seqL_getD 0 n i (by omega)] at h
  omega
theorem ordB_sorted_all {n : Nat} {y : List Int} (h : ∀ i, i < y.length → (sortedL y).getD i 0 = (i : Int)) : ordB n y = decide (y.length = n) := by
  by_cases e : y.length = n
  · unfold ordB
    rw [decide_eq_true e, Bool.true_and, decide_eq_true_iff]
    apply List.ext_getElem?
    intro i
    by_cases hi : i < y.length
    · have h1 := h i hi
      have h2 := seqL_getD 0 n i (by omega)
      rw [List.getElem?_eq_getElem (by rw [sortedL_length]; exact hi), List.getElem?_eq_getElem (by rw [seqL_length]; omega)]
      rw [List.getD_eq_getElem?_getD, List.getElem?_eq_getElem (by rw [sortedL_length]; exact hi)] at h1
      rw [List.getD_eq_getElem?_getD, List.getElem?_eq_getElem (by rw [seqL_length]; omega)] at h2
      simp only [Option.getD_some] at h1 h2
      rw [h1, h2]
      congr 1; omega
    · rw [List.getElem?_eq_none (by rw [sortedL_length]; omega), List.getElem?_eq_none (by rw [seqL_length]; omega)]
  · unfold ordB; rw [decide_eq_false e]; rfl

/-- Which numbers have been marked. -/
def metL (n : Nat) (y : List Int) : List Bool := (List.range n).map fun (j : Nat) => y.contains (j : Int)
theorem metL_length (n : Nat) (y : List Int) : (metL n y).length = n := by simp [metL]
theorem metL_nil (n : Nat) : metL n [] = List.replicate n false := by
  unfold metL
  exact List.eq_replicate_iff.2 ⟨by simp, by intro b hb; obtain ⟨a, _, rfl⟩ := List.mem_map.1 hb; rfl⟩
theorem metL_getD (n : Nat) (y : List Int) (x : Int) (h : 0 ≤ x ∧ x < n) : (metL n y).getD x.toNat false = y.contains x := by
  unfold metL
  rw [List.getD_eq_getElem?_getD, List.getElem?_map, List.getElem?_range (by omega)]
  simp only [Option.map_some, Option.getD_some]
  rw [show ((x.toNat : Nat) : Int) = x by omega]
theorem contains_snoc (y : List Int) (x z : Int) : (y ++ [x]).contains z = (y.contains z || z == x) := by
  rw [Bool.eq_iff_iff, Bool.or_eq_true, List.contains_iff_mem, List.contains_iff_mem, List.mem_append, List.mem_singleton, beq_iff_eq]
theorem metL_set (n : Nat) (y : List Int) (x : Int) (h : 0 ≤ x ∧ x < n) : (metL n y).set x.toNat true = metL n (y ++ [x]) := by
  apply List.ext_getElem?
  intro j
  rw [List.getElem?_set, metL_length]
  unfold metL
  rw [List.getElem?_map, List.getElem?_map]
  by_cases hj : j < n
  · rw [List.getElem?_range hj]
    simp only [Option.map_some]
    rw [contains_snoc]
    by_cases e : x.toNat = j
    · rw [if_pos e, if_pos (by omega)]
      have : ((j : Int) == x) = true := by rw [beq_iff_eq]; omega
      rw [this, Bool.or_true]
    · rw [if_neg e]
      have : ((j : Int) == x) = false := by rw [beq_eq_false_iff_ne]; omega
      rw [this, Bool.or_false]
  · have e : ¬ x.toNat = j := by omega
    rw [if_neg e, List.getElem?_eq_none (by simpa using hj)]
    rfl

/-! ### Steps -/
def stpI (n : Nat) (a b : Int) : Int := (b - a) % (n : Int)
def stpL (n : Nat) (y : List Int) : List Int := (List.range (y.length - 1)).map fun i => stpI n (y.getD i 0) (y.getD (i + 1) 0)
theorem stpL_length (n : Nat) (y : List Int) : (stpL n y).length = y.length - 1 := by simp [stpL]
theorem stpI_range {n : Nat} (hn : 0 < n) (a b : Int) : 0 ≤ stpI n a b ∧ stpI n a b < n :=
  ⟨Int.emod_nonneg _ (by omega), Int.emod_lt_of_pos _ (by omega)⟩
theorem stpI_impl {n : Nat} {a b : Int} (ha : 0 ≤ a ∧ a < n) (hb : 0 ≤ b ∧ b < n) : Int.tmod (b - a + n) n = stpI n a b := by
  unfold stpI
  rw [Int.tmod_eq_emod_of_nonneg (by omega), Int.add_emod_right]
theorem stpI_spec {n : Nat} (hn : 0 < n) (a b : Int) : Int.tmod (Int.tmod (b - a) n + n) n = stpI n a b := by
  have h1 : -(n : Int) < Int.tmod (b - a) n := by
    have := Int.lt_tmod_of_pos (b - a) (show (0 : Int) < n by omega)
    omega
  unfold stpI
  rw [Int.tmod_eq_emod_of_nonneg (by omega), Int.add_emod_right, Int.tmod_eq_emod]
  split
  · simp
  · rw [Int.natAbs_natCast, Int.sub_emod, Int.emod_emod_of_dvd _ (Int.dvd_refl _), Int.emod_self, Int.sub_zero, Int.emod_emod_of_dvd _ (Int.dvd_refl _)]
theorem stpI_ne {n : Nat} {a b : Int} (ha : 0 ≤ a ∧ a < n) (hb : 0 ≤ b ∧ b < n) (h : a ≠ b) : stpI n a b ≠ 0 := by
  unfold stpI
  intro e
  obtain ⟨k, hk⟩ := Int.dvd_of_emod_eq_zero e
  have h1 : -(n : Int) < n * k := by omega
  have h2 : (n : Int) * k < n := by omega
  have hn : (0 : Int) < n := by omega
  have hk0 : k = 0 := by
    rcases Int.lt_trichotomy k 0 with h3 | h3 | h3
    · have : (n : Int) * k ≤ n * (-1) := Int.mul_le_mul_of_nonneg_left (by omega) (by omega)
      omega
    · exact h3
    · have : (n : Int) * 1 ≤ n * k := Int.mul_le_mul_of_nonneg_left (by omega) (by omega)
      omega
  rw [hk0] at hk
  omega
def stpB (n : Nat) (y : List Int) : Bool := decide (stpL n y).Nodup
/-- Numbers that are different, and none is 0. -/
def diffB (s : List Int) : Bool := !s.contains 0 && decide s.Nodup
theorem diffB_steps {n : Nat} {y : List Int} (h1 : ∀ x ∈ y, 0 ≤ x ∧ x < n) (h2 : y.Nodup) : diffB (stpL n y) = stpB n y := by
  unfold diffB stpB
  have : (stpL n y).contains 0 = false := by
    rw [Bool.eq_false_iff]
    intro h
    rw [List.contains_iff_mem] at h
    unfold stpL at h
    obtain ⟨i, hi, e⟩ := List.mem_map.1 h
    have hi' : i < y.length - 1 := by simpa using hi
    have hm : ∀ j, j < y.length → y.getD j 0 ∈ y := fun j hj => by rw [List.getD_eq_getElem?_getD, List.getElem?_eq_getElem hj]; exact List.getElem_mem _
    refine stpI_ne (h1 _ (hm i (by omega))) (h1 _ (hm (i + 1) (by omega))) (fun e2 => ?_) e
    rw [List.getD_eq_getElem?_getD, List.getD_eq_getElem?_getD, List.getElem?_eq_getElem (by omega), List.getElem?_eq_getElem (by omega)] at e2
    simp only [Option.getD_some] at e2
    have := (List.getElem_inj h2).1 e2
    omega
  rw [this]; rfl
theorem stpL_take (n : Nat) (y : List Int) (i : Nat) (hi : i + 1 < y.length) : (stpL n y).take (i + 1) = (stpL n y).take i ++ [stpI n (y.getD i 0) (y.getD (i + 1) 0)] := by
  rw [take_snoc _ 0 i (by rw [stpL_length]; omega)]
  congr 2
  unfold stpL
  rw [List.getD_eq_getElem?_getD, List.getElem?_map, List.getElem?_range (by omega)]
  rfl
theorem stpB_bad {n : Nat} {y : List Int} {i : Nat} (hi : i + 1 < y.length) (h : ((stpL n y).take i).contains (stpI n (y.getD i 0) (y.getD (i + 1) 0)) = true) : stpB n y = false := by
  unfold stpB
  rw [decide_eq_false_iff_not]
  intro hn
  have h3 := nodup_take hn (i + 1)
  rw [stpL_take n y i hi] at h3
  exact (nodup_snoc.1 h3).2 (List.contains_iff_mem.1 h)
theorem stpL_snoc (n : Nat) (y : List Int) (x : Int) (hy : 0 < y.length) : stpL n (y ++ [x]) = stpL n y ++ [stpI n (y.getD (y.length - 1) 0) x] := by
  have hl : (y ++ [x]).length - 1 = (y.length - 1) + 1 := by rw [List.length_append, List.length_singleton]; omega
  unfold stpL
  rw [hl, List.range_succ, List.map_append]
  congr 1
  · apply List.map_congr_left
    intro i hi
    have hi' : i < y.length - 1 := by simpa using hi
    rw [List.getD_eq_getElem?_getD, List.getD_eq_getElem?_getD, List.getElem?_append_left (by omega), List.getElem?_append_left (by omega)]
    rw [List.getD_eq_getElem?_getD, List.getD_eq_getElem?_getD]
  · rw [List.map_singleton]
    congr 2
    · rw [List.getD_eq_getElem?_getD, List.getD_eq_getElem?_getD, List.getElem?_append_left (by omega)]
    · rw [List.getD_eq_getElem?_getD, List.getElem?_append_right (by omega), show y.length - 1 + 1 - y.length = 0 by omega]
      rfl
theorem stpB_snoc {n : Nat} {y : List Int} {x : Int} (hy : 0 < y.length) (h : stpB n y = false) : stpB n (y ++ [x]) = false := by
  unfold stpB at *
  rw [decide_eq_false_iff_not] at *
  rw [stpL_snoc n y x hy]
  exact fun hn => h (nodup_snoc.1 hn).1
theorem stpB_none {n : Nat} {nums : List Int} : ∀ (f : Nat) {y : List Int}, 0 < y.length → stpB n y = false → (ordN nums f y).filter (stpB n) = []
  | 0, y, _, h => by simp [ordN, h]
  | f + 1, y, hy, h => by
    have e : ordN nums (f + 1) y = nums.flatMap fun x => if y.contains x = true then [] else ordN nums f (y ++ [x]) := rfl
    rw [e, List.filter_flatMap]
    rw [List.flatMap_eq_nil_iff]
    intro x _
    split
    · rfl
    · exact stpB_none f (by simp) (stpB_snoc hy h)
/-- How many orders have different steps. -/
def cntS (n f : Nat) (y : List Int) : Nat := ((ordN (seqL 0 n) f y).filter (stpB n)).length
/-- Of those whose next number is one of the first c. -/
def cntP (n f : Nat) (y : List Int) (c : Nat) : Nat := ((ordP (seqL 0 n) f y c).filter (stpB n)).length
theorem cntP_zero (n f : Nat) (y : List Int) : cntP n f y 0 = 0 := rfl
theorem cntP_all (n f : Nat) (y : List Int) : cntP n f y n = cntS n (f + 1) y := by
  have := ordP_all (seqL 0 n) f y
  rw [seqL_length] at this
  unfold cntP cntS
  rw [this]
theorem cntP_succ (n f : Nat) (y : List Int) (c : Nat) (hc : c < n) (hy : 0 < y.length) : cntP n f y (c + 1) = cntP n f y c + (if y.contains (c : Int) = false ∧ stpB n (y ++ [(c : Int)]) = true then cntS n f (y ++ [(c : Int)]) else 0) := by
  unfold cntP
  rw [ordP_succ _ _ _ _ (by rw [seqL_length]; exact hc), List.filter_append, List.length_append, seqL_getD 0 n c hc, Int.zero_add]
  congr 1
  cases h1 : y.contains (c : Int) with
  | true => simp
  | false =>
    cases h2 : stpB n (y ++ [(c : Int)]) with
    | true => rw [if_neg (by simp), if_pos ⟨rfl, rfl⟩]; rfl
    | false => rw [if_neg (by simp), if_neg (by simp), stpB_none f (by simp) h2]; rfl
theorem cntS_zero (n : Nat) (y : List Int) (h : stpB n y = true) : cntS n 0 y = 1 := by simp [cntS, ordN, h]
end Go.Abs
end

section
set_option linter.unusedSimpArgs false
set_option linter.unusedVariables false
namespace Go.Abs
open Go Go.RowKit

def bools (l : List Bool) : List Value := l.map .bool
theorem bools_length (l : List Bool) : (bools l).length = l.length := by simp [bools]
theorem bools_get? (l : List Bool) (i : Nat) (h : i < l.length) : (bools l)[i]? = some (.bool (l.getD i false)) := by simp [bools, h]
theorem bools_set (l : List Bool) (i : Nat) (x : Bool) : (bools l).set i (.bool x) = bools (l.set i x) := by simp [bools, List.map_set]
theorem zeros_bools (n : Nat) : zeros n [.bool false] = bools (List.replicate n false) := by
  unfold zeros bools
  induction n with
  | zero => rfl
  | succ n ih => rw [List.replicate_succ, List.flatten_cons, ih, List.replicate_succ]; rfl
theorem metL_get? (n : Nat) (y : List Int) (x : Int) (h : 0 ≤ x ∧ x < n) : (bools (metL n y))[x.toNat]? = some (.bool (y.contains x)) := by
  rw [bools_get? _ _ (by rw [metL_length]; omega), metL_getD n y x h]
theorem metL_put (n : Nat) (y : List Int) (x : Int) (h : 0 ≤ x ∧ x < n) : (bools (metL n y)).set x.toNat (.bool true) = bools (metL n (y ++ [x])) := by
  rw [bools_set, metL_set n y x h]
end Go.Abs
end
