/- Contracts: all rounds in order, each handed to a function. And what follows. -/
import Derived.Test.YtgkmdfjjlghecaaM2
section
set_option linter.unusedSimpArgs false
set_option linter.unusedVariables false
set_option maxRecDepth 100000
set_option maxHeartbeats 2000000
namespace Go.Proofs.Ytgkmdfjjlghecaa.A
open Go Go.Abs Go.RowKit

def mtM (M : List (List Int)) (a b : Nat) : Bool := decide (0 < (M.getD a []).getD b 0)

/-- What the search's callback keeps. -/
structure CallOk (n : Nat) (M : List (List Int)) (mv : Value) (g : FuncId) (caps : List Value) (b0 : Nat) {σ : Type} (Inv : σ → AH → Prop) (step : σ → List Int → Bool × σ) : Prop where
  n14 : n ≤ 14
  ml : M.length = n
  mr : ∀ a, a < n → (M.getD a []).length = n
  low : ∀ s H H', Inv s H → (∀ i, i < b0 → H'.row i = H.row i) → Inv s H'
  met : ∀ s H, Inv s H → Rd2 1 H mv M
  call : ∀ s r H, Inv s H → b0 ≤ H.next → Sc H → NowOk n r → ACalls Try.prog g (.agg (ints r).toArray :: caps) H (fun v H' => v = .bool (step s r).1 ∧ Inv (step s r).2 H' ∧ H.next ≤ H'.next ∧ Sc H' ∧ ∀ i, b0 ≤ i → i < H.next → H'.row i = H.row i)

theorem put_c {σ : Type} {n : Nat} {M : List (List Int)} {mv : Value} {g : FuncId} {caps : List Value} {b0 : Nat} {Inv : σ → AH → Prop} {step : σ → List Int → Bool × σ} (hC : CallOk n M mv g caps b0 Inv step)
    (nc ni wc mc pc : Nat) (hb : b0 ≤ nc ∧ b0 ≤ ni ∧ b0 ≤ wc ∧ b0 ≤ mc ∧ b0 ≤ pc) (hne : nc ≠ ni ∧ wc ≠ ni ∧ mc ≠ ni ∧ pc ≠ ni) (hone : mv.oneCell' = true) :
    ∀ (f : Nat) (now : List Int) (a : Nat) (s : σ) (H : AH), NowOk n now → a ≤ n → n - a < f → Inv s H → Sc H → H.row ni = some ⟨46, true, ints now⟩ → H.row nc = some ⟨2, true, [.int .i64 n]⟩ → H.row mc = some ⟨25, true, [mv]⟩ →
      H.row wc = some ⟨110, true, [.func (.func g) #[] caps.toArray]⟩ → H.row pc = some ⟨56, true, [.func (.func 170) #[] #[.pointer (some ⟨nc, 0, none⟩), .pointer (some ⟨ni, 0, none⟩), .pointer (some ⟨wc, 0, none⟩), .pointer (some ⟨mc, 0, none⟩), .pointer (some ⟨pc, 0, none⟩)]]⟩ →
      ACalls Try.prog 170 [.int .i64 a, .pointer (some ⟨nc, 0, none⟩), .pointer (some ⟨ni, 0, none⟩), .pointer (some ⟨wc, 0, none⟩), .pointer (some ⟨mc, 0, none⟩), .pointer (some ⟨pc, 0, none⟩)] H (fun v H' => v = .bool (foldE step (matF n (mtM M) f now a) s).1 ∧ Inv (foldE step (matF n (mtM M) f now a) s).2 H' ∧ H.next ≤ H'.next ∧ Sc H' ∧ (∀ i, b0 ≤ i → i < H.next → i ≠ ni → H'.row i = H.row i) ∧ ((foldE step (matF n (mtM M) f now a) s).1 = true → H'.row ni = H.row ni)) := by
  intro f
  induction f with
  | zero => intro now a s H _ _ h; omega
  | succ f ih =>
    intro now a s H hnow han hf hI hs hni hnc hmc hwc hpc
    obtain ⟨b1, b2, b3, b4, b5⟩ := hb
    obtain ⟨d1, d2, d3, d4⟩ := hne
    have hn14 := hC.n14
    refine acalls_of_awp [.tmp 7] Try.func170 (by kernel_rfl) rfl rfl (Nat.le_of_ble_eq_true rfl) (by kernel_rfl) ?_
    try simp (disch := first | omega | (simp only [ints_length, List.length_replicate, List.length_set]; done) | (simp only [ints_length, List.length_replicate, List.length_set]; omega)) only [Sall,evalOp,init,binE,binI,unE,convE,okNil,builtE,gv,TD.isAgg,resV,↓reduceIte,Nat.reduceEqDiff,reduceCtorEq,Nat.reduceAdd,Nat.reduceMul,Nat.reduceLeDiff,quietOp,blindOp,Int.reduceEq,Int.reduceLT,Int.reduceLE,Nat.reduceLT,ti2,ti3,ti4,ti45,ti46,ti38,ti25,ti30,ti22,ti32,ti24,ti95,ti172,ti169,ti165,ti166,ti65,ti143,ti87,ti110,ti56,ti101,ti5,ti159,ti62,ti161,ti51,ti57,ti9, true_and]
    refine awp_loop (fun z t H' => H' = H ∧ ∃ c : Nat, z = n - c ∧ c ≤ n ∧ t 0 = .int .i64 c ∧ fstF now (n - a) a = fstF now (n - c) c ∧ t 1 = .pointer (some ⟨nc, 0, none⟩) ∧ t 2 = .pointer (some ⟨ni, 0, none⟩) ∧ t 3 = .pointer (some ⟨wc, 0, none⟩) ∧ t 4 = .pointer (some ⟨mc, 0, none⟩) ∧ t 5 = .pointer (some ⟨pc, 0, none⟩)) (n - a) ?_ ?_
    · refine ⟨rfl, a, rfl, han, ?_⟩
      try simp (disch := first | omega | (simp only [ints_length, List.length_replicate, List.length_set]; done) | (simp only [ints_length, List.length_replicate, List.length_set]; omega)) only [Sall,evalOp,init,binE,binI,unE,convE,okNil,builtE,gv,TD.isAgg,resV,↓reduceIte,Nat.reduceEqDiff,reduceCtorEq,Nat.reduceAdd,Nat.reduceMul,Nat.reduceLeDiff,quietOp,blindOp,Int.reduceEq,Int.reduceLT,Int.reduceLE,Nat.reduceLT,ti2,ti3,ti4,ti45,ti46,ti38,ti25,ti30,ti22,ti32,ti24,ti95,ti172,ti169,ti165,ti166,ti65,ti143,ti87,ti110,ti56,ti101,ti5,ti159,ti62,ti161,ti51,ti57,ti9, true_and]
    · rintro z t H' ⟨rfl, c, hz, hcn, h0, hfst, h1, h2, h3, h4, h5⟩
      have hget := ints_get? now
      have hnl := hnow.1
      by_cases c1 : c < n
      · have c1' : decide ((c : Int) < (n : Int)) = true := decide_eq_true (by omega)
        by_cases c2 : now.getD c 0 = (c : Int)
        · have e2 : (now.getD c 0 != (c : Int)) = false := by rw [c2]; exact bne_self_eq_false _
          have hA : fstF now (n - a) a = c := hfst.trans (fstF_here c1 c2)
          try simp (disch := first | omega | (simp only [ints_length, List.length_replicate, List.length_set]; done) | (simp only [ints_length, List.length_replicate, List.length_set]; omega)) only [Sall,evalOp,init,binE,binI,unE,convE,okNil,builtE,gv,TD.isAgg,resV,↓reduceIte,Nat.reduceEqDiff,reduceCtorEq,Nat.reduceAdd,Nat.reduceMul,Nat.reduceLeDiff,quietOp,blindOp,Int.reduceEq,Int.reduceLT,Int.reduceLE,Nat.reduceLT,ti2,ti3,ti4,ti45,ti46,ti38,ti25,ti30,ti22,ti32,ti24,ti95,ti172,ti169,ti165,ti166,ti65,ti143,ti87,ti110,ti56,ti101,ti5,ti159,ti62,ti161,ti51,ti57,ti9, h0, h1, hnc, c1', h2, hni, hget, hnl, e2]
          (repeat refine And.intro (by omega) ?_)
          have e3 : ((c : Int) == (n : Int)) = false := beq_eq_false_iff_ne.2 (by omega)
          try simp (disch := first | omega | (simp only [ints_length, List.length_replicate, List.length_set]; done) | (simp only [ints_length, List.length_replicate, List.length_set]; omega)) only [Sall,evalOp,init,binE,binI,unE,convE,okNil,builtE,gv,TD.isAgg,resV,↓reduceIte,Nat.reduceEqDiff,reduceCtorEq,Nat.reduceAdd,Nat.reduceMul,Nat.reduceLeDiff,quietOp,blindOp,Int.reduceEq,Int.reduceLT,Int.reduceLE,Nat.reduceLT,ti2,ti3,ti4,ti45,ti46,ti38,ti25,ti30,ti22,ti32,ti24,ti95,ti172,ti169,ti165,ti166,ti65,ti143,ti87,ti110,ti56,ti101,ti5,ti159,ti62,ti161,ti51,ti57,ti9, h0, h1, hnc, e3, h2, hni, hget, hnl, e2, w64]
          -- the second loop
          have hac := (fstF_ge now (n - a) a).1
          rw [hA] at hac
          have hm : matF n (mtM M) (f + 1) now a = (List.range' (c + 1) (n - (c + 1))).flatMap fun b => matB (matF n (mtM M) f) (mtM M) now c b := by
            show (if _ then _ else _) = _
            rw [hA, if_neg (by omega)]
          rw [hm]
          obtain ⟨F, hF⟩ : ∃ F, F = fun b => matB (matF n (mtM M) f) (mtM M) now c b := ⟨_, rfl⟩
          rw [← hF]
          refine awp_loop (fun z t H2 => ∃ (b : Nat) (s' : σ), z = n - b ∧ c + 1 ≤ b ∧ b ≤ n ∧ t 8 = .int .i64 b ∧ t 0 = .int .i64 c ∧ t 1 = .pointer (some ⟨nc, 0, none⟩) ∧ t 2 = .pointer (some ⟨ni, 0, none⟩) ∧ t 3 = .pointer (some ⟨wc, 0, none⟩) ∧ t 4 = .pointer (some ⟨mc, 0, none⟩) ∧ t 5 = .pointer (some ⟨pc, 0, none⟩) ∧
            foldE step ((List.range' (c + 1) (n - (c + 1))).flatMap F) s = foldE step ((List.range' b (n - b)).flatMap F) s' ∧ Inv s' H2 ∧ H'.next ≤ H2.next ∧ Sc H2 ∧ (∀ i, b0 ≤ i → i < H'.next → i ≠ ni → H2.row i = H'.row i) ∧ H2.row ni = H'.row ni) (n - (c + 1)) ?_ ?_
          · refine ⟨c + 1, s, rfl, Nat.le_refl _, by omega, ?_⟩
            try simp (disch := first | omega | (simp only [ints_length, List.length_replicate, List.length_set]; done) | (simp only [ints_length, List.length_replicate, List.length_set]; omega)) only [Sall,evalOp,init,binE,binI,unE,convE,okNil,builtE,gv,TD.isAgg,resV,↓reduceIte,Nat.reduceEqDiff,reduceCtorEq,Nat.reduceAdd,Nat.reduceMul,Nat.reduceLeDiff,quietOp,blindOp,Int.reduceEq,Int.reduceLT,Int.reduceLE,Nat.reduceLT,ti2,ti3,ti4,ti45,ti46,ti38,ti25,ti30,ti22,ti32,ti24,ti95,ti172,ti169,ti165,ti166,ti65,ti143,ti87,ti110,ti56,ti101,ti5,ti159,ti62,ti161,ti51,ti57,ti9, h0, h1, h2, h3, h4, h5]
            exact ⟨rfl, hI, hs⟩
          · rintro z t H2 ⟨b, s', hz, hcb, hbn, h8, h0, h1, h2, h3, h4, h5, hEq, hI2, hn2, hs2, hfr, hni2⟩
            rw [hEq]
            have knc := hfr nc b1 (hs _ _ hnc) d1
            have kmc := hfr mc b4 (hs _ _ hmc) d3
            have kwc := hfr wc b3 (hs _ _ hwc) d2
            have kpc := hfr pc b5 (hs _ _ hpc) d4
            rw [hnc] at knc
            rw [hmc] at kmc
            rw [hwc] at kwc
            rw [hpc] at kpc
            rw [hni] at hni2
            by_cases c3 : b < n
            · have c3' : decide ((b : Int) < (n : Int)) = true := decide_eq_true (by omega)
              rw [show n - b = (n - (b + 1)) + 1 by omega, List.range'_succ, List.flatMap_cons, foldE_append]
              have hFb : F b = matB (matF n (mtM M) f) (mtM M) now c b := by rw [hF]
              by_cases c4 : now.getD b 0 = (b : Int)
              · have e4 : (now.getD b 0 != (b : Int)) = false := by rw [c4]; exact bne_self_eq_false _
                obtain ⟨mi, mo, mu, mcc, mr, mx, mm, rfl, mr1, mr2, mr3, mr4⟩ := (hC.met s' H2 hI2).get (j := c) (by rw [hC.ml]; omega)
                have hmm := mr3.lenK1
                rw [hC.mr c (by omega)] at hmm
                obtain ⟨qi, qo, qu, qc, qr, rfl, q1, q2, q3, q4⟩ := mr3.get (by omega)
                have hml := hC.ml
                have q3b := q3 b (by omega)
                have gmr : ((c : Int)).toNat = c := rfl
                by_cases c5 : 0 < (M.getD c []).getD b 0
                · have e5 : decide (0 < (M.getD c []).getD b 0) = true := decide_eq_true c5
                  have hF0 : F b = [] := by rw [hFb]; unfold matB; rw [if_pos (.inr e5)]
                  rw [hF0, show foldE step ([] : List (List Int)) s' = (true, s') from rfl, if_pos rfl]
                  try simp (disch := first | omega | (simp only [ints_length, List.length_replicate, List.length_set]; done) | (simp only [ints_length, List.length_replicate, List.length_set]; omega)) only [Sall,evalOp,init,binE,binI,unE,convE,okNil,builtE,gv,TD.isAgg,resV,↓reduceIte,Nat.reduceEqDiff,reduceCtorEq,Nat.reduceAdd,Nat.reduceMul,Nat.reduceLeDiff,quietOp,blindOp,Int.reduceEq,Int.reduceLT,Int.reduceLE,Nat.reduceLT,ti2,ti3,ti4,ti45,ti46,ti38,ti25,ti30,ti22,ti32,ti24,ti95,ti172,ti169,ti165,ti166,ti65,ti143,ti87,ti110,ti56,ti101,ti5,ti159,ti62,ti161,ti51,ti57,ti9, h8, h1, knc, c3', h2, hni2, hget, hnl, e4, h4, kmc, h0, mr1, mr2, mr4, q1, q3b, e5, hml]
                  (repeat refine And.intro (by omega) ?_)
                  try simp (disch := first | omega | (simp only [ints_length, List.length_replicate, List.length_set]; done) | (simp only [ints_length, List.length_replicate, List.length_set]; omega)) only [Sall,evalOp,init,binE,binI,unE,convE,okNil,builtE,gv,TD.isAgg,resV,↓reduceIte,Nat.reduceEqDiff,reduceCtorEq,Nat.reduceAdd,Nat.reduceMul,Nat.reduceLeDiff,quietOp,blindOp,Int.reduceEq,Int.reduceLT,Int.reduceLE,Nat.reduceLT,ti2,ti3,ti4,ti45,ti46,ti38,ti25,ti30,ti22,ti32,ti24,ti95,ti172,ti169,ti165,ti166,ti65,ti143,ti87,ti110,ti56,ti101,ti5,ti159,ti62,ti161,ti51,ti57,ti9, h8, h1, knc, c3', h2, h3, h5, hni2, hget, hnl, e4, h4, kmc, h0, mr1, mr2, mr4, q1, q3b, e5, hml, w64]
                  exact ⟨n - (b + 1), by omega, b + 1, s', rfl, by omega, by omega, rfl, rfl, hI2, hn2, hs2, hfr, hni.symm⟩
                · have e5 : decide (0 < (M.getD c []).getD b 0) = false := decide_eq_false c5
                  have hF0 : F b = matF n (mtM M) f (meetN now c b) (c + 1) := by
                    rw [hFb]; unfold matB
                    rw [if_neg (fun h => h.elim (fun h => h c4) (fun h => by unfold mtM at h; rw [e5] at h; cases h))]
                  rw [hF0]
                  try simp (disch := first | omega | (simp only [ints_length, List.length_replicate, List.length_set]; done) | (simp only [ints_length, List.length_replicate, List.length_set]; omega)) only [Sall,evalOp,init,binE,binI,unE,convE,okNil,builtE,gv,TD.isAgg,resV,↓reduceIte,Nat.reduceEqDiff,reduceCtorEq,Nat.reduceAdd,Nat.reduceMul,Nat.reduceLeDiff,quietOp,blindOp,Int.reduceEq,Int.reduceLT,Int.reduceLE,Nat.reduceLT,ti2,ti3,ti4,ti45,ti46,ti38,ti25,ti30,ti22,ti32,ti24,ti95,ti172,ti169,ti165,ti166,ti65,ti143,ti87,ti110,ti56,ti101,ti5,ti159,ti62,ti161,ti51,ti57,ti9, h8, h1, knc, c3', h2, hni2, hget, hnl, e4, h4, kmc, h0, mr1, mr2, mr4, q1, q3b, e5, hml]
                  (repeat refine And.intro (by omega) ?_)
                  try simp (disch := first | omega | (simp only [ints_length, List.length_replicate, List.length_set]; done) | (simp only [ints_length, List.length_replicate, List.length_set]; omega)) only [Sall,evalOp,init,binE,binI,unE,convE,okNil,builtE,gv,TD.isAgg,resV,↓reduceIte,Nat.reduceEqDiff,reduceCtorEq,Nat.reduceAdd,Nat.reduceMul,Nat.reduceLeDiff,quietOp,blindOp,Int.reduceEq,Int.reduceLT,Int.reduceLE,Nat.reduceLT,ti2,ti3,ti4,ti45,ti46,ti38,ti25,ti30,ti22,ti32,ti24,ti95,ti172,ti169,ti165,ti166,ti65,ti143,ti87,ti110,ti56,ti101,ti5,ti159,ti62,ti161,ti51,ti57,ti9, h8, h1, knc, c3', h2, hni2, hget, hnl, e4, h4, kmc, h0, mr1, mr2, mr4, q1, q3b, e5, hml]
                  refine (meet_c ni 46 c b now H2 hni2 hnl ⟨by omega, by omega⟩ ⟨by omega, by omega⟩).to ?_
                  obtain ⟨H3, e3⟩ : ∃ H3, H3 = H2.setCells ni (ints ((now.set (c : Int).toNat (b : Int)).set (b : Int).toNat (c : Int))) := ⟨_, rfl⟩
                  have k3 : H3.row ni = some ⟨46, true, ints (meetN now c b)⟩ := by rw [e3, AH.setCells_row, if_pos rfl, hni2]; rfl
                  have r3 : ∀ j, j ≠ ni → H3.row j = H2.row j := fun j hj => by rw [e3, AH.setCells_row, if_neg hj]
                  have n3 : H3.next = H2.next := by rw [e3]; rfl
                  have s3 : Sc H3 := by rw [e3]; exact hs2.set _ _
                  rw [← e3]
                  clear e3
                  have kpc3 := r3 pc d4
                  rw [kpc] at kpc3
                  try simp (disch := first | omega | (simp only [ints_length, List.length_replicate, List.length_set]; done) | (simp only [ints_length, List.length_replicate, List.length_set]; omega)) only [Sall,evalOp,init,binE,binI,unE,convE,okNil,builtE,gv,TD.isAgg,resV,↓reduceIte,Nat.reduceEqDiff,reduceCtorEq,Nat.reduceAdd,Nat.reduceMul,Nat.reduceLeDiff,quietOp,blindOp,Int.reduceEq,Int.reduceLT,Int.reduceLE,Nat.reduceLT,ti2,ti3,ti4,ti45,ti46,ti38,ti25,ti30,ti22,ti32,ti24,ti95,ti172,ti169,ti165,ti166,ti65,ti143,ti87,ti110,ti56,ti101,ti5,ti159,ti62,ti161,ti51,ti57,ti9, h0, h5, kpc3, w64]
                  refine (ih (meetN now c b) (c + 1) s' H3 (hnow.meet hn14 c1 c3) (by omega) (by omega) (hC.low _ _ _ hI2 fun i hi => r3 i (by omega)) s3 k3 (by rw [r3 nc d1]; exact knc) (by rw [r3 mc d3]; exact kmc) (by rw [r3 wc d2]; exact kwc) kpc3).fin ?_
                  rintro H4 ⟨i1, i2, i3, i4, i5⟩
                  revert i1 i5
                  generalize foldE step (matF n (mtM M) f (meetN now c b) (c + 1)) s' = R
                  intro i1 i5
                  obtain ⟨rb, s''⟩ := R
                  have fr4 : ∀ i, b0 ≤ i → i < H'.next → i ≠ ni → H4.row i = H'.row i := fun i j1 j2 j3 => by rw [i4 i j1 (by omega) j3, r3 i j3, hfr i j1 j2 j3]
                  obtain hrb | hrb : rb = true ∨ rb = false := by cases rb <;> simp
                  · subst hrb
                    have k4 := i5 rfl
                    rw [k3] at k4
                    have ml4 : (meetN now c b).length = 14 := by rw [meetN_length, hnl]
                    have mb4 := meetN_back hnl (show c < 14 by omega) (show b < 14 by omega) c2 c4
                    have ml5 : ((meetN now c b).set c (c : Int)).length = 14 := by rw [List.length_set, ml4]
                    try simp (disch := first | omega | (simp only [ints_length, List.length_replicate, List.length_set]; done) | (simp only [ints_length, List.length_replicate, List.length_set]; omega)) only [Sall,evalOp,init,binE,binI,unE,convE,okNil,builtE,gv,TD.isAgg,resV,↓reduceIte,Nat.reduceEqDiff,reduceCtorEq,Nat.reduceAdd,Nat.reduceMul,Nat.reduceLeDiff,quietOp,blindOp,Int.reduceEq,Int.reduceLT,Int.reduceLE,Nat.reduceLT,ti2,ti3,ti4,ti45,ti46,ti38,ti25,ti30,ti22,ti32,ti24,ti95,ti172,ti169,ti165,ti166,ti65,ti143,ti87,ti110,ti56,ti101,ti5,ti159,ti62,ti161,ti51,ti57,ti9, h0, h8, h1, h2, h3, h4, h5, k4, ml4, ml5, ints_set, AH.setCells_setCells, mb4, w64]
                    (repeat refine And.intro (by omega) ?_)
                    try simp (disch := first | omega | (simp only [ints_length, List.length_replicate, List.length_set]; done) | (simp only [ints_length, List.length_replicate, List.length_set]; omega)) only [Sall,evalOp,init,binE,binI,unE,convE,okNil,builtE,gv,TD.isAgg,resV,↓reduceIte,Nat.reduceEqDiff,reduceCtorEq,Nat.reduceAdd,Nat.reduceMul,Nat.reduceLeDiff,quietOp,blindOp,Int.reduceEq,Int.reduceLT,Int.reduceLE,Nat.reduceLT,ti2,ti3,ti4,ti45,ti46,ti38,ti25,ti30,ti22,ti32,ti24,ti95,ti172,ti169,ti165,ti166,ti65,ti143,ti87,ti110,ti56,ti101,ti5,ti159,ti62,ti161,ti51,ti57,ti9, h0, h8, h1, h2, h3, h4, h5, k4, ml4, ml5, ints_set, AH.setCells_setCells, mb4, w64]
                    exact ⟨n - (b + 1), by omega, b + 1, s'', rfl, by omega, by omega, rfl, rfl, hC.low _ _ _ i1 (fun i hi => by rw [AH.setCells_row, if_neg (by omega)]), by omega, i3.set _ _, fun i j1 j2 j3 => by rw [if_neg j3]; exact fr4 i j1 j2 j3, hni.symm⟩
                  · subst hrb
                    try simp (disch := first | omega | (simp only [ints_length, List.length_replicate, List.length_set]; done) | (simp only [ints_length, List.length_replicate, List.length_set]; omega)) only [Sall,evalOp,init,binE,binI,unE,convE,okNil,builtE,gv,TD.isAgg,resV,↓reduceIte,Nat.reduceEqDiff,reduceCtorEq,Nat.reduceAdd,Nat.reduceMul,Nat.reduceLeDiff,quietOp,blindOp,Int.reduceEq,Int.reduceLT,Int.reduceLE,Nat.reduceLT,ti2,ti3,ti4,ti45,ti46,ti38,ti25,ti30,ti22,ti32,ti24,ti95,ti172,ti169,ti165,ti166,ti65,ti143,ti87,ti110,ti56,ti101,ti5,ti159,ti62,ti161,ti51,ti57,ti9, h0, h8]
                    exact ⟨i1, by omega, i3, fr4, fun h => h.elim⟩
              · have e4 : (now.getD b 0 != (b : Int)) = true := by simpa using c4
                have hF0 : F b = [] := by rw [hFb]; unfold matB; rw [if_pos (.inl c4)]
                rw [hF0, show foldE step ([] : List (List Int)) s' = (true, s') from rfl, if_pos rfl]
                try simp (disch := first | omega | (simp only [ints_length, List.length_replicate, List.length_set]; done) | (simp only [ints_length, List.length_replicate, List.length_set]; omega)) only [Sall,evalOp,init,binE,binI,unE,convE,okNil,builtE,gv,TD.isAgg,resV,↓reduceIte,Nat.reduceEqDiff,reduceCtorEq,Nat.reduceAdd,Nat.reduceMul,Nat.reduceLeDiff,quietOp,blindOp,Int.reduceEq,Int.reduceLT,Int.reduceLE,Nat.reduceLT,ti2,ti3,ti4,ti45,ti46,ti38,ti25,ti30,ti22,ti32,ti24,ti95,ti172,ti169,ti165,ti166,ti65,ti143,ti87,ti110,ti56,ti101,ti5,ti159,ti62,ti161,ti51,ti57,ti9, h8, h1, knc, c3', h2, hni2, hget, hnl, e4, h0]
                (repeat refine And.intro (by omega) ?_)
                try simp (disch := first | omega | (simp only [ints_length, List.length_replicate, List.length_set]; done) | (simp only [ints_length, List.length_replicate, List.length_set]; omega)) only [Sall,evalOp,init,binE,binI,unE,convE,okNil,builtE,gv,TD.isAgg,resV,↓reduceIte,Nat.reduceEqDiff,reduceCtorEq,Nat.reduceAdd,Nat.reduceMul,Nat.reduceLeDiff,quietOp,blindOp,Int.reduceEq,Int.reduceLT,Int.reduceLE,Nat.reduceLT,ti2,ti3,ti4,ti45,ti46,ti38,ti25,ti30,ti22,ti32,ti24,ti95,ti172,ti169,ti165,ti166,ti65,ti143,ti87,ti110,ti56,ti101,ti5,ti159,ti62,ti161,ti51,ti57,ti9, h8, h1, knc, c3', h2, h3, h4, h5, hni2, hget, hnl, e4, h0, w64]
                exact ⟨n - (b + 1), by omega, b + 1, s', rfl, by omega, by omega, rfl, rfl, hI2, hn2, hs2, hfr, hni.symm⟩
            · have c3' : decide ((b : Int) < (n : Int)) = false := decide_eq_false (by omega)
              rw [show n - b = 0 by omega, List.range'_zero, List.flatMap_nil, show foldE step ([] : List (List Int)) s' = (true, s') from rfl]
              try simp (disch := first | omega | (simp only [ints_length, List.length_replicate, List.length_set]; done) | (simp only [ints_length, List.length_replicate, List.length_set]; omega)) only [Sall,evalOp,init,binE,binI,unE,convE,okNil,builtE,gv,TD.isAgg,resV,↓reduceIte,Nat.reduceEqDiff,reduceCtorEq,Nat.reduceAdd,Nat.reduceMul,Nat.reduceLeDiff,quietOp,blindOp,Int.reduceEq,Int.reduceLT,Int.reduceLE,Nat.reduceLT,ti2,ti3,ti4,ti45,ti46,ti38,ti25,ti30,ti22,ti32,ti24,ti95,ti172,ti169,ti165,ti166,ti65,ti143,ti87,ti110,ti56,ti101,ti5,ti159,ti62,ti161,ti51,ti57,ti9, h8, h1, knc, c3']
              exact ⟨hI2, hn2, hs2, hfr, fun _ => by rw [hni2, hni]⟩
        · have e2 : (now.getD c 0 != (c : Int)) = true := by simpa using c2
          try simp (disch := first | omega | (simp only [ints_length, List.length_replicate, List.length_set]; done) | (simp only [ints_length, List.length_replicate, List.length_set]; omega)) only [Sall,evalOp,init,binE,binI,unE,convE,okNil,builtE,gv,TD.isAgg,resV,↓reduceIte,Nat.reduceEqDiff,reduceCtorEq,Nat.reduceAdd,Nat.reduceMul,Nat.reduceLeDiff,quietOp,blindOp,Int.reduceEq,Int.reduceLT,Int.reduceLE,Nat.reduceLT,ti2,ti3,ti4,ti45,ti46,ti38,ti25,ti30,ti22,ti32,ti24,ti95,ti172,ti169,ti165,ti166,ti65,ti143,ti87,ti110,ti56,ti101,ti5,ti159,ti62,ti161,ti51,ti57,ti9, h0, h1, hnc, c1', h2, hni, hget, hnl, e2]
          (repeat refine And.intro (by omega) ?_)
          try simp (disch := first | omega | (simp only [ints_length, List.length_replicate, List.length_set]; done) | (simp only [ints_length, List.length_replicate, List.length_set]; omega)) only [Sall,evalOp,init,binE,binI,unE,convE,okNil,builtE,gv,TD.isAgg,resV,↓reduceIte,Nat.reduceEqDiff,reduceCtorEq,Nat.reduceAdd,Nat.reduceMul,Nat.reduceLeDiff,quietOp,blindOp,Int.reduceEq,Int.reduceLT,Int.reduceLE,Nat.reduceLT,ti2,ti3,ti4,ti45,ti46,ti38,ti25,ti30,ti22,ti32,ti24,ti95,ti172,ti169,ti165,ti166,ti65,ti143,ti87,ti110,ti56,ti101,ti5,ti159,ti62,ti161,ti51,ti57,ti9, h0, h1, h2, h3, h4, h5, w64]
          exact ⟨n - (c + 1), by omega, c + 1, rfl, by omega, rfl, hfst.trans (fstF_step c1 c2)⟩
      · have hce : c = n := by omega
        subst hce
        have c1' : decide ((c : Int) < (c : Int)) = false := decide_eq_false (by omega)
        have e3 : ((c : Int) == (c : Int)) = true := beq_self_eq_true _
        have hm : matF c (mtM M) (f + 1) now a = [now] := by
          show (if _ then _ else _) = _
          rw [hfst, fstF_end, if_pos rfl]
        rw [hm, foldE_one]
        try simp (disch := first | omega | (simp only [ints_length, List.length_replicate, List.length_set]; done) | (simp only [ints_length, List.length_replicate, List.length_set]; omega)) only [Sall,evalOp,init,binE,binI,unE,convE,okNil,builtE,gv,TD.isAgg,resV,↓reduceIte,Nat.reduceEqDiff,reduceCtorEq,Nat.reduceAdd,Nat.reduceMul,Nat.reduceLeDiff,quietOp,blindOp,Int.reduceEq,Int.reduceLT,Int.reduceLE,Nat.reduceLT,ti2,ti3,ti4,ti45,ti46,ti38,ti25,ti30,ti22,ti32,ti24,ti95,ti172,ti169,ti165,ti166,ti65,ti143,ti87,ti110,ti56,ti101,ti5,ti159,ti62,ti161,ti51,ti57,ti9, h0, h1, hnc, c1', e3, h3, hwc, h2, hni, hnl]
        refine (hC.call s now H' hI (by have := hs _ _ hnc; omega) hs hnow).fin ?_
        rintro H4 ⟨i1, i2, i3, i4⟩
        try simp (disch := first | omega | (simp only [ints_length, List.length_replicate, List.length_set]; done) | (simp only [ints_length, List.length_replicate, List.length_set]; omega)) only [Sall,evalOp,init,binE,binI,unE,convE,okNil,builtE,gv,TD.isAgg,resV,↓reduceIte,Nat.reduceEqDiff,reduceCtorEq,Nat.reduceAdd,Nat.reduceMul,Nat.reduceLeDiff,quietOp,blindOp,Int.reduceEq,Int.reduceLT,Int.reduceLE,Nat.reduceLT,ti2,ti3,ti4,ti45,ti46,ti38,ti25,ti30,ti22,ti32,ti24,ti95,ti172,ti169,ti165,ti166,ti65,ti143,ti87,ti110,ti56,ti101,ti5,ti159,ti62,ti161,ti51,ti57,ti9, h0]
        exact ⟨i1, i2, i3, fun i j1 j2 _ => i4 i j1 j2, fun _ => i4 ni b2 (hs _ _ hni)⟩

theorem rounds_c {σ : Type} {n : Nat} {M : List (List Int)} {mv : Value} {g : FuncId} {caps : List Value} {Inv : σ → AH → Prop} {step : σ → List Int → Bool × σ} (s : σ) (H : AH) (hC : CallOk n M mv g caps H.next Inv step) (hI : Inv s H) (hone : mv.oneCell' = true) :
    ACalls Try.prog 101 [.int .i64 n, mv, .func (.func g) #[] caps.toArray] H (fun v H' => v = .bool (foldE step (matF n (mtM M) (n + 1) (freeL n) 0) s).1 ∧ Inv (foldE step (matF n (mtM M) (n + 1) (freeL n) 0) s).2 H' ∧ H.next ≤ H'.next ∧ Sc H') := by
  refine ACalls.wf (by kernel_rfl) fun hs => acalls_of_awp [.tmp 6] Try.func101 (by kernel_rfl) rfl rfl (Nat.le_of_ble_eq_true rfl) (by kernel_rfl) ?_
  have hn14 := hC.n14
  have hac := asCells_one hone
  have hput := put_c hC H.next (H.next + 3) (H.next + 2) (H.next + 1) (H.next + 4) ⟨by omega, by omega, by omega, by omega, by omega⟩ ⟨by omega, by omega, by omega, by omega⟩ hone (n + 1) (freeL n) 0 s
  have hnow : NowOk n (freeL n) := ⟨freeL_length n, fun j hj => by
    have : (freeL (n : Int)).getD j 0 = (j : Int) := by
      unfold freeL
      rw [List.getD_eq_getElem?_getD, List.getElem?_map, List.getElem?_range (by omega)]
      show (if (j : Int) < (n : Int) then (j : Int) else 0) = j
      rw [if_pos (by omega)]
    omega⟩
  have hfl := freeL_length (n : Int)
  have hfree := free_c (n : Int) (by omega)
  revert hput hnow hfl hfree
  generalize foldE step (matF n (mtM M) (n + 1) (freeL n) 0) s = R
  generalize freeL (n : Int) = L0
  intro hput hnow hfl hfree
  try simp (disch := first | omega | (simp only [ints_length, List.length_replicate, List.length_set]; done) | (simp only [ints_length, List.length_replicate, List.length_set]; omega)) only [Sall,evalOp,init,binE,binI,unE,convE,okNil,builtE,gv,TD.isAgg,resV,↓reduceIte,Nat.reduceEqDiff,reduceCtorEq,Nat.reduceAdd,Nat.reduceMul,Nat.reduceLeDiff,quietOp,blindOp,Int.reduceEq,Int.reduceLT,Int.reduceLE,Nat.reduceLT,ti2,ti3,ti4,ti45,ti46,ti38,ti25,ti30,ti22,ti32,ti24,ti95,ti172,ti169,ti165,ti166,ti65,ti143,ti87,ti110,ti56,ti101,ti5,ti159,ti62,ti161,ti51,ti57,ti9, hone, hac]
  have o1 := (((Ow.refl hs).push ⟨2, true, [.int .i64 n]⟩).push ⟨25, true, [mv]⟩).push ⟨110, true, [.func (.func g) #[] caps.toArray]⟩
  obtain ⟨H1, e1⟩ : ∃ H1, H1 = ((H.push ⟨2, true, [.int .i64 n]⟩).push ⟨25, true, [mv]⟩).push ⟨110, true, [.func (.func g) #[] caps.toArray]⟩ := ⟨_, rfl⟩
  have n1 : H1.next = H.next + 3 := by rw [e1]; rfl
  rw [← e1] at o1 ⊢
  clear e1
  refine (hfree H1).to ?_
  have hseg : seg (ints L0) 0 14 = ints L0 := seg_ints14 _ hfl
  refine Holds.mp ?_
  have e22 : H.next + 2 + 2 = H.next + 4 := rfl
  have hmem : ∀ v ∈ [Value.pointer (some ⟨H.next, 0, none⟩), .pointer (some ⟨H.next + 3, 0, none⟩), .pointer (some ⟨H.next + 2, 0, none⟩), .pointer (some ⟨H.next + 1, 0, none⟩), .pointer (some ⟨H.next + 4, 0, none⟩)], v.oneCell' = true := by simp [Value.oneCell']
  try simp (disch := first | omega | (simp only [ints_length, List.length_replicate, List.length_set]; done) | (simp only [ints_length, List.length_replicate, List.length_set]; omega)) only [Sall,evalOp,init,binE,binI,unE,convE,okNil,builtE,gv,TD.isAgg,resV,↓reduceIte,Nat.reduceEqDiff,reduceCtorEq,Nat.reduceAdd,Nat.reduceMul,Nat.reduceLeDiff,quietOp,blindOp,Int.reduceEq,Int.reduceLT,Int.reduceLE,Nat.reduceLT,ti2,ti3,ti4,ti45,ti46,ti38,ti25,ti30,ti22,ti32,ti24,ti95,ti172,ti169,ti165,ti166,ti65,ti143,ti87,ti110,ti56,ti101,ti5,ti159,ti62,ti161,ti51,ti57,ti9, hfl, hseg, n1, e22]
  refine ⟨hmem, ?_⟩
  obtain ⟨H2, e2⟩ : ∃ H2, H2 = ((((H1.push ⟨46, true, ints (List.replicate 14 0)⟩).setCells (H.next + 3) (ints L0)).push ⟨56, true, [.nilFunc]⟩).setCells (H.next + 4) [.func (.func 170) #[] #[.pointer (some ⟨H.next, 0, none⟩), .pointer (some ⟨H.next + 3, 0, none⟩), .pointer (some ⟨H.next + 2, 0, none⟩), .pointer (some ⟨H.next + 1, 0, none⟩), .pointer (some ⟨H.next + 4, 0, none⟩)]]) := ⟨_, rfl⟩
  have q0 : ∀ i, i < H.next + 3 → H2.row i = H1.row i := fun i hi => by
    rw [e2]; simp only [AH.setCells_row, AH.push_row, AH.push_next, AH.setCells_next, n1]
    rw [if_neg (by omega), if_neg (by omega), if_neg (by omega), if_neg (by omega)]
  have q1 : H2.row (H.next + 3) = some ⟨46, true, ints L0⟩ := by
    rw [e2]; simp only [AH.setCells_row, AH.push_row, AH.push_next, AH.setCells_next, n1]
    rw [if_neg (by omega), if_neg (by omega), if_true, if_true]; rfl
  have q2 : H2.row (H.next + 4) = some ⟨56, true, [.func (.func 170) #[] #[.pointer (some ⟨H.next, 0, none⟩), .pointer (some ⟨H.next + 3, 0, none⟩), .pointer (some ⟨H.next + 2, 0, none⟩), .pointer (some ⟨H.next + 1, 0, none⟩), .pointer (some ⟨H.next + 4, 0, none⟩)]]⟩ := by
    rw [e2]; simp only [AH.setCells_row, AH.push_row, AH.push_next, AH.setCells_next, n1, e22]
    rfl
  have n2 : H2.next = H.next + 5 := by rw [e2]; simp only [AH.setCells_next, AH.push_next, n1]
  have s2 : Sc H2 := by rw [e2]; exact (((o1.sc.push _).set _ _).push _).set _ _
  rw [← e2]
  clear e2
  have g0 := (o1.rowAt 0 rfl).1
  have g1 : H1.row (H.next + 1) = _ := (o1.rowAt 1 rfl).1
  have g2 : H1.row (H.next + 2) = _ := (o1.rowAt 2 rfl).1
  refine (hput H2 hnow (by omega) (by omega) (hC.low _ _ _ hI fun i hi => by rw [q0 i (by omega), o1.low i hi]) s2 q1 (by rw [q0 _ (by omega)]; exact g0) (by rw [q0 _ (by omega)]; exact g1) (by rw [q0 _ (by omega)]; exact g2) q2).fin ?_
  rintro H3 ⟨i1, i2, i3, i4, i5⟩
  refine Holds.mp ?_
  try simp (disch := first | omega | (simp only [ints_length, List.length_replicate, List.length_set]; done) | (simp only [ints_length, List.length_replicate, List.length_set]; omega)) only [Sall,evalOp,init,binE,binI,unE,convE,okNil,builtE,gv,TD.isAgg,resV,↓reduceIte,Nat.reduceEqDiff,reduceCtorEq,Nat.reduceAdd,Nat.reduceMul,Nat.reduceLeDiff,quietOp,blindOp,Int.reduceEq,Int.reduceLT,Int.reduceLE,Nat.reduceLT,ti2,ti3,ti4,ti45,ti46,ti38,ti25,ti30,ti22,ti32,ti24,ti95,ti172,ti169,ti165,ti166,ti65,ti143,ti87,ti110,ti56,ti101,ti5,ti159,ti62,ti161,ti51,ti57,ti9, true_and]
  exact ⟨i1, by omega, i3⟩
end Go.Proofs.Ytgkmdfjjlghecaa.A
end

section
set_option linter.unusedSimpArgs false
set_option linter.unusedVariables false
namespace Go.Abs
open Go Go.RowKit

theorem sl_at {z n : Nat} {ty : TypeId} {v : Value} {vs : List Value} {H H' : AH} {S S' : Nat → Prop} (h : (Th.sl z ty v n vs).p H S) (hS : ∀ i, S i → S' i) (hr : ∀ i r, S i → H.row i = some r → H'.row i = some r) : (Th.sl z ty v n vs).p H' S' :=
  (Th.sl z ty v n vs).loc H H' S S' hS hr h

theorem Ow.get2 {α : Type} {f : α → Value} {B H : AH} {L : List Th} (h : Ow B H L) (k : Nat) {ty ty' : TypeId} {v : Value} {ll : List (List α)} (hk : L[k]? = some (.sl2 f ty ty' v ll)) {j : Nat} (hj : j < ll.length) :
    ∃ i vs x, B.next ≤ i ∧ i < H.next ∧ v = .slice (some ⟨i, 0, some 1⟩) ll.length ll.length ∧ H.row i = some ⟨ty, true, vs⟩ ∧ vs.length = ll.length ∧ vs[j]? = some x ∧ x.oneCell' = true ∧
      (0 < (ll.getD j []).length → ∃ q, B.next ≤ q ∧ q < H.next ∧ q ≠ i ∧ x = .slice (some ⟨q, 0, some 1⟩) (ll.getD j []).length (ll.getD j []).length ∧ H.row q = some ⟨ty', true, (ll.getD j []).map f⟩) := by
  obtain ⟨S, hS, hp⟩ := h.at hk
  rcases hp with ⟨rfl, _⟩ | ⟨i, vs, o, h1, h2, h3, h4, h5, h6⟩
  · simp at hj
  · obtain ⟨x, hx, hq⟩ := h6 j hj
    refine ⟨i, vs, x, (hS i h1).1, (hS i h1).2, h3, h4, h5, hx, ?_, fun hl => ?_⟩
    · rcases hq.2 with ⟨_, rfl⟩ | ⟨_, _, rfl, _⟩ <;> rfl
    · rcases hq.2 with ⟨h0, _⟩ | ⟨q, q1, q2, q3⟩
      · omega
      · exact ⟨q, (hS q q1.1).1, (hS q q1.1).2, fun e => by rw [e] at q1; omega, q2, q3⟩

/-- One place of an inner slice is written. -/
theorem Ow.set2 {α : Type} {f : α → Value} {B H : AH} {L : List Th} (h : Ow B H L) (k : Nat) {ty ty' : TypeId} {i q n c m : Nat} {ll : List (List α)} {vs : List Value} (hk : L[k]? = some (.sl2 f ty ty' (.slice (some ⟨i, 0, some 1⟩) n c) ll)) {j : Nat} (hj : j < ll.length) {l' : List α} (hl : l'.length = (ll.getD j []).length)
    (hr : H.row i = some ⟨ty, true, vs⟩) (hx : vs[j]? = some (.slice (some ⟨q, 0, some 1⟩) m m)) :
    Ow B (H.setCells q (l'.map f)) (L.set k (.sl2 f ty ty' (.slice (some ⟨i, 0, some 1⟩) n c) (ll.set j l'))) := by
  refine h.upd hk (Nat.le_refl _) (h.sc.set _ _) fun S hS hp => ?_
  rcases hp with ⟨rfl, _⟩ | ⟨i', vs', o, h1, h2, h3, h4, h5, h6⟩
  · simp at hj
  simp only [Value.slice.injEq, Option.some.injEq, Addr.mk.injEq] at h3
  obtain ⟨⟨rfl, _, _⟩, rfl, rfl⟩ := h3
  rw [hr] at h4
  simp only [Option.some.injEq, Row.mk.injEq, true_and] at h4
  subst h4
  obtain ⟨x, hx', hq⟩ := h6 j hj
  rw [hx] at hx'
  cases hx'
  have hqS := sl_mem _ hq
  have hqi : q ≠ i := fun e => by rw [e] at hqS; omega
  refine ⟨fun z hz hzS => by rw [AH.setCells_row, if_neg (fun e => hzS (by rw [e]; exact hqS.1))], fun S' hS' _ => .inr ⟨i, vs, o, hS' i h1, h2, by rw [List.length_set], by rw [AH.setCells_row, if_neg (Ne.symm hqi)]; exact hr, by rw [List.length_set]; exact h5, fun z hz => ?_⟩⟩
  rw [List.length_set] at hz
  by_cases e : z = j
  · subst e
    have e1 : (ll.set z l').getD z [] = l' := by simp [List.getD_eq_getElem?_getD, hz]
    rw [e1]
    refine ⟨_, hx, ?_⟩
    rcases hq.2 with ⟨h0, h7⟩ | ⟨q', q1, q2, q3⟩
    · cases h7
    · cases q2
      rw [hl]
      refine ⟨by simp [hl], .inr ⟨q, ⟨hS' q q1.1, q1.2⟩, rfl, by rw [AH.setCells_row, if_pos rfl, q3]; rfl⟩⟩
  · have e1 : (ll.set j l').getD z [] = ll.getD z [] := by simp [List.getD_eq_getElem?_getD, List.getElem?_set, Ne.symm e]
    rw [e1]
    obtain ⟨y, hy, hz2⟩ := h6 z hz
    refine ⟨y, hy, sl_at hz2 (fun w hw => ⟨hS' w hw.1, hw.2⟩) fun w r hw hwr => ?_⟩
    rw [AH.setCells_row, if_neg (fun e2 => by rw [e2] at hw; omega)]
    exact hwr

/-- Two things as one. -/
def Th.both (p q : Th) : Th where
  p := fun H S => ∃ o : Nat → Bool, p.p H (fun i => S i ∧ o i = true) ∧ q.p H (fun i => S i ∧ o i = false)
  loc := fun H H' S S' hS hr ⟨o, h1, h2⟩ => ⟨o, p.loc H H' _ _ (fun i hi => ⟨hS i hi.1, hi.2⟩) (fun i r hi => hr i r hi.1) h1, q.loc H H' _ _ (fun i hi => ⟨hS i hi.1, hi.2⟩) (fun i r hi => hr i r hi.1) h2⟩
theorem Ow.merge {B H : AH} {L : List Th} (h : Ow B H L) (k m : Nat) {p q : Th} (hk : L[k]? = some p) (hm : L[m]? = some q) (hkm : k ≠ m) : Ow B H ((L.set k (p.both q)).set m .no) := by
  obtain ⟨o, ho⟩ := h.own
  refine ⟨h.sc, h.next, h.low, fun i => if o i = m then k else o i, fun j r hj => ?_⟩
  have hm' : (L.set k (p.both q))[m]? = some q := by rw [List.getElem?_set, if_neg hkm]; exact hm
  rcases set_get hm' hj with ⟨rfl, rfl⟩ | ⟨hjm, hj⟩
  · trivial
  · rcases set_get hk hj with ⟨rfl, rfl⟩ | ⟨hjk, hj⟩
    · refine ⟨fun i => decide (o i = j), p.loc H H _ _ (fun i hi => ⟨⟨hi.1, hi.2.1, ?_⟩, decide_eq_true hi.2.2⟩) (fun i r _ hr => hr) (ho j p hk), q.loc H H _ _ (fun i hi => ⟨⟨hi.1, hi.2.1, ?_⟩, decide_eq_false fun e => hjm (e.symm.trans hi.2.2)⟩) (fun i r _ hr => hr) (ho m q hm)⟩
      · show (if o i = m then j else o i) = j
        split
        · rfl
        · exact hi.2.2
      · show (if o i = m then j else o i) = j
        rw [if_pos hi.2.2]
    · refine r.loc H H _ _ (fun i hi => ⟨hi.1, hi.2.1, ?_⟩) (fun i r _ hr => hr) (ho j r hj)
      show (if o i = m then k else o i) = j
      rw [if_neg (fun e => hjm (hi.2.2.symm.trans e))]
      exact hi.2.2

/-- A fresh slice is appended to a slice of slices. -/
theorem Ow.app2 {α : Type} {f : α → Value} {P : Program} {E : TI} {n : Nat} {ty ty' : TypeId} {B H : AH} {L : List Th} {v x : Value} {ll : List (List α)} {l : List α} {K : Value → AH → Prop} (h : Ow B H L) (k m : Nat) (hk : L[k]? = some (.sl2 f ty ty' v ll)) (hm : L[m]? = some (.sl 1 ty' x n (l.map f))) (hkm : k ≠ m) (hz : E.size = 1) (hb : E.bytes ≤ 32768) (hn : ll.length + 1 ≤ 4294967296)
    (hK : ∀ v' H', H'.next = H.next + 1 → Ow B H' ((L.set k (.sl2 f ty ty' v' (ll ++ [l]))).set m .no) → K v' H') : runOut P H (appE E ty v [x] 1 H) K := by
  have hln : n = l.length := by have := h.len m hm; simp at this; omega
  subst hln
  have hM := h.merge k m hk hm hkm
  have hkl := (List.getElem?_eq_some_iff.1 hk).1
  have hk' : ((L.set k ((Th.sl2 f ty ty' v ll).both (.sl 1 ty' x l.length (l.map f)))).set m .no)[k]? = some ((Th.sl2 f ty ty' v ll).both (.sl 1 ty' x l.length (l.map f))) := by
    rw [List.getElem?_set, if_neg (Ne.symm hkm), List.getElem?_set, if_pos rfl, if_pos hkl]
  have eL : ∀ v', ((L.set k ((Th.sl2 f ty ty' v ll).both (.sl 1 ty' x l.length (l.map f)))).set m .no).set k (.sl2 f ty ty' v' (ll ++ [l])) = (L.set k (.sl2 f ty ty' v' (ll ++ [l]))).set m .no := fun v' => by
    rw [List.set_comm _ _ (Ne.symm hkm), List.set_set]
  obtain ⟨S, hS, hp⟩ := h.at hk
  have lst : (ll ++ [l]).getD ll.length [] = l := by simp [List.getD_eq_getElem?_getD]
  have lld : ∀ j, j < ll.length → (ll ++ [l]).getD j [] = ll.getD j [] := fun j hj => by simp [List.getD_eq_getElem?_getD, List.getElem?_append_left hj]
  unfold appE
  rw [if_neg (by omega)]
  rcases hp with ⟨hll, rfl⟩ | ⟨i, vs, o, h1, h2, rfl, hr, h5, h6⟩
  · simp only [asSl_nil, runOut_need, runOut_val, hz]
    refine ⟨⟨by omega, hb⟩, hK _ _ rfl ?_⟩
    rw [← eL]
    refine hM.upd hk' (Nat.le_succ _) (h.sc.push _) fun S hS hp => ⟨fun j hj _ => by rw [AH.push_row, if_neg (by omega)], fun S' hS' hN => ?_⟩
    obtain ⟨b, _, hq⟩ := hp
    subst hll
    refine .inr ⟨H.next, [x], fun z => if z = H.next then 0 else 1, hN _ (Nat.le_refl _) (Nat.lt_succ_self _), if_pos rfl, rfl, by rw [AH.push_row, if_pos rfl], rfl, fun j hj => ?_⟩
    have hj0 : j = 0 := by simp at hj; omega
    subst hj0
    refine ⟨x, rfl, sl_at hq (fun w hw => ⟨hS' w hw.1, ?_⟩) fun w r hw hwr => by rw [AH.push_row, if_neg (by have := (hS w hw.1).2; omega)]; exact hwr⟩
    show (if w = H.next then 0 else 1) = 1
    rw [if_neg (by have := (hS w hw.1).2; omega)]
  · simp only [asSl_some, hr, bindO_some, runOut_need, Nat.zero_add, hz, Nat.mul_one]
    refine ⟨⟨hn, hb, by omega, .inl rfl⟩, ?_⟩
    rw [if_neg (by omega)]
    simp only [runOut_need, runOut_val]
    refine ⟨by simp, hK _ _ rfl ?_⟩
    rw [← eL]
    refine hM.upd hk' (Nat.le_succ _) ((h.sc.drop i).push _) fun T hT hp => ?_
    obtain ⟨b, hp1, hq⟩ := hp
    rcases hp1 with ⟨_, h7⟩ | ⟨i', vs', u, g1, g2, g3, g4, g5, g6⟩
    · cases h7
    simp only [Value.slice.injEq, Option.some.injEq, Addr.mk.injEq] at g3
    obtain ⟨⟨rfl, _⟩, _⟩ := g3
    rw [hr] at g4
    simp only [Option.some.injEq, Row.mk.injEq, true_and] at g4
    subst g4
    have old : ∀ z, z < H.next → z ≠ i → ((H.drop i).push ⟨ty, true, seg vs 0 ll.length ++ [x]⟩).row z = H.row z := fun z z2 z3 => by
      rw [AH.push_row, if_neg (by rw [AH.drop_next]; omega), AH.drop_row, if_neg z3]
    refine ⟨fun j hj hjT => old j hj (fun e => hjT (by rw [e]; exact g1.1)), fun S' hS' hN => .inr ⟨H.next, vs ++ [x], fun z => if z = H.next then 0 else if b z = false then ll.length + 1 else u z, hN _ (Nat.le_refl _) (Nat.lt_succ_self _), if_pos rfl, by rw [List.length_append]; rfl, ?_, by rw [List.length_append, List.length_append, h5]; rfl, fun j hj => ?_⟩⟩
    · rw [AH.push_row, AH.drop_next, if_pos rfl, seg_all _ _ h5.symm]
    · rw [List.length_append, List.length_singleton] at hj
      by_cases c : j < ll.length
      · obtain ⟨y, hy, hz2⟩ := g6 j c
        rw [lld j c]
        refine ⟨y, by rw [List.getElem?_append_left (by omega)]; exact hy, sl_at hz2 (fun w hw => ⟨hS' w hw.1.1, ?_⟩) fun w r hw hwr => ?_⟩
        · show (if w = H.next then 0 else if b w = false then ll.length + 1 else u w) = j + 1
          have := (hT w hw.1.1).2
          rw [if_neg (by omega), if_neg (by rw [hw.1.2]; simp)]; exact hw.2
        · have := (hT w hw.1.1).2
          rw [old w this (fun e => by rw [e] at hw; omega)]; exact hwr
      · have c4 : j = ll.length := by omega
        subst c4
        rw [lst]
        refine ⟨x, by rw [← h5, List.getElem?_append_right (Nat.le_refl _)]; simp, sl_at hq (fun w hw => ⟨hS' w hw.1, ?_⟩) fun w r hw hwr => ?_⟩
        · show (if w = H.next then 0 else if b w = false then ll.length + 1 else u w) = ll.length + 1
          have := (hT w hw.1).2
          rw [if_neg (by omega), if_pos hw.2]
        · have := (hT w hw.1).2
          rw [old w this (fun e => by rw [e] at hw; rw [g1.2] at hw; cases hw.2)]; exact hwr

theorem Ow.pushSl2 {α : Type} (f : α → Value) {B H : AH} {L : List Th} (h : Ow B H L) (ty ty' : TypeId) : Ow B (H.push ⟨ty, true, []⟩) (L ++ [.sl2 f ty ty' (.slice (some ⟨H.next, 0, some 1⟩) 0 0) ([] : List (List α))]) :=
  h.add _ (Nat.le_succ _) (h.sc.push _) (fun i hi => by rw [AH.push_row, if_neg (by omega)]) fun S hS => .inr ⟨H.next, [], fun _ => 0, hS _ (Nat.le_refl _) (Nat.lt_succ_self _), rfl, rfl, by rw [AH.push_row, if_pos rfl], rfl, fun j hj => by simp at hj⟩
theorem Ow.rd2 {B H : AH} {L : List Th} (h : Ow B H L) (k : Nat) {ty ty' : TypeId} {v : Value} {ll : List (List Int)} (hk : L[k]? = some (.sl2 (Value.int .i64) ty ty' v ll)) : Rd2 1 H v ll := by
  obtain ⟨S, hS, hp⟩ := h.at hk
  rcases hp with ⟨h1, h2⟩ | ⟨i, vs, o, h1, h2, rfl, h4, h5, h6⟩
  · exact .inl ⟨h1, none, 0, h2, fun _ => rfl⟩
  · refine .inr ⟨i, 0, some 1, _, _, rfl, h4, fun j hj => ?_⟩
    obtain ⟨x, hx, hq⟩ := h6 j hj
    refine ⟨x, _, by rw [Nat.zero_add]; exact hx, (Fr.rd (ty := ty') (lo := 0) (hi := H.next) ⟨by simp, ?_⟩ : Rd 1 H x (ll.getD j []).length (ll.getD j []))⟩
    rcases hq.2 with h7 | ⟨q, q1, q2, q3⟩
    · exact .inl h7
    · exact .inr ⟨q, Nat.zero_le _, (hS q q1.1).2, q2, q3⟩
theorem Ow.of_fr2 {ty ty' : TypeId} {H H' : AH} {v : Value} {ll : List (List Int)} (up : Up H.next H H') (sc : Sc H') (h : Fr2 1 ty ty' H.next H'.next H' v ll) : Ow H H' [.sl2 (Value.int .i64) ty ty' v ll] := by
  refine ⟨sc, up.next, up.row, fun _ => 0, fun k p hk => ?_⟩
  have hk0 : k = 0 := by
    have := (List.getElem?_eq_some_iff.1 hk).1
    simp at this; omega
  subst hk0
  simp at hk
  subst hk
  rcases h with h | ⟨i, vs, b, h1, h2, rfl, hr, hl, g0, gn, gi, gm, hh⟩
  · exact .inl h
  · classical
    refine .inr ⟨i, vs, fun z => if z = i then 0 else if hz : ∃ j, j < ll.length ∧ b j ≤ z ∧ z < b (j + 1) then Classical.choose hz + 1 else 0, ⟨h1, h2, rfl⟩, if_pos rfl, rfl, hr, hl, fun j hj => ?_⟩
    obtain ⟨x, m, hx, hf⟩ := hh j hj
    have m1 := mono_of_step gm (Nat.zero_le j)
    have m2 := mono_of_step gm (show j + 1 ≤ ll.length from hj)
    have hm := hf.lenK1
    refine ⟨x, hx, ⟨by simp, ?_⟩⟩
    rcases hf.2 with ⟨h3, h4⟩ | ⟨q, q1, q2, q3, q4⟩
    · exact .inl ⟨by omega, h4⟩
    · refine .inr ⟨q, ⟨⟨by omega, by omega, rfl⟩, ?_⟩, by rw [← hm]; exact q3, q4⟩
      show (if q = i then 0 else if hz : ∃ j, j < ll.length ∧ b j ≤ q ∧ q < b (j + 1) then Classical.choose hz + 1 else 0) = j + 1
      have hex : ∃ j, j < ll.length ∧ b j ≤ q ∧ q < b (j + 1) := ⟨j, hj, q1, q2⟩
      rw [if_neg (by rcases gi with g | g <;> omega), dif_pos hex]
      obtain ⟨c1, c2, c3⟩ := Classical.choose_spec hex
      have : Classical.choose hex = j := by
        apply Classical.byContradiction
        intro hne
        rcases Nat.lt_or_gt_of_ne hne with hl | hl
        · have := mono_of_step gm (show Classical.choose hex + 1 ≤ j from hl); omega
        · have := mono_of_step gm (show j + 1 ≤ Classical.choose hex from hl); omega
      rw [this]
theorem Ow.addNo {B H : AH} {L : List Th} (h : Ow B H L) : Ow B H (L ++ [.no]) := h.add _ (Nat.le_refl _) h.sc (fun _ _ => rfl) fun _ _ => trivial
theorem Ow.put0 {B H : AH} {a b c d : Th} (h : Ow B H [a, b, c, d]) : Ow B H [d, b, c] :=
  h.sub (fun j => if j = 0 then 3 else j) (fun j hj => match j, hj with | 0, _ => rfl | 1, _ => rfl | 2, _ => rfl) fun i j hi hj e => by
    simp only [List.length_cons, List.length_nil] at hi hj
    split at e <;> split at e <;> omega
theorem Ow.put1 {B H : AH} {a b c d : Th} (h : Ow B H [a, b, c, d]) : Ow B H [a, d, c] :=
  h.sub (fun j => if j = 1 then 3 else j) (fun j hj => match j, hj with | 0, _ => rfl | 1, _ => rfl | 2, _ => rfl) fun i j hi hj e => by
    simp only [List.length_cons, List.length_nil] at hi hj
    split at e <;> split at e <;> omega
theorem Ow.put2 {B H : AH} {a b c d : Th} (h : Ow B H [a, b, c, d]) : Ow B H [a, b, d] :=
  h.sub (fun j => if j = 2 then 3 else j) (fun j hj => match j, hj with | 0, _ => rfl | 1, _ => rfl | 2, _ => rfl) fun i j hi hj e => by
    simp only [List.length_cons, List.length_nil] at hi hj
    split at e <;> split at e <;> omega
end Go.Abs
end

section
set_option linter.unusedSimpArgs false
set_option linter.unusedVariables false
namespace Go.Abs

def sortedL (zs : List Int) : List Int := zs.mergeSort fun x y => decide (x ≤ y)
theorem sortedL_length (zs : List Int) : (sortedL zs).length = zs.length := by simp [sortedL]
theorem sortedL_perm (zs : List Int) : (sortedL zs).Perm zs := List.mergeSort_perm _ _
theorem sortedL_sorted (zs : List Int) : (sortedL zs).Pairwise (fun x y => x ≤ y) := by
  have h := List.pairwise_mergeSort (le := fun x y : Int => decide (x ≤ y)) (fun a b c h1 h2 => by simp at *; omega) (fun a b => by simp; omega) zs
  exact h.imp (by simp)

theorem sorted_unique : ∀ {a b : List Int}, a.Perm b → a.Pairwise (fun x y => x ≤ y) → b.Pairwise (fun x y => x ≤ y) → a = b
  | [], b, h, _, _ => by rw [List.nil_perm] at h; exact h.symm
  | x :: a, [], h, _, _ => by rw [List.perm_nil] at h; exact h
  | x :: a, y :: b, h, ha, hb => by
    have hxy : x = y := by
      have h1 : x ∈ y :: b := h.subset (List.mem_cons_self)
      have h2 : y ∈ x :: a := h.symm.subset (List.mem_cons_self)
      have ha' : ∀ z ∈ a, x ≤ z := fun z hz => List.rel_of_pairwise_cons ha hz
      have hb' : ∀ z ∈ b, y ≤ z := fun z hz => List.rel_of_pairwise_cons hb hz
      rcases List.mem_cons.1 h1 with e | e
      · exact e
      · rcases List.mem_cons.1 h2 with e2 | e2
        · exact e2.symm
        · have := ha' _ e2; have := hb' _ e; omega
    subst hxy
    rw [sorted_unique ((List.perm_cons x).1 h) ha.of_cons hb.of_cons]

theorem seqL_pair (a : Int) (n : Nat) : (seqL a n).Pairwise (fun x y => x < y) := by
  unfold seqL
  rw [List.pairwise_map]
  exact List.pairwise_lt_range.imp (by intro x y h; omega)
theorem seqL_sorted (a : Int) (n : Nat) : (seqL a n).Pairwise (fun x y => x ≤ y) := (seqL_pair a n).imp (by intro x y h; omega)
theorem seqL_nodup (a : Int) (n : Nat) : (seqL a n).Nodup := (seqL_pair a n).imp (by intro x y h; omega)
theorem mem_seqL_iff (a : Int) (n : Nat) (x : Int) : x ∈ seqL a n ↔ a ≤ x ∧ x < a + n := by
  unfold seqL
  rw [List.mem_map]
  constructor
  · rintro ⟨i, hi, rfl⟩
    have : i < n := by simpa using hi
    constructor <;> omega
  · rintro ⟨h1, h2⟩
    exact ⟨(x - a).toNat, by simp; omega, by omega⟩

theorem sortedL_eq {y z : List Int} (h : y.Perm z) (hz : z.Pairwise (fun x y => x ≤ y)) : sortedL y = z :=
  sorted_unique ((sortedL_perm y).trans h) (sortedL_sorted y) hz
theorem sortedL_seq (a : Int) (n : Nat) (y : List Int) : sortedL y = seqL a n ↔ y.Perm (seqL a n) :=
  ⟨fun h => h ▸ (sortedL_perm y).symm, fun h => sortedL_eq h (seqL_sorted a n)⟩

/-- As many different ones among others: all of them. -/
theorem perm_of_nodup {α : Type} [DecidableEq α] : ∀ (y z : List α), y.Nodup → (∀ x ∈ y, x ∈ z) → z.length ≤ y.length → y.Perm z
  | [], z, _, _, h => by
    have : z = [] := List.eq_nil_of_length_eq_zero (by simpa using h)
    rw [this]
  | a :: y, z, hn, hs, h => by
    have ha : a ∈ z := hs a (List.mem_cons_self)
    have hn' := List.nodup_cons.1 hn
    have hp := List.perm_cons_erase ha
    have hl := List.length_erase_of_mem ha
    have hz : 0 < z.length := List.length_pos_of_mem ha
    have ih := perm_of_nodup y (z.erase a) hn'.2 (fun x hx => (List.mem_erase_of_ne (by rintro rfl; exact hn'.1 hx)).2 (hs x (List.mem_cons_of_mem _ hx))) (by rw [hl]; simp at h; omega)
    exact (ih.cons a).trans hp.symm

def ordB (n : Nat) (y : List Int) : Bool := decide (y.length = n) && decide (sortedL y = seqL 0 n)
theorem ordB_iff (n : Nat) (y : List Int) : ordB n y = true ↔ y.length = n ∧ (∀ x ∈ y, 0 ≤ x ∧ x < n) ∧ y.Nodup := by
  unfold ordB
  rw [Bool.and_eq_true, decide_eq_true_iff, decide_eq_true_iff, sortedL_seq]
  constructor
  · rintro ⟨h1, h2⟩
    refine ⟨h1, fun x hx => ?_, (h2.nodup_iff).2 (seqL_nodup 0 n)⟩
    have := (mem_seqL_iff 0 n x).1 (h2.subset hx)
    omega
  · rintro ⟨h1, h2, h3⟩
    exact ⟨h1, perm_of_nodup y _ h3 (fun x hx => (mem_seqL_iff 0 n x).2 (by have := h2 x hx; omega)) (by rw [seqL_length]; omega)⟩

theorem take_snoc {α : Type} (y : List α) (d : α) (i : Nat) (hi : i < y.length) : y.take (i + 1) = y.take i ++ [y.getD i d] := by
  rw [List.take_add_one, List.getElem?_eq_getElem hi, List.getD_eq_getElem?_getD, List.getElem?_eq_getElem hi]
  rfl
theorem nodup_snoc {α : Type} [DecidableEq α] {y : List α} {x : α} : (y ++ [x]).Nodup ↔ y.Nodup ∧ x ∉ y := by
  rw [List.nodup_append]
  constructor
  · rintro ⟨h1, _, h2⟩
    exact ⟨h1, fun h => h2 x h x (by simp) rfl⟩
  · rintro ⟨h1, h2⟩
    refine ⟨h1, by simp, fun a ha b hb e => ?_⟩
    rw [List.mem_singleton] at hb
    subst hb; subst e; exact h2 ha
theorem nodup_take {α : Type} {y : List α} (h : y.Nodup) (i : Nat) : (y.take i).Nodup := h.sublist (List.take_sublist _ _)

/-- What is known of the numbers that have been looked at. -/
def goodTo (n : Nat) (y : List Int) (i : Nat) : Prop := (∀ x ∈ y.take i, 0 ≤ x ∧ x < n) ∧ (y.take i).Nodup
theorem goodTo_zero (n : Nat) (y : List Int) : goodTo n y 0 := ⟨by simp, by simp⟩
theorem goodTo_succ {n : Nat} {y : List Int} {i : Nat} (hi : i < y.length) (h : goodTo n y i) (h1 : 0 ≤ y.getD i 0 ∧ y.getD i 0 < n) (h2 : (y.take i).contains (y.getD i 0) = false) : goodTo n y (i + 1) := by
  unfold goodTo
  rw [take_snoc y 0 i hi]
  refine ⟨fun x hx => ?_, nodup_snoc.2 ⟨h.2, fun hm => ?_⟩⟩
  · rcases List.mem_append.1 hx with hx | hx
    · exact h.1 x hx
    · rw [List.mem_singleton] at hx; rw [hx]; exact h1
  · rw [List.contains_iff_mem.2 hm] at h2; cases h2
theorem goodTo_all {n : Nat} {y : List Int} (h : goodTo n y y.length) : ordB n y = decide (y.length = n) := by
  unfold goodTo at h
  rw [List.take_length] at h
  by_cases e : y.length = n
  · rw [decide_eq_true e, ordB_iff]; exact ⟨e, h.1, h.2⟩
  · unfold ordB; rw [decide_eq_false e]; rfl
theorem ordB_bad {n : Nat} {y : List Int} {i : Nat} (hi : i < y.length) (h : ¬ (0 ≤ y.getD i 0 ∧ y.getD i 0 < n) ∨ (y.take i).contains (y.getD i 0) = true) : ordB n y = false := by
  rw [Bool.eq_false_iff]
  intro ho
  obtain ⟨_, h1, h2⟩ := (ordB_iff n y).1 ho
  rcases h with h | h
  · exact h (h1 _ (by rw [List.getD_eq_getElem?_getD, List.getElem?_eq_getElem hi]; exact List.getElem_mem _))
  · have h3 := nodup_take h2 (i + 1)
    rw [take_snoc y 0 i hi] at h3
    exact (nodup_snoc.1 h3).2 (List.contains_iff_mem.1 h)
theorem ordB_sorted_bad {n : Nat} {y : List Int} {i : Nat} (hi : i < y.length) (h : (sortedL y).getD i 0 ≠ (i : Int)) : ordB n y = false := by
  rw [Bool.eq_false_iff]
  intro ho
  unfold ordB at ho
  rw [Bool.and_eq_true, decide_eq_true_iff, decide_eq_true_iff] at ho
  rw [ho.2, seqL_getD 0 n i (by omega)] at h
  omega
theorem ordB_sorted_all {n : Nat} {y : List Int} (h : ∀ i, i < y.length → (sortedL y).getD i 0 = (i : Int)) : ordB n y = decide (y.length = n) := by
  by_cases e : y.length = n
  · unfold ordB
    rw [decide_eq_true e, Bool.true_and, decide_eq_true_iff]
    apply List.ext_getElem?
    intro i
    by_cases hi : i < y.length
    · have h1 := h i hi
      have h2 := seqL_getD 0 n i (by omega)
      rw [List.getElem?_eq_getElem (by rw [sortedL_length]; exact hi), List.getElem?_eq_getElem (by rw [seqL_length]; omega)]
      rw [List.getD_eq_getElem?_getD, List.getElem?_eq_getElem (by rw [sortedL_length]; exact hi)] at h1
      rw [List.getD_eq_getElem?_getD, List.getElem?_eq_getElem (by rw [seqL_length]; omega)] at h2
      simp only [Option.getD_some] at h1 h2
      rw [h1, h2]
      congr 1; omega
    · rw [List.getElem?_eq_none (by rw [sortedL_length]; omega), List.getElem?_eq_none (by rw [seqL_length]; omega)]
  · unfold ordB; rw [decide_eq_false e]; rfl

/-- Which numbers have been marked. -/
def metL (n : Nat) (y : List Int) : List Bool := (List.range n).map fun (j : Nat) => y.contains (j : Int)
theorem metL_length (n : Nat) (y : List Int) : (metL n y).length = n := by simp [metL]
theorem metL_nil (n : Nat) : metL n [] = List.replicate n false := by
  unfold metL
  exact List.eq_replicate_iff.2 ⟨by simp, by intro b hb; obtain ⟨a, _, rfl⟩ := List.mem_map.1 hb; rfl⟩
theorem metL_getD (n : Nat) (y : List Int) (x : Int) (h : 0 ≤ x ∧ x < n) : (metL n y).getD x.toNat false = y.contains x := by
  unfold metL
  rw [List.getD_eq_getElem?_getD, List.getElem?_map, List.getElem?_range (by omega)]
  simp only [Option.map_some, Option.getD_some]
  rw [show ((x.toNat : Nat) : Int) = x by omega]
theorem contains_snoc (y : List Int) (x z : Int) : (y ++ [x]).contains z = (y.contains z || z == x) := by
  rw [Bool.eq_iff_iff, Bool.or_eq_true, List.contains_iff_mem, List.contains_iff_mem, List.mem_append, List.mem_singleton, beq_iff_eq]
theorem metL_set (n : Nat) (y : List Int) (x : Int) (h : 0 ≤ x ∧ x < n) : (metL n y).set x.toNat true = metL n (y ++ [x]) := by
  apply List.ext_getElem?
  intro j
  rw [List.getElem?_set, metL_length]
  unfold metL
  rw [List.getElem?_map, List.getElem?_map]
  by_cases hj : j < n
  · rw [List.getElem?_range hj]
    simp only [Option.map_some]
    rw [contains_snoc]
    by_cases e : x.toNat = j
    · rw [if_pos e, if_pos (by omega)]
      have : ((j : Int) == x) = true := by rw [beq_iff_eq]; omega
      rw [this, Bool.or_true]
    · rw [if_neg e]
      have : ((j : Int) == x) = false := by rw [beq_eq_false_iff_ne]; omega
      rw [this, Bool.or_false]
  · have e : ¬ x.toNat = j := by omega
    rw [if_neg e, List.getElem?_eq_none (by simpa using hj)]
    rfl

/-! ### Steps -/
def stpI (n : Nat) (a b : Int) : Int := (b - a) % (n : Int)
def stpL (n : Nat) (y : List Int) : List Int := (List.range (y.length - 1)).map fun i => stpI n (y.getD i 0) (y.getD (i + 1) 0)
theorem stpL_length (n : Nat) (y : List Int) : (stpL n y).length = y.length - 1 := by simp [stpL]
theorem stpI_range {n : Nat} (hn : 0 < n) (a b : Int) : 0 ≤ stpI n a b ∧ stpI n a b < n :=
  ⟨Int.emod_nonneg _ (by omega), Int.emod_lt_of_pos _ (by omega)⟩
theorem stpI_impl {n : Nat} {a b : Int} (ha : 0 ≤ a ∧ a < n) (hb : 0 ≤ b ∧ b < n) : Int.tmod (b - a + n) n = stpI n a b := by
  unfold stpI
  rw [Int.tmod_eq_emod_of_nonneg (by omega), Int.add_emod_right]
theorem stpI_spec {n : Nat} (hn : 0 < n) (a b : Int) : Int.tmod (Int.tmod (b - a) n + n) n = stpI n a b := by
  have h1 : -(n : Int) < Int.tmod (b - a) n := by
    have := Int.lt_tmod_of_pos (b - a) (show (0 : Int) < n by omega)
    omega
  unfold stpI
  rw [Int.tmod_eq_emod_of_nonneg (by omega), Int.add_emod_right, Int.tmod_eq_emod]
  split
  · simp
  · rw [Int.natAbs_natCast, Int.sub_emod, Int.emod_emod_of_dvd _ (Int.dvd_refl _), Int.emod_self, Int.sub_zero, Int.emod_emod_of_dvd _ (Int.dvd_refl _)]
theorem stpI_ne {n : Nat} {a b : Int} (ha : 0 ≤ a ∧ a < n) (hb : 0 ≤ b ∧ b < n) (h : a ≠ b) : stpI n a b ≠ 0 := by
  unfold stpI
  intro e
  obtain ⟨k, hk⟩ := Int.dvd_of_emod_eq_zero e
  have h1 : -(n : Int) < n * k := by omega
  have h2 : (n : Int) * k < n := by omega
  have hn : (0 : Int) < n := by omega
  have hk0 : k = 0 := by
    rcases Int.lt_trichotomy k 0 with h3 | h3 | h3
    · have : (n : Int) * k ≤ n * (-1) := Int.mul_le_mul_of_nonneg_left (by omega) (by omega)
      omega
    · exact h3
    · have : (n : Int) * 1 ≤ n * k := Int.mul_le_mul_of_nonneg_left (by omega) (by omega)
      omega
  rw [hk0] at hk
  omega
def stpB (n : Nat) (y : List Int) : Bool := decide (stpL n y).Nodup
/-- Numbers that are different, and none is 0. -/
def diffB (s : List Int) : Bool := !s.contains 0 && decide s.Nodup
theorem diffB_steps {n : Nat} {y : List Int} (h1 : ∀ x ∈ y, 0 ≤ x ∧ x < n) (h2 : y.Nodup) : diffB (stpL n y) = stpB n y := by
  unfold diffB stpB
  have : (stpL n y).contains 0 = false := by
    rw [Bool.eq_false_iff]
    intro h
    rw [List.contains_iff_mem] at h
    unfold stpL at h
    obtain ⟨i, hi, e⟩ := List.mem_map.1 h
    have hi' : i < y.length - 1 := by simpa using hi
    have hm : ∀ j, j < y.length → y.getD j 0 ∈ y := fun j hj => by rw [List.getD_eq_getElem?_getD, List.getElem?_eq_getElem hj]; exact List.getElem_mem _
    refine stpI_ne (h1 _ (hm i (by omega))) (h1 _ (hm (i + 1) (by omega))) (fun e2 => ?_) e
    rw [List.getD_eq_getElem?_getD, List.getD_eq_getElem?_getD, List.getElem?_eq_getElem (by omega), List.getElem?_eq_getElem (by omega)] at e2
    simp only [Option.getD_some] at e2
    have := (List.getElem_inj h2).1 e2
    omega
  rw [this]; rfl
theorem stpL_take (n : Nat) (y : List Int) (i : Nat) (hi : i + 1 < y.length) : (stpL n y).take (i + 1) = (stpL n y).take i ++ [stpI n (y.getD i 0) (y.getD (i + 1) 0)] := by
  rw [take_snoc _ 0 i (by rw [stpL_length]; omega)]
  congr 2
  unfold stpL
  rw [List.getD_eq_getElem?_getD, List.getElem?_map, List.getElem?_range (by omega)]
  rfl
theorem stpB_bad {n : Nat} {y : List Int} {i : Nat} (hi : i + 1 < y.length) (h : ((stpL n y).take i).contains (stpI n (y.getD i 0) (y.getD (i + 1) 0)) = true) : stpB n y = false := by
  unfold stpB
  rw [decide_eq_false_iff_not]
  intro hn
  have h3 := nodup_take hn (i + 1)
  rw [stpL_take n y i hi] at h3
  exact (nodup_snoc.1 h3).2 (List.contains_iff_mem.1 h)
theorem stpL_snoc (n : Nat) (y : List Int) (x : Int) (hy : 0 < y.length) : stpL n (y ++ [x]) = stpL n y ++ [stpI n (y.getD (y.length - 1) 0) x] := by
  have hl : (y ++ [x]).length - 1 = (y.length - 1) + 1 := by rw [List.length_append, List.length_singleton]; omega
  unfold stpL
  rw [hl, List.range_succ, List.map_append]
  congr 1
  · apply List.map_congr_left
    intro i hi
    have hi' : i < y.length - 1 := by simpa using hi
    rw [List.getD_eq_getElem?_getD, List.getD_eq_getElem?_getD, List.getElem?_append_left (by omega), List.getElem?_append_left (by omega)]
    rw [List.getD_eq_getElem?_getD, List.getD_eq_getElem?_getD]
  · rw [List.map_singleton]
    congr 2
    · rw [List.getD_eq_getElem?_getD, List.getD_eq_getElem?_getD, List.getElem?_append_left (by omega)]
    · rw [List.getD_eq_getElem?_getD, List.getElem?_append_right (by omega), show y.length - 1 + 1 - y.length = 0 by omega]
      rfl
theorem stpB_snoc {n : Nat} {y : List Int} {x : Int} (hy : 0 < y.length) (h : stpB n y = false) : stpB n (y ++ [x]) = false := by
  unfold stpB at *
  rw [decide_eq_false_iff_not] at *
  rw [stpL_snoc n y x hy]
  exact fun hn => h (nodup_snoc.1 hn).1
theorem stpB_none {n : Nat} {nums : List Int} : ∀ (f : Nat) {y : List Int}, 0 < y.length → stpB n y = false → (ordN nums f y).filter (stpB n) = []
  | 0, y, _, h => by simp [ordN, h]
  | f + 1, y, hy, h => by
    have e : ordN nums (f + 1) y = nums.flatMap fun x => if y.contains x = true then [] else ordN nums f (y ++ [x]) := rfl
    rw [e, List.filter_flatMap]
    rw [List.flatMap_eq_nil_iff]
    intro x _
    split
    · rfl
    · exact stpB_none f (by simp) (stpB_snoc hy h)
/-- How many orders have different steps. -/
def cntS (n f : Nat) (y : List Int) : Nat := ((ordN (seqL 0 n) f y).filter (stpB n)).length
/-- Of those whose next number is one of the first c. -/
def cntP (n f : Nat) (y : List Int) (c : Nat) : Nat := ((ordP (seqL 0 n) f y c).filter (stpB n)).length
theorem cntP_zero (n f : Nat) (y : List Int) : cntP n f y 0 = 0 := rfl
theorem cntP_all (n f : Nat) (y : List Int) : cntP n f y n = cntS n (f + 1) y := by
  have := ordP_all (seqL 0 n) f y
  rw [seqL_length] at this
  unfold cntP cntS
  rw [this]
theorem cntP_succ (n f : Nat) (y : List Int) (c : Nat) (hc : c < n) (hy : 0 < y.length) : cntP n f y (c + 1) = cntP n f y c + (if y.contains (c : Int) = false ∧ stpB n (y ++ [(c : Int)]) = true then cntS n f (y ++ [(c : Int)]) else 0) := by
  unfold cntP
  rw [ordP_succ _ _ _ _ (by rw [seqL_length]; exact hc), List.filter_append, List.length_append, seqL_getD 0 n c hc, Int.zero_add]
  congr 1
  cases h1 : y.contains (c : Int) with
  | true => simp
  | false =>
    cases h2 : stpB n (y ++ [(c : Int)]) with
    | true => rw [if_neg (by simp), if_pos ⟨rfl, rfl⟩]; rfl
    | false => rw [if_neg (by simp), if_neg (by simp), stpB_none f (by simp) h2]; rfl
theorem cntS_zero (n : Nat) (y : List Int) (h : stpB n y = true) : cntS n 0 y = 1 := by simp [cntS, ordN, h]
end Go.Abs
end

section
set_option linter.unusedSimpArgs false
set_option linter.unusedVariables false
namespace Go.Abs
open Go Go.RowKit

def bools (l : List Bool) : List Value := l.map .bool
theorem bools_length (l : List Bool) : (bools l).length = l.length := by simp [bools]
theorem bools_get? (l : List Bool) (i : Nat) (h : i < l.length) : (bools l)[i]? = some (.bool (l.getD i false)) := by simp [bools, h]
theorem bools_set (l : List Bool) (i : Nat) (x : Bool) : (bools l).set i (.bool x) = bools (l.set i x) := by simp [bools, List.map_set]
theorem zeros_bools (n : Nat) : zeros n [.bool false] = bools (List.replicate n false) := by
  unfold zeros bools
  induction n with
  | zero => rfl
  | succ n ih => rw [List.replicate_succ, List.flatten_cons, ih, List.replicate_succ]; rfl
theorem metL_get? (n : Nat) (y : List Int) (x : Int) (h : 0 ≤ x ∧ x < n) : (bools (metL n y))[x.toNat]? = some (.bool (y.contains x)) := by
  rw [bools_get? _ _ (by rw [metL_length]; omega), metL_getD n y x h]
theorem metL_put (n : Nat) (y : List Int) (x : Int) (h : 0 ≤ x ∧ x < n) : (bools (metL n y)).set x.toNat (.bool true) = bools (metL n (y ++ [x])) := by
  rw [bools_set, metL_set n y x h]
end Go.Abs
end

section
set_option linter.unusedSimpArgs false
set_option linter.unusedVariables false
set_option maxRecDepth 100000
set_option maxHeartbeats 2000000
namespace Go.Proofs.Ytgkmdfjjlghecaa.A
open Go Go.Abs Go.RowKit

theorem renumbered_c (n : Nat) (now R : List Int) (pv : Value) (H : AH) (hn : n ≤ 14) (hp : PermN n R) (hnow : NowOk n now) (hR : Rd 1 H pv n R) :
    ACalls Try.prog 103 [.agg (ints now).toArray, .int .i64 n, pv] H (is (.agg (ints (renF R now n)).toArray) H) := by
  refine acalls_up (flat_ints _) (ACalls.wf (by kernel_rfl) fun hs => acalls_of_awp [.cell 6 46] Try.func103 (by kernel_rfl) rfl rfl (Nat.le_of_ble_eq_true rfl) (by kernel_rfl) ?_)
  have hnl := hnow.1
  try simp (disch := first | omega | (simp only [ints_length, List.length_replicate, List.length_set]; done) | (simp only [ints_length, List.length_replicate, List.length_set]; omega)) only [Sall,evalOp,init,binE,binI,unE,convE,okNil,builtE,gv,TD.isAgg,resV,↓reduceIte,Nat.reduceEqDiff,reduceCtorEq,Nat.reduceAdd,Nat.reduceMul,Nat.reduceLeDiff,quietOp,blindOp,Int.reduceEq,Int.reduceLT,Int.reduceLE,Nat.reduceLT,ti2,ti3,ti4,ti45,ti46,ti38,ti25,ti30,ti22,ti32,ti24,ti95,ti172,ti169,ti165,ti166,ti65,ti143,ti87,ti110,ti56,ti101,ti5,ti159,ti62,ti161,ti51,ti57,ti9, hnl]
  have o1 := ((((Ow.refl hs).push ⟨46, true, ints now⟩).push ⟨46, true, ints (List.replicate 14 0)⟩).push ⟨46, true, ints (List.replicate 14 0)⟩).putRow 2 rfl (cs' := ints (List.replicate 14 0))
  refine awp_loop (fun z t H' => ∃ c : Nat, z = n - c ∧ c ≤ n ∧ t 11 = .int .i64 c ∧ t 10 = .int .i64 n ∧ t 2 = pv ∧ t 3 = .pointer (some ⟨H.next, 0, none⟩) ∧ t 6 = .pointer (some ⟨H.next + 1, 0, none⟩) ∧ t 7 = .pointer (some ⟨H.next + 2, 0, none⟩) ∧
    Ow H H' [.row H.next ⟨46, true, ints now⟩, .row (H.next + 1) ⟨46, true, ints (List.replicate 14 0)⟩, .row (H.next + 2) ⟨46, true, ints (renF R now c)⟩]) n ?_ ?_
  · refine ⟨0, by omega, by omega, ?_⟩
    try simp (disch := first | omega | (simp only [ints_length, List.length_replicate, List.length_set]; done) | (simp only [ints_length, List.length_replicate, List.length_set]; omega)) only [Sall,evalOp,init,binE,binI,unE,convE,okNil,builtE,gv,TD.isAgg,resV,↓reduceIte,Nat.reduceEqDiff,reduceCtorEq,Nat.reduceAdd,Nat.reduceMul,Nat.reduceLeDiff,quietOp,blindOp,Int.reduceEq,Int.reduceLT,Int.reduceLE,Nat.reduceLT,ti2,ti3,ti4,ti45,ti46,ti38,ti25,ti30,ti22,ti32,ti24,ti95,ti172,ti169,ti165,ti166,ti65,ti143,ti87,ti110,ti56,ti101,ti5,ti159,ti62,ti161,ti51,ti57,ti9, Int.natCast_zero]
    exact o1
  · rintro z t H' ⟨c, hz, hcn, h11, h10, h2, h3, h6, h7, o2⟩
    have g0 := (o2.rowAt 0 rfl).1
    have g1 := (o2.rowAt 1 rfl).1
    have g2 := (o2.rowAt 2 rfl).1
    have hrl := renF_length R now c
    try simp (disch := first | omega | (simp only [ints_length, List.length_replicate, List.length_set]; done) | (simp only [ints_length, List.length_replicate, List.length_set]; omega)) only [Sall,evalOp,init,binE,binI,unE,convE,okNil,builtE,gv,TD.isAgg,resV,↓reduceIte,Nat.reduceEqDiff,reduceCtorEq,Nat.reduceAdd,Nat.reduceMul,Nat.reduceLeDiff,quietOp,blindOp,Int.reduceEq,Int.reduceLT,Int.reduceLE,Nat.reduceLT,ti2,ti3,ti4,ti45,ti46,ti38,ti25,ti30,ti22,ti32,ti24,ti95,ti172,ti169,ti165,ti166,ti65,ti143,ti87,ti110,ti56,ti101,ti5,ti159,ti62,ti161,ti51,ti57,ti9, h11, h10]
    refine condC_dec (fun hh => ?_) (fun hh => ?_)
    · have hR' := hR.same (o2.old hs)
      obtain ⟨qi, qo, qu, qc, qr, ev, q1, q2, q3, q4⟩ := hR'.get (by omega)
      have hx := hnow.2 c (by omega)
      have hrc := hp.rng c (by omega)
      have k1 := q3 c (by omega)
      have k2 := q3 (now.getD c 0).toNat (by omega)
      have k3 := ints_get? now c (by omega)
      try simp (disch := first | omega | (simp only [ints_length, List.length_replicate, List.length_set]; done) | (simp only [ints_length, List.length_replicate, List.length_set]; omega)) only [Sall,evalOp,init,binE,binI,unE,convE,okNil,builtE,gv,TD.isAgg,resV,↓reduceIte,Nat.reduceEqDiff,reduceCtorEq,Nat.reduceAdd,Nat.reduceMul,Nat.reduceLeDiff,quietOp,blindOp,Int.reduceEq,Int.reduceLT,Int.reduceLE,Nat.reduceLT,ti2,ti3,ti4,ti45,ti46,ti38,ti25,ti30,ti22,ti32,ti24,ti95,ti172,ti169,ti165,ti166,ti65,ti143,ti87,ti110,ti56,ti101,ti5,ti159,ti62,ti161,ti51,ti57,ti9, h11, h3, h2, h7]
      refine draw_id (by kernel_rfl) (by kernel_rfl) ?_
      try simp (disch := first | omega | (simp only [ints_length, List.length_replicate, List.length_set]; done) | (simp only [ints_length, List.length_replicate, List.length_set]; omega)) only [Sall,evalOp,init,binE,binI,unE,convE,okNil,builtE,gv,TD.isAgg,resV,↓reduceIte,Nat.reduceEqDiff,reduceCtorEq,Nat.reduceAdd,Nat.reduceMul,Nat.reduceLeDiff,quietOp,blindOp,Int.reduceEq,Int.reduceLT,Int.reduceLE,Nat.reduceLT,ti2,ti3,ti4,ti45,ti46,ti38,ti25,ti30,ti22,ti32,ti24,ti95,ti172,ti169,ti165,ti166,ti65,ti143,ti87,ti110,ti56,ti101,ti5,ti159,ti62,ti161,ti51,ti57,ti9, h11, h3, h2, h7, ev, q1, k1, k2, k3, g0, g1, g2, hnl, hrl, ints_set, w64]
      (repeat refine And.intro (by omega) ?_)
      try simp (disch := first | omega | (simp only [ints_length, List.length_replicate, List.length_set]; done) | (simp only [ints_length, List.length_replicate, List.length_set]; omega)) only [Sall,evalOp,init,binE,binI,unE,convE,okNil,builtE,gv,TD.isAgg,resV,↓reduceIte,Nat.reduceEqDiff,reduceCtorEq,Nat.reduceAdd,Nat.reduceMul,Nat.reduceLeDiff,quietOp,blindOp,Int.reduceEq,Int.reduceLT,Int.reduceLE,Nat.reduceLT,ti2,ti3,ti4,ti45,ti46,ti38,ti25,ti30,ti22,ti32,ti24,ti95,ti172,ti169,ti165,ti166,ti65,ti143,ti87,ti110,ti56,ti101,ti5,ti159,ti62,ti161,ti51,ti57,ti9, h11, h10, h3, h2, h6, h7, ev, q1, k1, k2, k3, g0, g1, g2, hnl, hrl, ints_set, w64]
      have o3 := o2.putRow 2 rfl (cs' := ints (renF R now (c + 1)))
      exact ⟨.inr (.inl (by kernel_rfl)), n - (c + 1), by omega, c + 1, rfl, by omega, by omega, o3⟩
    · have hce : c = n := by omega
      subst hce
      have o3 := o2.putRow 1 rfl (cs' := ints (renF R now c))
      have hne := o2.ne (j := 1) (k := 2) rfl rfl (by omega) (fun S h => h.1) (fun S h => h.1)
      try simp (disch := first | omega | (simp only [ints_length, List.length_replicate, List.length_set]; done) | (simp only [ints_length, List.length_replicate, List.length_set]; omega)) only [Sall,evalOp,init,binE,binI,unE,convE,okNil,builtE,gv,TD.isAgg,resV,↓reduceIte,Nat.reduceEqDiff,reduceCtorEq,Nat.reduceAdd,Nat.reduceMul,Nat.reduceLeDiff,quietOp,blindOp,Int.reduceEq,Int.reduceLT,Int.reduceLE,Nat.reduceLT,ti2,ti3,ti4,ti45,ti46,ti38,ti25,ti30,ti22,ti32,ti24,ti95,ti172,ti169,ti165,ti166,ti65,ti143,ti87,ti110,ti56,ti101,ti5,ti159,ti62,ti161,ti51,ti57,ti9, h7, h6, g2, g1, hrl]
      exact o3.up

/-- What the next round's search hands its round to. -/
theorem nextIn_c (n : Nat) (v rv : Value) (now R l0 : List Int) (b0 : Bool) (sc rc oi fi : Nat) (H : AH) (hn : n ≤ 14) (hp : PermN n R) (hnow : NowOk n now) (hone : v.oneCell' = true) (hR : Rd 1 H rv n R) (hl0 : l0.length = 14)
    (hsc : H.row sc = some ⟨32, true, [.int .i64 n, v]⟩) (hrc : H.row rc = some ⟨38, true, [rv]⟩) (hoi : H.row oi = some ⟨46, true, ints l0⟩) (hfi : H.row fi = some ⟨4, true, [.bool b0]⟩) (hne : oi ≠ fi) :
    ACalls Try.prog 102 [.agg (ints now).toArray, .pointer (some ⟨sc, 0, none⟩), .pointer (some ⟨rc, 0, none⟩), .pointer (some ⟨oi, 0, none⟩), .pointer (some ⟨fi, 0, none⟩)] H (fun r H' => r = .bool false ∧ H.next ≤ H'.next ∧ Sc H' ∧ (∀ i, i < H.next → i ≠ oi → i ≠ fi → H'.row i = H.row i) ∧ H'.row oi = some ⟨46, true, ints (renF R now n)⟩ ∧ H'.row fi = some ⟨4, true, [.bool true]⟩) := by
  refine ACalls.wf (by kernel_rfl) fun hs => acalls_of_awp [.tmp 6] Try.func102 (by kernel_rfl) rfl rfl (Nat.le_of_ble_eq_true rfl) (by kernel_rfl) ?_
  have hnl := hnow.1
  have hR1 := hR.one
  have e1 : ¬ sc = H.next := by have := hs _ _ hsc; omega
  have e2 : ¬ rc = H.next := by have := hs _ _ hrc; omega
  have e3 : ¬ oi = H.next := by have := hs _ _ hoi; omega
  have e4 : ¬ fi = H.next := by have := hs _ _ hfi; omega
  have e5 : ¬ fi = oi := Ne.symm hne
  try simp (disch := first | omega | (simp only [ints_length, List.length_replicate, List.length_set]; done) | (simp only [ints_length, List.length_replicate, List.length_set]; omega)) only [Sall,evalOp,init,binE,binI,unE,convE,okNil,builtE,gv,TD.isAgg,resV,↓reduceIte,Nat.reduceEqDiff,reduceCtorEq,Nat.reduceAdd,Nat.reduceMul,Nat.reduceLeDiff,quietOp,blindOp,Int.reduceEq,Int.reduceLT,Int.reduceLE,Nat.reduceLT,ti2,ti3,ti4,ti45,ti46,ti38,ti25,ti30,ti22,ti32,ti24,ti95,ti172,ti169,ti165,ti166,ti65,ti143,ti87,ti110,ti56,ti101,ti5,ti159,ti62,ti161,ti51,ti57,ti9, hnl, hsc, hrc, hR1, hone, e1, e2]
  refine (renumbered_c n now R rv _ hn hp hnow (hR.same (Sc.le hs _).row)).to ?_
  have hrl := renF_length R now n
  refine Holds.mp ?_
  try simp (disch := first | omega | (simp only [ints_length, List.length_replicate, List.length_set]; done) | (simp only [ints_length, List.length_replicate, List.length_set]; omega)) only [Sall,evalOp,init,binE,binI,unE,convE,okNil,builtE,gv,TD.isAgg,resV,↓reduceIte,Nat.reduceEqDiff,reduceCtorEq,Nat.reduceAdd,Nat.reduceMul,Nat.reduceLeDiff,quietOp,blindOp,Int.reduceEq,Int.reduceLT,Int.reduceLE,Nat.reduceLT,ti2,ti3,ti4,ti45,ti46,ti38,ti25,ti30,ti22,ti32,ti24,ti95,ti172,ti169,ti165,ti166,ti65,ti143,ti87,ti110,ti56,ti101,ti5,ti159,ti62,ti161,ti51,ti57,ti9, hrl, hl0, hoi, hfi, e3, e4, e5, hne]
  refine ⟨by omega, ((Sc.push hs _).set _ _).set _ _, fun i i1 i2 i3 => ?_⟩
  rw [if_neg i3, if_neg i2, if_neg (by omega)]
end Go.Proofs.Ytgkmdfjjlghecaa.A
end

section
set_option linter.unusedSimpArgs false
set_option linter.unusedVariables false
namespace Go.Abs
open Go Go.RowKit

/-- x reads y out of rows in [lo, hi) other than i. -/
def Pt (lo hi i : Nat) (H : AH) (x : Value) (y : List Int) : Prop := ∀ H', (∀ z r, lo ≤ z → z < hi → ¬ z = i → H.row z = some r → H'.row z = some r) → Rd 1 H' x y.length y

def FrV (ty lo hi : Nat) (H : AH) (v : Value) (ll : List (List Int)) : Prop :=
  (ll = [] ∧ v = .slice none 0 0) ∨ ∃ i vs, lo ≤ i ∧ i < hi ∧ v = .slice (some ⟨i, 0, some 1⟩) ll.length ll.length ∧ H.row i = some ⟨ty, true, vs⟩ ∧ vs.length = ll.length ∧ ∀ j, j < ll.length → ∃ x, vs[j]? = some x ∧ Pt lo hi i H x (ll.getD j [])

theorem FrV.same {ty lo hi : Nat} {H H' : AH} {v : Value} {ll : List (List Int)} (h : FrV ty lo hi H v ll) (hs : ∀ i, lo ≤ i → i < hi → H'.row i = H.row i) : FrV ty lo hi H' v ll := by
  rcases h with h | ⟨i, vs, h1, h2, hv, hr, hl, hj⟩
  · exact .inl h
  · refine .inr ⟨i, vs, h1, h2, hv, by rw [hs i h1 h2]; exact hr, hl, fun j hjl => ?_⟩
    obtain ⟨x, hx, hp⟩ := hj j hjl
    exact ⟨x, hx, fun H2 h2 => hp H2 fun z r z1 z2 z3 hz => h2 z r z1 z2 z3 (by rw [hs z z1 z2]; exact hz)⟩
theorem FrV.wide {ty lo hi lo' hi' : Nat} {H : AH} {v : Value} {ll : List (List Int)} (h : FrV ty lo hi H v ll) (a : lo' ≤ lo) (c : hi ≤ hi') : FrV ty lo' hi' H v ll := by
  rcases h with h | ⟨i, vs, h1, h2, hv, hr, hl, hj⟩
  · exact .inl h
  · refine .inr ⟨i, vs, by omega, by omega, hv, hr, hl, fun j hjl => ?_⟩
    obtain ⟨x, hx, hp⟩ := hj j hjl
    exact ⟨x, hx, fun H2 h2 => hp H2 fun z r z1 z2 z3 hz => h2 z r (by omega) (by omega) z3 hz⟩
theorem FrV.rd {ty lo hi : Nat} {H : AH} {v : Value} {ll : List (List Int)} (h : FrV ty lo hi H v ll) : Rd2 1 H v ll := by
  rcases h with ⟨h1, h2⟩ | ⟨i, vs, h1, h2, rfl, hr, hl, hj⟩
  · exact .inl ⟨h1, none, 0, h2, fun _ => rfl⟩
  · refine .inr ⟨i, 0, some 1, _, _, rfl, hr, fun j hjl => ?_⟩
    obtain ⟨x, hx, hp⟩ := hj j hjl
    exact ⟨x, _, by simpa using hx, hp H fun _ _ _ _ _ h => h⟩
theorem Fr2.frV {ty ty' lo hi : Nat} {H : AH} {v : Value} {ll : List (List Int)} (h : Fr2 1 ty ty' lo hi H v ll) : FrV ty lo hi H v ll := by
  rcases h with h | ⟨i, vs, b, h1, h2, rfl, hr, hl, g0, gn, gi, gm, hh⟩
  · exact .inl h
  · refine .inr ⟨i, vs, h1, h2, rfl, hr, hl, fun j hjl => ?_⟩
    obtain ⟨x, m, hx, hf⟩ := hh j hjl
    have m1 := mono_of_step gm (Nat.zero_le j)
    have m2 := mono_of_step gm (show j + 1 ≤ ll.length from hjl)
    refine ⟨x, hx, fun H2 h2 => ?_⟩
    have hm := hf.lenK1
    refine hm ▸ Fr.rd (ty := ty') (lo := b j) (hi := b (j + 1)) ⟨hf.1, ?_⟩
    rcases hf.2 with h3 | ⟨q, q1, q2, q3, q4⟩
    · exact .inl h3
    · exact .inr ⟨q, q1, q2, q3, h2 q _ (by omega) (by omega) (by omega) q4⟩

theorem seg_whole (l : List Value) (n : Nat) (h : l.length = n) : seg l 0 n = l := seg_all _ _ h.symm

/-- Slices of slices, one appended to the other. -/
theorem appE_frV {P : Program} {E : TI} {ty lo hi lo' hi' : Nat} {H : AH} {v x : Value} {ll ll' : List (List Int)} {K : Value → AH → Prop} (h : FrV ty lo hi H v ll) (hx : FrV ty lo' hi' H x ll') (hE : E.size = 1) (hb : E.bytes ≤ 32768) (hn : ll.length + ll'.length ≤ 4294967296) (hlo : lo ≤ hi) (hhi : hi ≤ lo') (hhi' : hi' ≤ H.next) (hhN : hi ≤ H.next)
    (hK : ∀ v' H', H.next ≤ H'.next → (∀ i, ¬(lo ≤ i ∧ i < hi) → i < H.next → H'.row i = H.row i) → FrV ty lo H'.next H' v' (ll ++ ll') → K v' H') :
    runOut P H (slCells H E.size x fun xs m => appE E ty v xs m H) K := by
  have none0 : ll' = [] → runOut P H (appE E ty v [] 0 H) K := by
    intro e0
    rw [e0] at hK
    clear hx
    unfold appE
    rw [if_pos rfl]
    refine Holds.mp ?_
    rcases h with ⟨rfl, rfl⟩ | ⟨i, vs, h1, h2, rfl, hr, hl, hj⟩ <;> rw [holds_def]
    · simp only [asSl_nil, runOut_val]
      exact hK _ _ (Nat.le_refl _) (fun _ _ _ => rfl) (.inl ⟨rfl, rfl⟩)
    · simp only [asSl_some, runOut_need, runOut_val]
      refine ⟨(fun h => by cases h), hK _ _ (Nat.le_refl _) (fun _ _ _ => rfl) ?_⟩
      rw [List.append_nil]
      exact FrV.wide (lo := lo) (hi := hi) (.inr ⟨i, vs, h1, h2, rfl, hr, hl, hj⟩) (Nat.le_refl _) hhN
  refine Holds.mp ?_
  rcases hx with ⟨e0, rfl⟩ | ⟨i', vs', q1, q2, rfl, qr, ql, qj⟩ <;> rw [holds_def]
  · unfold slCells
    simp only [asSl_nil]
    exact none0 e0
  · unfold slCells
    simp only [asSl_some, qr, bindO_some, runOut_need, hE, Nat.mul_one, Nat.zero_add]
    refine ⟨⟨by omega, .inl rfl⟩, ?_⟩
    rw [seg_whole _ _ ql]
    by_cases h0 : ll'.length = 0
    · have e0 : ll' = [] := List.eq_nil_of_length_eq_zero h0
      have ev : vs' = [] := List.eq_nil_of_length_eq_zero (by omega)
      rw [ev, h0]
      exact none0 e0
    · have inner : ∀ (H2 : AH), H.next < H2.next → (∀ z r, lo' ≤ z → z < hi' → ¬ z = i' → H.row z = some r → H2.row z = some r) → ∀ j, j < ll'.length → ∃ y, vs'[j]? = some y ∧ Pt lo H2.next H.next H2 y (ll'.getD j []) := by
        intro H2 hn2 hs2 j hj
        obtain ⟨y, hy, hp⟩ := qj j hj
        exact ⟨y, hy, fun H3 h3 => hp H3 fun z r z1 z2 z3 hz => h3 z r (by omega) (by omega) (by omega) (hs2 z r z1 z2 z3 hz)⟩
      unfold appE
      rw [if_neg h0]
      refine Holds.mp ?_
      rcases h with ⟨rfl, rfl⟩ | ⟨i, vs, h1, h2, rfl, hr, hl, hj⟩ <;> rw [holds_def]
      · simp only [asSl_nil, runOut_need, runOut_val, hE]
        simp only [List.length_nil, Nat.zero_add] at hn
        refine ⟨⟨hn, hb⟩, hK _ _ (Nat.le_succ _) (fun i _ hi => by rw [AH.push_row, if_neg (by omega)]) ?_⟩
        refine .inr ⟨H.next, vs', by omega, by rw [AH.push_next]; omega, rfl, by rw [AH.push_row, if_pos rfl], ql, ?_⟩
        exact inner _ (by rw [AH.push_next]; omega) fun z r z1 z2 _ hz => by rw [AH.push_row, if_neg (by omega)]; exact hz
      · simp only [asSl_some, hr, bindO_some, runOut_need, Nat.zero_add, hE, Nat.mul_one]
        refine ⟨⟨hn, hb, by omega, .inl rfl⟩, ?_⟩
        rw [if_neg (by omega)]
        simp only [runOut_need, runOut_val]
        rw [seg_whole _ _ hl]
        refine ⟨by simp, hK _ _ (by rw [AH.push_next, AH.drop_next]; omega) (fun z hz hz2 => ?_) (.inr ⟨H.next, vs ++ vs', by omega, by rw [AH.push_next, AH.drop_next]; omega, ?_, ?_, ?_, fun j hjl => ?_⟩)⟩
        · rw [AH.push_row, if_neg (by rw [AH.drop_next]; omega), AH.drop_row, if_neg (by omega)]
        · rw [List.length_append]
        · rw [AH.push_row, AH.drop_next, if_pos rfl]
        · rw [List.length_append, List.length_append, hl, ql]
        · rw [List.length_append] at hjl
          have old : ∀ z r, z < H.next → ¬ z = i → H.row z = some r → ((H.drop i).push ⟨ty, true, vs ++ vs'⟩).row z = some r := fun z r z1 z2 hz => by
            rw [AH.push_row, if_neg (by rw [AH.drop_next]; omega), AH.drop_row, if_neg z2]; exact hz
          by_cases c : j < ll.length
          · obtain ⟨y, hy, hp⟩ := hj j c
            refine ⟨y, by rw [List.getElem?_append_left (by omega), hy], ?_⟩
            have e1 : (ll ++ ll').getD j [] = ll.getD j [] := by simp [List.getD_eq_getElem?_getD, List.getElem?_append_left c]
            rw [e1]
            exact fun H3 h3 => hp H3 fun z r z1 z2 z3 hz => h3 z r z1 (by rw [AH.push_next, AH.drop_next]; omega) (by omega) (old z r (by omega) z3 hz)
          · obtain ⟨y, hy, hp⟩ := inner ((H.drop i).push ⟨ty, true, vs ++ vs'⟩) (by rw [AH.push_next, AH.drop_next]; omega) (fun z r z1 z2 z3 hz => old z r (by omega) (by omega) hz) (j - ll.length) (by omega)
            refine ⟨y, by rw [List.getElem?_append_right (by omega), hl]; exact hy, ?_⟩
            have e1 : (ll ++ ll').getD j [] = ll'.getD (j - ll.length) [] := by simp [List.getD_eq_getElem?_getD, List.getElem?_append_right (show ll.length ≤ j by omega)]
            rw [e1]
            exact hp

theorem cells_of_one {v : Value} (h : v.oneCell' = true) : v.cells = #[v] := by
  cases v <;> first | rfl | (simp [Value.oneCell'] at h)
theorem noTuple_of_one {v : Value} (h : v.oneCell' = true) : noTuple v = true := by
  cases v <;> first | rfl | (simp [Value.oneCell'] at h)
end Go.Abs
end

section
set_option linter.unusedSimpArgs false
set_option linter.unusedVariables false
set_option maxRecDepth 100000
set_option maxHeartbeats 2000000
namespace Go.Proofs.Ytgkmdfjjlghecaa.A
open Go Go.Abs Go.RowKit

def rB (M : List (List Int)) (i b : Nat) : List Bool := (List.range b).map fun j => mtM M i j
def mB (n : Nat) (M : List (List Int)) (a : Nat) : List (List Bool) := (List.range a).map fun i => rB M i n
theorem rB_succ (M : List (List Int)) (i b : Nat) : rB M i (b + 1) = rB M i b ++ [mtM M i b] := by simp [rB, List.range_succ]
theorem mB_succ (n : Nat) (M : List (List Int)) (a : Nat) : mB n M (a + 1) = mB n M a ++ [rB M a n] := by simp [mB, List.range_succ]
theorem rB_length (M : List (List Int)) (i b : Nat) : (rB M i b).length = b := by simp [rB]
theorem mB_length (n : Nat) (M : List (List Int)) (a : Nat) : (mB n M a).length = a := by simp [mB]
theorem mB_get (n : Nat) (M : List (List Int)) {a i : Nat} (h : i < a) : (mB n M a).getD i [] = rB M i n := by simp [mB, List.getD_eq_getElem?_getD, h]

/-- A square of truth values is read. -/
def RdB (H : AH) (v : Value) (n : Nat) (mt : Nat → Nat → Bool) : Prop :=
  ∃ i o u c r, v = .slice (some ⟨i, o, u⟩) n c ∧ H.row i = some r ∧ ∀ a, a < n → ∃ qi qo qu qc qr, r.cells[o + a]? = some (.slice (some ⟨qi, qo, qu⟩) n qc) ∧ H.row qi = some qr ∧ ∀ b, b < n → qr.cells[qo + b]? = some (.bool (mt a b))
theorem RdB.same {H H' : AH} {v : Value} {n : Nat} {mt : Nat → Nat → Bool} (h : RdB H v n mt) (hs : ∀ i r, H.row i = some r → H'.row i = some r) : RdB H' v n mt := by
  obtain ⟨i, o, u, c, r, hv, hr, ha⟩ := h
  refine ⟨i, o, u, c, r, hv, hs _ _ hr, fun a han => ?_⟩
  obtain ⟨qi, qo, qu, qc, qr, h1, h2, h3⟩ := ha a han
  exact ⟨qi, qo, qu, qc, qr, h1, hs _ _ h2, h3⟩
theorem RdB.one {H : AH} {v : Value} {n : Nat} {mt : Nat → Nat → Bool} (h : RdB H v n mt) : v.oneCell' = true := by
  obtain ⟨i, o, u, c, r, rfl, _⟩ := h; rfl
theorem Ow.rdB {B H : AH} {L : List Th} (h : Ow B H L) (k : Nat) {ty ty' : TypeId} {v : Value} {n : Nat} {M : List (List Int)} (hn : 0 < n) (hk : L[k]? = some (.sl2 Value.bool ty ty' v (mB n M n))) : RdB H v n (mtM M) := by
  have hl := mB_length n M n
  obtain ⟨i, vs, x, _, _, hv, hr, hvl, _⟩ := h.get2 k hk (j := 0) (by omega)
  rw [hl] at hv hvl
  refine ⟨i, 0, some 1, n, _, hv, hr, fun a ha => ?_⟩
  obtain ⟨i', vs', x', _, _, hv', hr', _, hx, _, hq⟩ := h.get2 k hk (j := a) (by omega)
  rw [hl] at hv'
  rw [hv] at hv'
  cases hv'
  rw [hr] at hr'
  cases hr'
  rw [mB_get n M ha, rB_length] at hq
  obtain ⟨q, _, _, _, rfl, hqr⟩ := hq hn
  refine ⟨q, 0, some 1, n, _, by rw [Nat.zero_add]; exact hx, hqr, fun b hb => ?_⟩
  rw [Nat.zero_add]
  simp [rB, hb]

theorem l02Met_c (n : Nat) (v : Value) (k : Nat) (l : List Int) (H : AH) (hb : schedB n k l = true) (hv : Rd 14 H v k l) (hk : k ≤ 4294967296) :
    ACalls Try.prog 95 [.agg #[.int .i64 n, v]] H (fun u H' => Ow H H' [.sl2 Value.bool 87 4 u (mB n (meetM n l k) n)]) := by
  refine ACalls.wf (by kernel_rfl) fun hs => acalls_of_awp [.tmp 2] Try.func95 (by kernel_rfl) rfl rfl (Nat.le_of_ble_eq_true rfl) (by kernel_rfl) ?_
  obtain ⟨hn, _, _⟩ := schedB_at hb
  have hone := hv.one
  try simp (disch := first | omega | (simp only [ints_length, List.length_replicate, List.length_set]; done) | (simp only [ints_length, List.length_replicate, List.length_set]; omega)) only [Sall,evalOp,init,binE,binI,unE,convE,okNil,builtE,gv,TD.isAgg,resV,↓reduceIte,Nat.reduceEqDiff,reduceCtorEq,Nat.reduceAdd,Nat.reduceMul,Nat.reduceLeDiff,quietOp,blindOp,Int.reduceEq,Int.reduceLT,Int.reduceLE,Nat.reduceLT,ti2,ti3,ti4,ti45,ti46,ti38,ti25,ti30,ti22,ti32,ti24,ti95,ti172,ti169,ti165,ti166,ti65,ti143,ti87,ti110,ti56,ti101,ti5,ti159,ti62,ti161,ti51,ti57,ti9, hone]
  have o1 := (Ow.refl hs).push ⟨32, true, [.int .i64 n, v]⟩
  revert o1
  generalize H.push ⟨32, true, [.int .i64 n, v]⟩ = H1
  intro o1
  have g0 := (o1.rowAt 0 rfl).1
  try simp (disch := first | omega | (simp only [ints_length, List.length_replicate, List.length_set]; done) | (simp only [ints_length, List.length_replicate, List.length_set]; omega)) only [Sall,evalOp,init,binE,binI,unE,convE,okNil,builtE,gv,TD.isAgg,resV,↓reduceIte,Nat.reduceEqDiff,reduceCtorEq,Nat.reduceAdd,Nat.reduceMul,Nat.reduceLeDiff,quietOp,blindOp,Int.reduceEq,Int.reduceLT,Int.reduceLE,Nat.reduceLT,ti2,ti3,ti4,ti45,ti46,ti38,ti25,ti30,ti22,ti32,ti24,ti95,ti172,ti169,ti165,ti166,ti65,ti143,ti87,ti110,ti56,ti101,ti5,ti159,ti62,ti161,ti51,ti57,ti9, hone, g0]
  refine (l01Meetings_c n v k l H1 hb (hv.same (o1.old hs)) hk).sc.mono ?_
  rintro tv H2 ⟨⟨up2, hf⟩, sc2⟩
  have o2 := o1.call (Ow.of_fr2 up2 sc2 hf)
  have htv := hf.rd.one
  have hsq := meetM_sq n l k
  have hml : (meetM n l k).length = n := hsq.1
  have hmr := hsq.2
  clear hf up2
  generalize meetM n l k = M at o2 hml hmr hsq ⊢
  refine Holds.mp ?_
  try simp (disch := first | omega | (simp only [ints_length, List.length_replicate, List.length_set]; done) | (simp only [ints_length, List.length_replicate, List.length_set]; omega)) only [Sall,evalOp,init,binE,binI,unE,convE,okNil,builtE,gv,TD.isAgg,resV,↓reduceIte,Nat.reduceEqDiff,reduceCtorEq,Nat.reduceAdd,Nat.reduceMul,Nat.reduceLeDiff,quietOp,blindOp,Int.reduceEq,Int.reduceLT,Int.reduceLE,Nat.reduceLT,ti2,ti3,ti4,ti45,ti46,ti38,ti25,ti30,ti22,ti32,ti24,ti95,ti172,ti169,ti165,ti166,ti65,ti143,ti87,ti110,ti56,ti101,ti5,ti159,ti62,ti161,ti51,ti57,ti9, htv, zeros_zero]
  have o3 := o2.pushSl2 Value.bool 87 4
  refine awp_loop (fun z t H' => ∃ (a : Nat) (u : Value), z = n - a ∧ a ≤ n ∧ t 5 = .int .i64 a ∧ t 3 = tv ∧ t 4 = u ∧ Ow H H' [.row H.next ⟨32, true, [.int .i64 n, v]⟩, .sl2 (Value.int .i64) 38 2 tv M, .sl2 Value.bool 87 4 u (mB n M a)]) n ?_ ?_
  · refine ⟨0, .slice (some ⟨H2.next, 0, some 1⟩) 0 0, by omega, by omega, ?_⟩
    try simp (disch := first | omega | (simp only [ints_length, List.length_replicate, List.length_set]; done) | (simp only [ints_length, List.length_replicate, List.length_set]; omega)) only [Sall,evalOp,init,binE,binI,unE,convE,okNil,builtE,gv,TD.isAgg,resV,↓reduceIte,Nat.reduceEqDiff,reduceCtorEq,Nat.reduceAdd,Nat.reduceMul,Nat.reduceLeDiff,quietOp,blindOp,Int.reduceEq,Int.reduceLT,Int.reduceLE,Nat.reduceLT,ti2,ti3,ti4,ti45,ti46,ti38,ti25,ti30,ti22,ti32,ti24,ti95,ti172,ti169,ti165,ti166,ti65,ti143,ti87,ti110,ti56,ti101,ti5,ti159,ti62,ti161,ti51,ti57,ti9, Int.natCast_zero]
    exact o3
  · rintro z t H' ⟨a, u, hz, han, h5, h3, h4, o4⟩
    have hln := (o4.rd2 1 rfl).len
    try simp (disch := first | omega | (simp only [ints_length, List.length_replicate, List.length_set]; done) | (simp only [ints_length, List.length_replicate, List.length_set]; omega)) only [Sall,evalOp,init,binE,binI,unE,convE,okNil,builtE,gv,TD.isAgg,resV,↓reduceIte,Nat.reduceEqDiff,reduceCtorEq,Nat.reduceAdd,Nat.reduceMul,Nat.reduceLeDiff,quietOp,blindOp,Int.reduceEq,Int.reduceLT,Int.reduceLE,Nat.reduceLT,ti2,ti3,ti4,ti45,ti46,ti38,ti25,ti30,ti22,ti32,ti24,ti95,ti172,ti169,ti165,ti166,ti65,ti143,ti87,ti110,ti56,ti101,ti5,ti159,ti62,ti161,ti51,ti57,ti9, h5, h3, builtE, hln, hml]
    refine condC_dec (fun hh => ?_) (fun hh => ?_)
    · try simp (disch := first | omega | (simp only [ints_length, List.length_replicate, List.length_set]; done) | (simp only [ints_length, List.length_replicate, List.length_set]; omega)) only [Sall,evalOp,init,binE,binI,unE,convE,okNil,builtE,gv,TD.isAgg,resV,↓reduceIte,Nat.reduceEqDiff,reduceCtorEq,Nat.reduceAdd,Nat.reduceMul,Nat.reduceLeDiff,quietOp,blindOp,Int.reduceEq,Int.reduceLT,Int.reduceLE,Nat.reduceLT,ti2,ti3,ti4,ti45,ti46,ti38,ti25,ti30,ti22,ti32,ti24,ti95,ti172,ti169,ti165,ti166,ti65,ti143,ti87,ti110,ti56,ti101,ti5,ti159,ti62,ti161,ti51,ti57,ti9, h5, h3, h4, zeros_zero]
      have o5 := o4.pushSl (k := 1) (n := 0) (ty := 4) (vs := bools (rB M a 0)) rfl
      refine awp_loop (fun z t H' => ∃ (b : Nat) (w : Value), z = n - b ∧ b ≤ n ∧ t 7 = .int .i64 b ∧ t 5 = .int .i64 a ∧ t 3 = tv ∧ t 4 = u ∧ t 6 = w ∧ Ow H H' [.row H.next ⟨32, true, [.int .i64 n, v]⟩, .sl2 (Value.int .i64) 38 2 tv M, .sl2 Value.bool 87 4 u (mB n M a), .sl 1 4 w b (bools (rB M a b))]) n ?_ ?_
      · refine ⟨0, .slice (some ⟨H'.next, 0, some 1⟩) 0 0, by omega, by omega, ?_⟩
        try simp (disch := first | omega | (simp only [ints_length, List.length_replicate, List.length_set]; done) | (simp only [ints_length, List.length_replicate, List.length_set]; omega)) only [Sall,evalOp,init,binE,binI,unE,convE,okNil,builtE,gv,TD.isAgg,resV,↓reduceIte,Nat.reduceEqDiff,reduceCtorEq,Nat.reduceAdd,Nat.reduceMul,Nat.reduceLeDiff,quietOp,blindOp,Int.reduceEq,Int.reduceLT,Int.reduceLE,Nat.reduceLT,ti2,ti3,ti4,ti45,ti46,ti38,ti25,ti30,ti22,ti32,ti24,ti95,ti172,ti169,ti165,ti166,ti65,ti143,ti87,ti110,ti56,ti101,ti5,ti159,ti62,ti161,ti51,ti57,ti9, Int.natCast_zero, h5, h3, h4]
        exact o5
      · rintro z t H5 ⟨b, w, hz, hbn, h7, h5, h3, h4, h6, o6⟩
        have hln := (o6.rd2 1 rfl).len
        try simp (disch := first | omega | (simp only [ints_length, List.length_replicate, List.length_set]; done) | (simp only [ints_length, List.length_replicate, List.length_set]; omega)) only [Sall,evalOp,init,binE,binI,unE,convE,okNil,builtE,gv,TD.isAgg,resV,↓reduceIte,Nat.reduceEqDiff,reduceCtorEq,Nat.reduceAdd,Nat.reduceMul,Nat.reduceLeDiff,quietOp,blindOp,Int.reduceEq,Int.reduceLT,Int.reduceLE,Nat.reduceLT,ti2,ti3,ti4,ti45,ti46,ti38,ti25,ti30,ti22,ti32,ti24,ti95,ti172,ti169,ti165,ti166,ti65,ti143,ti87,ti110,ti56,ti101,ti5,ti159,ti62,ti161,ti51,ti57,ti9, h7, h3, builtE, hln, hml]
        refine condC_dec (fun hh => ?_) (fun hh => ?_)
        · obtain ⟨i, vs, x, _, _, ev, hr, hvl, hx, hx1, hq⟩ := o6.get2 1 rfl (j := a) (by omega)
          rw [hml] at ev
          rw [hmr a (by omega)] at hq
          obtain ⟨q, _, _, hqi, rfl, hqr⟩ := hq (by omega)
          have hqr' : H5.row q = some ⟨2, true, ints (M.getD a [])⟩ := hqr
          have k1 := ints_get? (M.getD a []) b (by rw [hmr a (by omega)]; omega)
          have zz : zeros 1 [.bool false] = [.bool false] := rfl
          have en : ¬ q = H5.next := by omega
          try simp (disch := first | omega | (simp only [ints_length, List.length_replicate, List.length_set]; done) | (simp only [ints_length, List.length_replicate, List.length_set]; omega)) only [Sall,evalOp,init,binE,binI,unE,convE,okNil,builtE,gv,TD.isAgg,resV,↓reduceIte,Nat.reduceEqDiff,reduceCtorEq,Nat.reduceAdd,Nat.reduceMul,Nat.reduceLeDiff,quietOp,blindOp,Int.reduceEq,Int.reduceLT,Int.reduceLE,Nat.reduceLT,ti2,ti3,ti4,ti45,ti46,ti38,ti25,ti30,ti22,ti32,ti24,ti95,ti172,ti169,ti165,ti166,ti65,ti143,ti87,ti110,ti56,ti101,ti5,ti159,ti62,ti161,ti51,ti57,ti9, h7, h5, h3, h4, h6, ev, hr, hx, hqr', k1, zz, slCells, hvl]
          (repeat refine And.intro (by omega) ?_)
          try simp (disch := first | omega | (simp only [ints_length, List.length_replicate, List.length_set]; done) | (simp only [ints_length, List.length_replicate, List.length_set]; omega)) only [Sall,evalOp,init,binE,binI,unE,convE,okNil,builtE,gv,TD.isAgg,resV,↓reduceIte,Nat.reduceEqDiff,reduceCtorEq,Nat.reduceAdd,Nat.reduceMul,Nat.reduceLeDiff,quietOp,blindOp,Int.reduceEq,Int.reduceLT,Int.reduceLE,Nat.reduceLT,ti2,ti3,ti4,ti45,ti46,ti38,ti25,ti30,ti22,ti32,ti24,ti95,ti172,ti169,ti165,ti166,ti65,ti143,ti87,ti110,ti56,ti101,ti5,ti159,ti62,ti161,ti51,ti57,ti9, h7, h5, h3, h4, h6, ev, hr, hx, hqr', k1, zz, slCells, hvl]
          refine (o6.tmp ⟨4, true, [.bool (decide (0 < (M.getD a []).getD b 0))]⟩).app 3 rfl rfl (by omega) rfl (by omega) (by decide) (by omega) ?_
          intro v' H6 n6 o7
          try simp (disch := first | omega | (simp only [ints_length, List.length_replicate, List.length_set]; done) | (simp only [ints_length, List.length_replicate, List.length_set]; omega)) only [Sall,evalOp,init,binE,binI,unE,convE,okNil,builtE,gv,TD.isAgg,resV,↓reduceIte,Nat.reduceEqDiff,reduceCtorEq,Nat.reduceAdd,Nat.reduceMul,Nat.reduceLeDiff,quietOp,blindOp,Int.reduceEq,Int.reduceLT,Int.reduceLE,Nat.reduceLT,ti2,ti3,ti4,ti45,ti46,ti38,ti25,ti30,ti22,ti32,ti24,ti95,ti172,ti169,ti165,ti166,ti65,ti143,ti87,ti110,ti56,ti101,ti5,ti159,ti62,ti161,ti51,ti57,ti9, h7, h5, h3, h4, w64]
          exact ⟨n - (b + 1), by omega, b + 1, v', rfl, by omega, by omega, rfl, by rw [rB_succ, show bools (rB M a b ++ [mtM M a b]) = bools (rB M a b) ++ [.bool (mtM M a b)] by simp [bools]]; exact o7⟩
        · have hbe : b = n := by omega
          subst hbe
          have hw := o6.one 3 rfl
          have zz : zeros 1 [.slice none 0 0] = [.slice none 0 0] := rfl
          have hml2 := mB_length b M a
          have hw1 := cells_of_one hw
          have hw2 := noTuple_of_one hw
          have hw3 := fun r => ok_one (r := r) hw
          try simp (disch := first | omega | (simp only [ints_length, List.length_replicate, List.length_set]; done) | (simp only [ints_length, List.length_replicate, List.length_set]; omega)) only [Sall,evalOp,init,binE,binI,unE,convE,okNil,builtE,gv,TD.isAgg,resV,↓reduceIte,Nat.reduceEqDiff,reduceCtorEq,Nat.reduceAdd,Nat.reduceMul,Nat.reduceLeDiff,quietOp,blindOp,Int.reduceEq,Int.reduceLT,Int.reduceLE,Nat.reduceLT,ti2,ti3,ti4,ti45,ti46,ti38,ti25,ti30,ti22,ti32,ti24,ti95,ti172,ti169,ti165,ti166,ti65,ti143,ti87,ti110,ti56,ti101,ti5,ti159,ti62,ti161,ti51,ti57,ti9, h5, h3, h4, h6, hw, hw1, hw2, hw3, zz, slCells]
          (repeat refine And.intro (by omega) ?_)
          refine (o6.tmp ⟨87, true, [w]⟩).app2 (l := rB M a b) 2 3 rfl rfl (by omega) rfl (by decide) (by omega) ?_
          intro v' H6 n6 o7
          try simp (disch := first | omega | (simp only [ints_length, List.length_replicate, List.length_set]; done) | (simp only [ints_length, List.length_replicate, List.length_set]; omega)) only [Sall,evalOp,init,binE,binI,unE,convE,okNil,builtE,gv,TD.isAgg,resV,↓reduceIte,Nat.reduceEqDiff,reduceCtorEq,Nat.reduceAdd,Nat.reduceMul,Nat.reduceLeDiff,quietOp,blindOp,Int.reduceEq,Int.reduceLT,Int.reduceLE,Nat.reduceLT,ti2,ti3,ti4,ti45,ti46,ti38,ti25,ti30,ti22,ti32,ti24,ti95,ti172,ti169,ti165,ti166,ti65,ti143,ti87,ti110,ti56,ti101,ti5,ti159,ti62,ti161,ti51,ti57,ti9, h5, h3, w64]
          have o8 : Ow H H6 ([.row H.next ⟨32, true, [.int .i64 b, v]⟩, .sl2 (Value.int .i64) 38 2 tv M, .sl2 Value.bool 87 4 v' (mB b M a ++ [rB M a b])] ++ [.no]) := o7
          exact ⟨b - (a + 1), by omega, a + 1, v', rfl, by omega, by omega, rfl, by rw [mB_succ]; exact o8.left⟩
    · have hae : a = n := by omega
      subst hae
      try simp (disch := first | omega | (simp only [ints_length, List.length_replicate, List.length_set]; done) | (simp only [ints_length, List.length_replicate, List.length_set]; omega)) only [Sall,evalOp,init,binE,binI,unE,convE,okNil,builtE,gv,TD.isAgg,resV,↓reduceIte,Nat.reduceEqDiff,reduceCtorEq,Nat.reduceAdd,Nat.reduceMul,Nat.reduceLeDiff,quietOp,blindOp,Int.reduceEq,Int.reduceLT,Int.reduceLE,Nat.reduceLT,ti2,ti3,ti4,ti45,ti46,ti38,ti25,ti30,ti22,ti32,ti24,ti95,ti172,ti169,ti165,ti166,ti65,ti143,ti87,ti110,ti56,ti101,ti5,ti159,ti62,ti161,ti51,ti57,ti9, h4]
      exact o4.sub (fun _ => 2) (fun j hj => by obtain rfl : j = 0 := by simp at hj; omega
                                                rfl) fun i j hi hj _ => by simp at hi hj; omega

theorem fstF_skip (now : List Int) (n : Nat) : ∀ a, a ≤ n → (∀ j, j < a → now.getD j 0 ≠ (j : Int)) → fstF now n 0 = fstF now (n - a) a
  | 0, _, _ => rfl
  | a + 1, h, hn => by rw [fstF_skip now n a (by omega) fun j hj => hn j (by omega), fstF_step (by omega) (hn a (by omega))]

/-- The first of the rounds, renumbered. -/
def headR (n : Nat) (R : List Int) (ls : List (List Int)) : List Int := match ls.head? with | some r => renF R r n | none => List.replicate 14 0
def headB (ls : List (List Int)) : Bool := ls.head?.isSome
theorem headR_length (n : Nat) (R : List Int) (ls : List (List Int)) : (headR n R ls).length = 14 := by
  unfold headR; split
  · exact renF_length _ _ _
  · rfl
theorem headR_congr {n : Nat} {R : List Int} {xs ys : List (List Int)} (h : xs.head? = ys.head?) : headR n R xs = headR n R ys ∧ headB xs = headB ys := by
  unfold headR headB; rw [h]; exact ⟨rfl, rfl⟩
theorem head_app (xs ys : List (List Int)) : (xs ++ ys).head? = if xs.head?.isSome = true then xs.head? else ys.head? := by
  cases xs <;> rfl

theorem l10Next_c (n : Nat) (hn : 0 < n ∧ n ≤ 14) (mt0 : Nat → Nat → Bool) (mv rv : Value) (R : List Int) (hp : PermN n R) :
    ∀ (f : Nat) (now : List Int) (a : Nat) (H : AH), NowOk n now → a ≤ n → (∀ j, j < a → now.getD j 0 ≠ (j : Int)) → n - a < f → RdB H mv n mt0 → Rd 1 H rv n R →
      ACalls Try.prog 94 [mv, rv, .agg (ints (renF R now n)).toArray] H (is (.tuple #[.agg (ints (headR n R (matF n (fun i k => mt0 (R.getD i 0).toNat (R.getD k 0).toNat) f now a))).toArray, .bool (headB (matF n (fun i k => mt0 (R.getD i 0).toNat (R.getD k 0).toNat) f now a))]) H) := by
  intro f
  induction f with
  | zero => intro now a H _ _ _ h; omega
  | succ f ih =>
    intro now a H hnow han hmet hf hM hR
    have hfl : flat (.tuple #[.agg (ints (headR n R (matF n (fun i k => mt0 (R.getD i 0).toNat (R.getD k 0).toNat) (f + 1) now a))).toArray, .bool (headB (matF n (fun i k => mt0 (R.getD i 0).toNat (R.getD k 0).toNat) (f + 1) now a))]) = true := by
      have := flat_ints (headR n R (matF n (fun i k => mt0 (R.getD i 0).toNat (R.getD k 0).toNat) (f + 1) now a))
      simp only [flat, List.all_toArray, List.all_cons, List.all_nil, Bool.and_true, this, Abs.scal]
    refine acalls_up hfl (ACalls.wf (by kernel_rfl) fun hs => acalls_of_awp [.cell 6 46, .tmp 7] Try.func94 (by kernel_rfl) rfl rfl (Nat.le_of_ble_eq_true rfl) (by kernel_rfl) ?_)
    clear hfl
    have hrl := renF_length R now n
    have hRl := hR.len
    have hsk := fstF_skip now n a han hmet
    obtain ⟨mt, hmt⟩ : ∃ mt, mt = fun i k => mt0 (R.getD i 0).toNat (R.getD k 0).toNat := ⟨_, rfl⟩
    rw [← hmt] at ih ⊢
    obtain ⟨L0, hL0⟩ : ∃ L0, L0 = renF R now n := ⟨_, rfl⟩
    have hiff : ∀ j, j < n → (L0.getD (R.getD j 0).toNat 0 = R.getD j 0 ↔ now.getD j 0 = (j : Int)) := fun j hj => by rw [hL0]; exact ren_iff hn.2 hp hnow hj
    have hmeet : ∀ i k, i < n → k < n → i ≠ k → (L0.set (R.getD i 0).toNat (R.getD k 0)).set (R.getD k 0).toNat (R.getD i 0) = renF R (meetN now i k) n := fun i k hi hk hik => by rw [hL0]; exact ren_meet hn.2 hp hnow hi hk hik
    have hL0' : L0 = renF R now n := hL0
    rw [← hL0] at hrl ⊢
    clear hL0
    try simp (disch := first | omega | (simp only [ints_length, List.length_replicate, List.length_set]; done) | (simp only [ints_length, List.length_replicate, List.length_set]; omega)) only [Sall,evalOp,init,binE,binI,unE,convE,okNil,builtE,gv,TD.isAgg,resV,↓reduceIte,Nat.reduceEqDiff,reduceCtorEq,Nat.reduceAdd,Nat.reduceMul,Nat.reduceLeDiff,quietOp,blindOp,Int.reduceEq,Int.reduceLT,Int.reduceLE,Nat.reduceLT,ti2,ti3,ti4,ti45,ti46,ti38,ti25,ti30,ti22,ti32,ti24,ti95,ti172,ti169,ti165,ti166,ti65,ti143,ti87,ti110,ti56,ti101,ti5,ti159,ti62,ti161,ti51,ti57,ti9, hrl]
    have o1 := ((Ow.refl hs).push ⟨46, true, ints L0⟩).push ⟨46, true, ints (List.replicate 14 0)⟩
    refine awp_loop (fun z t H' => ∃ c : Nat, z = n - c ∧ c ≤ n ∧ t 8 = .int .i64 c ∧ t 0 = mv ∧ t 1 = rv ∧ t 5 = .pointer (some ⟨H.next, 0, none⟩) ∧ t 6 = .pointer (some ⟨H.next + 1, 0, none⟩) ∧ fstF now n 0 = fstF now (n - c) c ∧
      Ow H H' [.row H.next ⟨46, true, ints L0⟩, .row (H.next + 1) ⟨46, true, ints (List.replicate 14 0)⟩]) n ?_ ?_
    · refine ⟨0, by omega, by omega, ?_⟩
      try simp (disch := first | omega | (simp only [ints_length, List.length_replicate, List.length_set]; done) | (simp only [ints_length, List.length_replicate, List.length_set]; omega)) only [Sall,evalOp,init,binE,binI,unE,convE,okNil,builtE,gv,TD.isAgg,resV,↓reduceIte,Nat.reduceEqDiff,reduceCtorEq,Nat.reduceAdd,Nat.reduceMul,Nat.reduceLeDiff,quietOp,blindOp,Int.reduceEq,Int.reduceLT,Int.reduceLE,Nat.reduceLT,ti2,ti3,ti4,ti45,ti46,ti38,ti25,ti30,ti22,ti32,ti24,ti95,ti172,ti169,ti165,ti166,ti65,ti143,ti87,ti110,ti56,ti101,ti5,ti159,ti62,ti161,ti51,ti57,ti9, Int.natCast_zero]
      exact ⟨rfl, o1⟩
    · rintro z t H' ⟨c, hz, hcn, h8, h0, h1, h5, h6, hfst, o2⟩
      have g0 := (o2.rowAt 0 rfl).1
      have hR' := hR.same (o2.old hs)
      obtain ⟨qi, qo, qu, qc, qr, ev, q1, q2, q3, q4⟩ := hR'.get (by omega)
      by_cases c1 : c < n
      · have c1' : decide ((c : Int) < (n : Int)) = true := decide_eq_true (by omega)
        have e3 : ((c : Int) == (n : Int)) = false := beq_eq_false_iff_ne.2 (by omega)
        have hrc := hp.rng c c1
        have k1 := q3 c (by omega)
        have k2 := ints_get? L0 (R.getD c 0).toNat (by omega)
        by_cases c2 : now.getD c 0 = (c : Int)
        · have e2 : (L0.getD (R.getD c 0).toNat 0 != R.getD c 0) = false := by rw [(hiff c c1).2 c2]; exact bne_self_eq_false _
          have hA : fstF now (n - a) a = c := hsk.symm.trans (hfst.trans (fstF_here c1 c2))
          have hac := (fstF_ge now (n - a) a).1
          rw [hA] at hac
          have hm : matF n mt (f + 1) now a = (List.range' (c + 1) (n - (c + 1))).flatMap fun b => matB (matF n mt f) mt now c b := by
            show (if _ then _ else _) = _
            rw [hA, if_neg (by omega)]
          rw [hm]
          obtain ⟨F, hF⟩ : ∃ F, F = fun b => matB (matF n mt f) mt now c b := ⟨_, rfl⟩
          rw [← hF]
          try simp (disch := first | omega | (simp only [ints_length, List.length_replicate, List.length_set]; done) | (simp only [ints_length, List.length_replicate, List.length_set]; omega)) only [Sall,evalOp,init,binE,binI,unE,convE,okNil,builtE,gv,TD.isAgg,resV,↓reduceIte,Nat.reduceEqDiff,reduceCtorEq,Nat.reduceAdd,Nat.reduceMul,Nat.reduceLeDiff,quietOp,blindOp,Int.reduceEq,Int.reduceLT,Int.reduceLE,Nat.reduceLT,ti2,ti3,ti4,ti45,ti46,ti38,ti25,ti30,ti22,ti32,ti24,ti95,ti172,ti169,ti165,ti166,ti65,ti143,ti87,ti110,ti56,ti101,ti5,ti159,ti62,ti161,ti51,ti57,ti9, h8, h1, builtE, hRl, c1', ev, q1, k1, h5, g0, k2, e2, hrl]
          refine draw_id (by kernel_rfl) (by kernel_rfl) ?_
          try simp (disch := first | omega | (simp only [ints_length, List.length_replicate, List.length_set]; done) | (simp only [ints_length, List.length_replicate, List.length_set]; omega)) only [Sall,evalOp,init,binE,binI,unE,convE,okNil,builtE,gv,TD.isAgg,resV,↓reduceIte,Nat.reduceEqDiff,reduceCtorEq,Nat.reduceAdd,Nat.reduceMul,Nat.reduceLeDiff,quietOp,blindOp,Int.reduceEq,Int.reduceLT,Int.reduceLE,Nat.reduceLT,ti2,ti3,ti4,ti45,ti46,ti38,ti25,ti30,ti22,ti32,ti24,ti95,ti172,ti169,ti165,ti166,ti65,ti143,ti87,ti110,ti56,ti101,ti5,ti159,ti62,ti161,ti51,ti57,ti9, h8, h1, builtE, hRl, c1', ev, q1, k1, h5, g0, k2, e2, hrl]
          (repeat refine And.intro (by omega) ?_)
          try simp (disch := first | omega | (simp only [ints_length, List.length_replicate, List.length_set]; done) | (simp only [ints_length, List.length_replicate, List.length_set]; omega)) only [Sall,evalOp,init,binE,binI,unE,convE,okNil,builtE,gv,TD.isAgg,resV,↓reduceIte,Nat.reduceEqDiff,reduceCtorEq,Nat.reduceAdd,Nat.reduceMul,Nat.reduceLeDiff,quietOp,blindOp,Int.reduceEq,Int.reduceLT,Int.reduceLE,Nat.reduceLT,ti2,ti3,ti4,ti45,ti46,ti38,ti25,ti30,ti22,ti32,ti24,ti95,ti172,ti169,ti165,ti166,ti65,ti143,ti87,ti110,ti56,ti101,ti5,ti159,ti62,ti161,ti51,ti57,ti9, h8, h1, builtE, hRl, c1', e3, ev, q1, k1, h5, g0, k2, e2, hrl]
          refine ⟨⟨by omega, by omega⟩, ?_⟩
          refine awp_loop (fun z t H' => ∃ k : Nat, z = n - k ∧ c + 1 ≤ k ∧ k ≤ n ∧ t 10 = .int .i64 k ∧ t 9 = .int .i64 (R.getD c 0) ∧ t 0 = mv ∧ t 1 = rv ∧ t 5 = .pointer (some ⟨H.next, 0, none⟩) ∧ t 6 = .pointer (some ⟨H.next + 1, 0, none⟩) ∧
            ((List.range' (c + 1) (n - (c + 1))).flatMap F).head? = ((List.range' k (n - k)).flatMap F).head? ∧
            Ow H H' [.row H.next ⟨46, true, ints L0⟩, .row (H.next + 1) ⟨46, true, ints (List.replicate 14 0)⟩]) (n - (c + 1)) ?_ ?_
          · refine ⟨c + 1, by omega, by omega, by omega, ?_⟩
            try simp (disch := first | omega | (simp only [ints_length, List.length_replicate, List.length_set]; done) | (simp only [ints_length, List.length_replicate, List.length_set]; omega)) only [Sall,evalOp,init,binE,binI,unE,convE,okNil,builtE,gv,TD.isAgg,resV,↓reduceIte,Nat.reduceEqDiff,reduceCtorEq,Nat.reduceAdd,Nat.reduceMul,Nat.reduceLeDiff,quietOp,blindOp,Int.reduceEq,Int.reduceLT,Int.reduceLE,Nat.reduceLT,ti2,ti3,ti4,ti45,ti46,ti38,ti25,ti30,ti22,ti32,ti24,ti95,ti172,ti169,ti165,ti166,ti65,ti143,ti87,ti110,ti56,ti101,ti5,ti159,ti62,ti161,ti51,ti57,ti9, h0, h1, h5, h6, w64]
            exact ⟨rfl, o2⟩
          · rintro z t H2 ⟨k, hz, hck, hkn, h10, h9, h0, h1, h5, h6, hEq, o3⟩
            obtain ⟨hE1, hE2⟩ := headR_congr (n := n) (R := R) hEq
            rw [hE1, hE2]
            have g0 := (o3.rowAt 0 rfl).1
            have g1 := (o3.rowAt 1 rfl).1
            have b0 := (o3.rowAt 0 rfl).2
            have b1 := (o3.rowAt 1 rfl).2
            have hR' := hR.same (o3.old hs)
            have hRl' := hR'.len
            obtain ⟨qi, qo, qu, qc, qr, ev, q1, q2, q3, q4⟩ := hR'.get (by omega)
            by_cases c3 : k < n
            · have c3' : decide ((k : Int) < (n : Int)) = true := decide_eq_true (by omega)
              have hrk := hp.rng k c3
              have k1 := q3 k (by omega)
              have k2 := ints_get? L0 (R.getD k 0).toNat (by omega)
              have hFb : F k = matB (matF n mt f) mt now c k := by rw [hF]
              rw [show n - k = (n - (k + 1)) + 1 by omega, List.range'_succ, List.flatMap_cons] at hEq ⊢
              by_cases c4 : now.getD k 0 = (k : Int)
              · have e4 : (L0.getD (R.getD k 0).toNat 0 != R.getD k 0) = false := by rw [(hiff k c3).2 c4]; exact bne_self_eq_false _
                obtain ⟨mi, mo, mu, mc, mr, em, mr1, mr2⟩ := hM.same (o3.old hs)
                obtain ⟨wi, wo, wu, wc, wr, wr1, wr2, wr3⟩ := mr2 (R.getD c 0).toNat (by omega)
                have wr4 := wr3 (R.getD k 0).toNat (by omega)
                obtain hm5 | hm5 : mt0 (R.getD c 0).toNat (R.getD k 0).toNat = true ∨ mt0 (R.getD c 0).toNat (R.getD k 0).toNat = false := by cases mt0 (R.getD c 0).toNat (R.getD k 0).toNat <;> simp
                · rw [hm5] at wr4
                  have hF0 : F k = [] := by rw [hFb]; unfold matB; rw [if_pos (.inr (by rw [hmt]; exact hm5))]
                  rw [hF0, List.nil_append] at hEq ⊢
                  try simp (disch := first | omega | (simp only [ints_length, List.length_replicate, List.length_set]; done) | (simp only [ints_length, List.length_replicate, List.length_set]; omega)) only [Sall,evalOp,init,binE,binI,unE,convE,okNil,builtE,gv,TD.isAgg,resV,↓reduceIte,Nat.reduceEqDiff,reduceCtorEq,Nat.reduceAdd,Nat.reduceMul,Nat.reduceLeDiff,quietOp,blindOp,Int.reduceEq,Int.reduceLT,Int.reduceLE,Nat.reduceLT,ti2,ti3,ti4,ti45,ti46,ti38,ti25,ti30,ti22,ti32,ti24,ti95,ti172,ti169,ti165,ti166,ti65,ti143,ti87,ti110,ti56,ti101,ti5,ti159,ti62,ti161,ti51,ti57,ti9, h10, h1, builtE, hRl', c3', ev, q1, k1, h5, g0, k2, e4, hrl, h0, h9, em, mr1, wr1, wr2, wr4]
                  (repeat refine And.intro (by omega) ?_)
                  try simp (disch := first | omega | (simp only [ints_length, List.length_replicate, List.length_set]; done) | (simp only [ints_length, List.length_replicate, List.length_set]; omega)) only [Sall,evalOp,init,binE,binI,unE,convE,okNil,builtE,gv,TD.isAgg,resV,↓reduceIte,Nat.reduceEqDiff,reduceCtorEq,Nat.reduceAdd,Nat.reduceMul,Nat.reduceLeDiff,quietOp,blindOp,Int.reduceEq,Int.reduceLT,Int.reduceLE,Nat.reduceLT,ti2,ti3,ti4,ti45,ti46,ti38,ti25,ti30,ti22,ti32,ti24,ti95,ti172,ti169,ti165,ti166,ti65,ti143,ti87,ti110,ti56,ti101,ti5,ti159,ti62,ti161,ti51,ti57,ti9, h10, h1, h0, h5, h6, h9, k1, k2, e4, em, mr1, wr1, wr2, wr4, g0, hrl, w64]
                  (repeat refine And.intro (by omega) ?_)
                  try simp (disch := first | omega | (simp only [ints_length, List.length_replicate, List.length_set]; done) | (simp only [ints_length, List.length_replicate, List.length_set]; omega)) only [Sall,evalOp,init,binE,binI,unE,convE,okNil,builtE,gv,TD.isAgg,resV,↓reduceIte,Nat.reduceEqDiff,reduceCtorEq,Nat.reduceAdd,Nat.reduceMul,Nat.reduceLeDiff,quietOp,blindOp,Int.reduceEq,Int.reduceLT,Int.reduceLE,Nat.reduceLT,ti2,ti3,ti4,ti45,ti46,ti38,ti25,ti30,ti22,ti32,ti24,ti95,ti172,ti169,ti165,ti166,ti65,ti143,ti87,ti110,ti56,ti101,ti5,ti159,ti62,ti161,ti51,ti57,ti9, h10, h1, h0, h5, h6, h9, k1, k2, e4, em, mr1, wr1, wr2, wr4, g0, hrl, w64]
                  exact ⟨n - (k + 1), by omega, k + 1, rfl, by omega, by omega, by omega, hEq, o3⟩
                · rw [hm5] at wr4
                  have hF0 : F k = matF n mt f (meetN now c k) (c + 1) := by
                    rw [hFb]; unfold matB
                    rw [if_neg (fun h => h.elim (fun h => h c4) (fun h => by rw [hmt] at h; dsimp only at h; rw [hm5] at h; cases h))]
                  rw [hF0] at hEq ⊢
                  have hme := hmeet c k c1 c3 (by omega)
                  have hll : (L0.set (R.getD c 0).toNat (R.getD k 0)).length = 14 := by rw [List.length_set, hrl]
                  try simp (disch := first | omega | (simp only [ints_length, List.length_replicate, List.length_set]; done) | (simp only [ints_length, List.length_replicate, List.length_set]; omega)) only [Sall,evalOp,init,binE,binI,unE,convE,okNil,builtE,gv,TD.isAgg,resV,↓reduceIte,Nat.reduceEqDiff,reduceCtorEq,Nat.reduceAdd,Nat.reduceMul,Nat.reduceLeDiff,quietOp,blindOp,Int.reduceEq,Int.reduceLT,Int.reduceLE,Nat.reduceLT,ti2,ti3,ti4,ti45,ti46,ti38,ti25,ti30,ti22,ti32,ti24,ti95,ti172,ti169,ti165,ti166,ti65,ti143,ti87,ti110,ti56,ti101,ti5,ti159,ti62,ti161,ti51,ti57,ti9, h10, h1, builtE, hRl', c3', ev, q1, k1, h5, g0, k2, e4, hrl, h0, h9, em, mr1, wr1, wr2, wr4]
                  (repeat refine And.intro (by omega) ?_)
                  try simp (disch := first | omega | (simp only [ints_length, List.length_replicate, List.length_set]; done) | (simp only [ints_length, List.length_replicate, List.length_set]; omega)) only [Sall,evalOp,init,binE,binI,unE,convE,okNil,builtE,gv,TD.isAgg,resV,↓reduceIte,Nat.reduceEqDiff,reduceCtorEq,Nat.reduceAdd,Nat.reduceMul,Nat.reduceLeDiff,quietOp,blindOp,Int.reduceEq,Int.reduceLT,Int.reduceLE,Nat.reduceLT,ti2,ti3,ti4,ti45,ti46,ti38,ti25,ti30,ti22,ti32,ti24,ti95,ti172,ti169,ti165,ti166,ti65,ti143,ti87,ti110,ti56,ti101,ti5,ti159,ti62,ti161,ti51,ti57,ti9, h10, h1, h0, h5, h6, h9, k1, k2, e4, em, mr1, wr1, wr2, wr4, g0, hrl]
                  (repeat refine And.intro (by omega) ?_)
                  try simp (disch := first | omega | (simp only [ints_length, List.length_replicate, List.length_set]; done) | (simp only [ints_length, List.length_replicate, List.length_set]; omega)) only [Sall,evalOp,init,binE,binI,unE,convE,okNil,builtE,gv,TD.isAgg,resV,↓reduceIte,Nat.reduceEqDiff,reduceCtorEq,Nat.reduceAdd,Nat.reduceMul,Nat.reduceLeDiff,quietOp,blindOp,Int.reduceEq,Int.reduceLT,Int.reduceLE,Nat.reduceLT,ti2,ti3,ti4,ti45,ti46,ti38,ti25,ti30,ti22,ti32,ti24,ti95,ti172,ti169,ti165,ti166,ti65,ti143,ti87,ti110,ti56,ti101,ti5,ti159,ti62,ti161,ti51,ti57,ti9, h10, h1, h0, h5, h6, h9, k1, k2, e4, em, mr1, wr1, wr2, wr4, g0, hrl, hll, ints_set, push_setCells]
                  (repeat refine And.intro (by omega) ?_)
                  try simp (disch := first | omega | (simp only [ints_length, List.length_replicate, List.length_set]; done) | (simp only [ints_length, List.length_replicate, List.length_set]; omega)) only [Sall,evalOp,init,binE,binI,unE,convE,okNil,builtE,gv,TD.isAgg,resV,↓reduceIte,Nat.reduceEqDiff,reduceCtorEq,Nat.reduceAdd,Nat.reduceMul,Nat.reduceLeDiff,quietOp,blindOp,Int.reduceEq,Int.reduceLT,Int.reduceLE,Nat.reduceLT,ti2,ti3,ti4,ti45,ti46,ti38,ti25,ti30,ti22,ti32,ti24,ti95,ti172,ti169,ti165,ti166,ti65,ti143,ti87,ti110,ti56,ti101,ti5,ti159,ti62,ti161,ti51,ti57,ti9, h10, h1, h0, h5, h6, h9, k1, k2, e4, em, mr1, wr1, wr2, wr4, g0, hrl, hll, ints_set, push_setCells]
                  refine ⟨by simp [hrl], ?_⟩
                  rw [hme, ← em, ← ev]
                  have hrl2 := renF_length R (meetN now c k) n
                  have hmet2 : ∀ j, j < c + 1 → (meetN now c k).getD j 0 ≠ (j : Int) := fun j hj => by
                    rw [meetN_get hnow.1 (by omega) (by omega), if_neg (by omega)]
                    by_cases e : j = c
                    · rw [if_pos e]; omega
                    · rw [if_neg e]
                      by_cases e2 : j < a
                      · exact hmet j e2
                      · have := fstF_met now (n - a) a j (by omega) (by rw [hA]; omega)
                        exact this
                  have o4 := o3.tmp ⟨46, true, ints (renF R (meetN now c k) n)⟩
                  refine (ih (meetN now c k) (c + 1) _ (hnow.meet hn.2 c1 c3) (by omega) hmet2 (by omega) (hM.same (o4.old hs)) (hR.same (o4.old hs))).to ?_
                  have hlX := headR_length n R (matF n mt f (meetN now c k) (c + 1))
                  obtain ⟨X, hX⟩ : ∃ X, X = matF n mt f (meetN now c k) (c + 1) := ⟨_, rfl⟩
                  rw [← hX] at hlX hEq ⊢
                  obtain ⟨Y, hY⟩ : ∃ Y, Y = (List.range' (k + 1) (n - (k + 1))).flatMap F := ⟨_, rfl⟩
                  rw [← hY] at hEq ⊢
                  have hap := head_app X Y
                  have o6 := (o4.push ⟨46, true, ints (List.replicate 14 0)⟩).putRow 2 rfl (cs' := ints (headR n R X))
                  have ne1 : ¬ H.next + 1 = H2.next := by omega
                  have ne2 : ¬ H.next = H2.next := by omega
                  obtain hB | hB : headB X = true ∨ headB X = false := by cases headB X <;> simp
                  · rw [if_pos (show X.head?.isSome = true from hB)] at hap
                    obtain ⟨hE3, hE4⟩ := headR_congr (n := n) (R := R) hap
                    rw [hE3, hE4, hB]
                    refine Holds.mp ?_
                    try simp (disch := first | omega | (simp only [ints_length, List.length_replicate, List.length_set]; done) | (simp only [ints_length, List.length_replicate, List.length_set]; omega)) only [Sall,evalOp,init,binE,binI,unE,convE,okNil,builtE,gv,TD.isAgg,resV,↓reduceIte,Nat.reduceEqDiff,reduceCtorEq,Nat.reduceAdd,Nat.reduceMul,Nat.reduceLeDiff,quietOp,blindOp,Int.reduceEq,Int.reduceLT,Int.reduceLE,Nat.reduceLT,ti2,ti3,ti4,ti45,ti46,ti38,ti25,ti30,ti22,ti32,ti24,ti95,ti172,ti169,ti165,ti166,ti65,ti143,ti87,ti110,ti56,ti101,ti5,ti159,ti62,ti161,ti51,ti57,ti9, hlX, hB, h6, g1, ne1, ne2]
                    exact (o6.putRow 1 rfl (cs' := ints (headR n R X))).up
                  · rw [if_neg (by unfold headB at hB; rw [hB]; simp)] at hap
                    refine Holds.mp ?_
                    try simp (disch := first | omega | (simp only [ints_length, List.length_replicate, List.length_set]; done) | (simp only [ints_length, List.length_replicate, List.length_set]; omega)) only [Sall,evalOp,init,binE,binI,unE,convE,okNil,builtE,gv,TD.isAgg,resV,↓reduceIte,Nat.reduceEqDiff,reduceCtorEq,Nat.reduceAdd,Nat.reduceMul,Nat.reduceLeDiff,quietOp,blindOp,Int.reduceEq,Int.reduceLT,Int.reduceLE,Nat.reduceLT,ti2,ti3,ti4,ti45,ti46,ti38,ti25,ti30,ti22,ti32,ti24,ti95,ti172,ti169,ti165,ti166,ti65,ti143,ti87,ti110,ti56,ti101,ti5,ti159,ti62,ti161,ti51,ti57,ti9, hlX, hB, h10, h9, h0, h1, h5, h6, w64]
                    have o7 : Ow H _ ([.row H.next ⟨46, true, ints L0⟩, .row (H.next + 1) ⟨46, true, ints (List.replicate 14 0)⟩] ++ [.row (H2.next + 1) ⟨46, true, ints (headR n R X)⟩]) := o6
                    exact ⟨n - (k + 1), by omega, k + 1, rfl, by omega, by omega, by omega, (hEq.trans hap).trans (by rw [hY]), o7.left⟩
              · have e4 : (L0.getD (R.getD k 0).toNat 0 != R.getD k 0) = true := by
                  rw [bne_iff_ne]; exact fun e => c4 ((hiff k c3).1 e)
                have hF0 : F k = [] := by rw [hFb]; unfold matB; rw [if_pos (.inl c4)]
                rw [hF0, List.nil_append] at hEq ⊢
                try simp (disch := first | omega | (simp only [ints_length, List.length_replicate, List.length_set]; done) | (simp only [ints_length, List.length_replicate, List.length_set]; omega)) only [Sall,evalOp,init,binE,binI,unE,convE,okNil,builtE,gv,TD.isAgg,resV,↓reduceIte,Nat.reduceEqDiff,reduceCtorEq,Nat.reduceAdd,Nat.reduceMul,Nat.reduceLeDiff,quietOp,blindOp,Int.reduceEq,Int.reduceLT,Int.reduceLE,Nat.reduceLT,ti2,ti3,ti4,ti45,ti46,ti38,ti25,ti30,ti22,ti32,ti24,ti95,ti172,ti169,ti165,ti166,ti65,ti143,ti87,ti110,ti56,ti101,ti5,ti159,ti62,ti161,ti51,ti57,ti9, h10, h1, builtE, hRl', c3', ev, q1, k1, h5, g0, k2, e4, hrl, h0, h9]
                (repeat refine And.intro (by omega) ?_)
                try simp (disch := first | omega | (simp only [ints_length, List.length_replicate, List.length_set]; done) | (simp only [ints_length, List.length_replicate, List.length_set]; omega)) only [Sall,evalOp,init,binE,binI,unE,convE,okNil,builtE,gv,TD.isAgg,resV,↓reduceIte,Nat.reduceEqDiff,reduceCtorEq,Nat.reduceAdd,Nat.reduceMul,Nat.reduceLeDiff,quietOp,blindOp,Int.reduceEq,Int.reduceLT,Int.reduceLE,Nat.reduceLT,ti2,ti3,ti4,ti45,ti46,ti38,ti25,ti30,ti22,ti32,ti24,ti95,ti172,ti169,ti165,ti166,ti65,ti143,ti87,ti110,ti56,ti101,ti5,ti159,ti62,ti161,ti51,ti57,ti9, h10, h1, h0, h5, h6, h9, k1, k2, e4, g0, hrl, w64]
                (repeat refine And.intro (by omega) ?_)
                try simp (disch := first | omega | (simp only [ints_length, List.length_replicate, List.length_set]; done) | (simp only [ints_length, List.length_replicate, List.length_set]; omega)) only [Sall,evalOp,init,binE,binI,unE,convE,okNil,builtE,gv,TD.isAgg,resV,↓reduceIte,Nat.reduceEqDiff,reduceCtorEq,Nat.reduceAdd,Nat.reduceMul,Nat.reduceLeDiff,quietOp,blindOp,Int.reduceEq,Int.reduceLT,Int.reduceLE,Nat.reduceLT,ti2,ti3,ti4,ti45,ti46,ti38,ti25,ti30,ti22,ti32,ti24,ti95,ti172,ti169,ti165,ti166,ti65,ti143,ti87,ti110,ti56,ti101,ti5,ti159,ti62,ti161,ti51,ti57,ti9, h10, h1, h0, h5, h6, h9, k1, k2, e4, g0, hrl, w64]
                exact ⟨n - (k + 1), by omega, k + 1, rfl, by omega, by omega, by omega, hEq, o3⟩
            · have c3' : decide ((k : Int) < (n : Int)) = false := decide_eq_false (by omega)
              rw [show n - k = 0 by omega, List.range'_zero, List.flatMap_nil]
              have hn0 : headR n R [] = List.replicate 14 0 := rfl
              have hn1 : headB [] = false := rfl
              rw [hn0, hn1]
              try simp (disch := first | omega | (simp only [ints_length, List.length_replicate, List.length_set]; done) | (simp only [ints_length, List.length_replicate, List.length_set]; omega)) only [Sall,evalOp,init,binE,binI,unE,convE,okNil,builtE,gv,TD.isAgg,resV,↓reduceIte,Nat.reduceEqDiff,reduceCtorEq,Nat.reduceAdd,Nat.reduceMul,Nat.reduceLeDiff,quietOp,blindOp,Int.reduceEq,Int.reduceLT,Int.reduceLE,Nat.reduceLT,ti2,ti3,ti4,ti45,ti46,ti38,ti25,ti30,ti22,ti32,ti24,ti95,ti172,ti169,ti165,ti166,ti65,ti143,ti87,ti110,ti56,ti101,ti5,ti159,ti62,ti161,ti51,ti57,ti9, h10, h1, h6, g1, builtE, hRl', c3']
              exact (o3.putRow 1 rfl (cs' := ints (List.replicate 14 0))).up
        · have e2 : (L0.getD (R.getD c 0).toNat 0 != R.getD c 0) = true := by
            rw [bne_iff_ne]; exact fun e => c2 ((hiff c c1).1 e)
          try simp (disch := first | omega | (simp only [ints_length, List.length_replicate, List.length_set]; done) | (simp only [ints_length, List.length_replicate, List.length_set]; omega)) only [Sall,evalOp,init,binE,binI,unE,convE,okNil,builtE,gv,TD.isAgg,resV,↓reduceIte,Nat.reduceEqDiff,reduceCtorEq,Nat.reduceAdd,Nat.reduceMul,Nat.reduceLeDiff,quietOp,blindOp,Int.reduceEq,Int.reduceLT,Int.reduceLE,Nat.reduceLT,ti2,ti3,ti4,ti45,ti46,ti38,ti25,ti30,ti22,ti32,ti24,ti95,ti172,ti169,ti165,ti166,ti65,ti143,ti87,ti110,ti56,ti101,ti5,ti159,ti62,ti161,ti51,ti57,ti9, h8, h1, builtE, hRl, c1', ev, q1, k1, h5, g0, k2, e2, hrl]
          refine draw_id (by kernel_rfl) (by kernel_rfl) ?_
          try simp (disch := first | omega | (simp only [ints_length, List.length_replicate, List.length_set]; done) | (simp only [ints_length, List.length_replicate, List.length_set]; omega)) only [Sall,evalOp,init,binE,binI,unE,convE,okNil,builtE,gv,TD.isAgg,resV,↓reduceIte,Nat.reduceEqDiff,reduceCtorEq,Nat.reduceAdd,Nat.reduceMul,Nat.reduceLeDiff,quietOp,blindOp,Int.reduceEq,Int.reduceLT,Int.reduceLE,Nat.reduceLT,ti2,ti3,ti4,ti45,ti46,ti38,ti25,ti30,ti22,ti32,ti24,ti95,ti172,ti169,ti165,ti166,ti65,ti143,ti87,ti110,ti56,ti101,ti5,ti159,ti62,ti161,ti51,ti57,ti9, h8, h1, builtE, hRl, c1', ev, q1, k1, h5, g0, k2, e2, hrl]
          (repeat refine And.intro (by omega) ?_)
          try simp (disch := first | omega | (simp only [ints_length, List.length_replicate, List.length_set]; done) | (simp only [ints_length, List.length_replicate, List.length_set]; omega)) only [Sall,evalOp,init,binE,binI,unE,convE,okNil,builtE,gv,TD.isAgg,resV,↓reduceIte,Nat.reduceEqDiff,reduceCtorEq,Nat.reduceAdd,Nat.reduceMul,Nat.reduceLeDiff,quietOp,blindOp,Int.reduceEq,Int.reduceLT,Int.reduceLE,Nat.reduceLT,ti2,ti3,ti4,ti45,ti46,ti38,ti25,ti30,ti22,ti32,ti24,ti95,ti172,ti169,ti165,ti166,ti65,ti143,ti87,ti110,ti56,ti101,ti5,ti159,ti62,ti161,ti51,ti57,ti9, h8, h1, h0, h5, h6, e2, w64]
          exact ⟨n - (c + 1), by omega, c + 1, rfl, by omega, by omega, hfst.trans (fstF_step c1 c2), o2⟩
      · have hce : c = n := by omega
        subst hce
        have c1' : decide ((c : Int) < (c : Int)) = false := decide_eq_false (by omega)
        have e3 : ((c : Int) == (c : Int)) = true := beq_self_eq_true _
        have hm : matF c mt (f + 1) now a = [now] := by
          show (if _ then _ else _) = _
          rw [← hsk, hfst, fstF_end, if_pos rfl]
        have g1 := (o2.rowAt 1 rfl).1
        have hn0 : headR c R [now] = L0 := hL0'.symm
        have hn1 : headB [now] = true := rfl
        rw [hm, hn0, hn1]
        try simp (disch := first | omega | (simp only [ints_length, List.length_replicate, List.length_set]; done) | (simp only [ints_length, List.length_replicate, List.length_set]; omega)) only [Sall,evalOp,init,binE,binI,unE,convE,okNil,builtE,gv,TD.isAgg,resV,↓reduceIte,Nat.reduceEqDiff,reduceCtorEq,Nat.reduceAdd,Nat.reduceMul,Nat.reduceLeDiff,quietOp,blindOp,Int.reduceEq,Int.reduceLT,Int.reduceLE,Nat.reduceLT,ti2,ti3,ti4,ti45,ti46,ti38,ti25,ti30,ti22,ti32,ti24,ti95,ti172,ti169,ti165,ti166,ti65,ti143,ti87,ti110,ti56,ti101,ti5,ti159,ti62,ti161,ti51,ti57,ti9, h8, h1, builtE, hRl, c1', e3]
        refine draw_id (by kernel_rfl) (by kernel_rfl) ?_
        try simp (disch := first | omega | (simp only [ints_length, List.length_replicate, List.length_set]; done) | (simp only [ints_length, List.length_replicate, List.length_set]; omega)) only [Sall,evalOp,init,binE,binI,unE,convE,okNil,builtE,gv,TD.isAgg,resV,↓reduceIte,Nat.reduceEqDiff,reduceCtorEq,Nat.reduceAdd,Nat.reduceMul,Nat.reduceLeDiff,quietOp,blindOp,Int.reduceEq,Int.reduceLT,Int.reduceLE,Nat.reduceLT,ti2,ti3,ti4,ti45,ti46,ti38,ti25,ti30,ti22,ti32,ti24,ti95,ti172,ti169,ti165,ti166,ti65,ti143,ti87,ti110,ti56,ti101,ti5,ti159,ti62,ti161,ti51,ti57,ti9, h8, h1, builtE, hRl, c1', e3, h5, h6, g0, g1, hrl]
        exact (o2.putRow 1 rfl (cs' := ints L0)).up
end Go.Proofs.Ytgkmdfjjlghecaa.A
end

section
set_option linter.unusedSimpArgs false
set_option linter.unusedVariables false
set_option maxRecDepth 100000
namespace Go.Proofs.Ytgkmdfjjlghecaa.A
open Go Go.Abs Go.RowKit

/-- A fresh schedule: its rounds lie in rows of their own. -/
def FrS (q : Int) (n : Nat) (l : List Int) (H : AH) (v : Value) (H' : AH) : Prop := ∃ u, v = .agg #[.int .i64 q, u] ∧ Up H.next H H' ∧ Fr 14 46 H.next H'.next H' u n l

theorem circleS_c (n : Nat) (hn : 2 ≤ n ∧ n ≤ 14) (H : AH) : ACalls Try.prog 242 [.int .i64 n] H (FrS n (oddUp n) (circleL n (oddUp n)) H) := by
  refine acalls_of_awp [.cell 2 32] Try.func242 (by kernel_rfl) rfl rfl (Nat.le_of_ble_eq_true rfl) (by kernel_rfl) ?_
  have em : Int.tmod (n : Int) 2 = ((n % 2 : Nat) : Int) := rfl
  have em2 : (n : Int) - 1 + ((n % 2 : Nat) : Int) = (oddUp n : Nat) := by unfold oddUp; omega
  have hm2 : oddUp n ≤ 13 := by unfold oddUp; omega
  have hm3 : n = oddUp n ∨ n = oddUp n + 1 := by unfold oddUp; omega
  try simp (disch := first | omega | (simp only [ints_length, List.length_replicate, cround_length, cmid_length, cset_length]; done) | (simp only [ints_length, List.length_replicate, cround_length, cmid_length, cset_length]; omega)) only [Sall,evalOp,init,binE,binI,unE,convE,okNil,builtE,gv,TD.isAgg,resV,↓reduceIte,Nat.reduceEqDiff,reduceCtorEq,Nat.reduceAdd,Nat.reduceMul,Nat.reduceLeDiff,quietOp,blindOp,Int.reduceEq,Int.reduceLT,Int.reduceLE,Nat.reduceLT,ti2,ti3,ti4,ti45,ti46,ti38,ti25,ti30,ti22,ti32,ti24,ti95,ti172,ti169,ti165,ti166,ti65,ti143,ti87, em, w64, em2, zeros_zero]
  refine awp_loop (fun m t H' => ∃ (r : Nat) (u : Value) (lo hi : Nat), m = oddUp n - r ∧ r ≤ oddUp n ∧ t 5 = .int .i64 r ∧ t 3 = .int .i64 (oddUp n) ∧ t 0 = .int .i64 n ∧ t 2 = .pointer (some ⟨H.next, 0, none⟩) ∧ t 4 = .pointer (some ⟨H.next + 2, 0, none⟩) ∧
    Up H.next H H' ∧ H'.row H.next = some ⟨32, true, [.int .i64 0, .slice none 0 0]⟩ ∧ H'.row (H.next + 2) = some ⟨32, true, [.int .i64 n, u]⟩ ∧ Fr 14 46 lo hi H' u r (circleL n r) ∧ H.next < lo ∧ hi ≤ H'.next ∧ (hi ≤ H.next + 2 ∨ H.next + 2 < lo) ∧ H.next + 3 ≤ H'.next) (oddUp n) ?_ ?_
  · refine ⟨0, .slice (some ⟨H.next + 1, 0, some 14⟩) 0 0, H.next + 1, H.next + 2, by omega, by omega, ?_⟩
    try simp (disch := first | omega | (simp only [ints_length, List.length_replicate, cround_length, cmid_length, cset_length]; done) | (simp only [ints_length, List.length_replicate, cround_length, cmid_length, cset_length]; omega)) only [Sall,evalOp,init,binE,binI,unE,convE,okNil,builtE,gv,TD.isAgg,resV,↓reduceIte,Nat.reduceEqDiff,reduceCtorEq,Nat.reduceAdd,Nat.reduceMul,Nat.reduceLeDiff,quietOp,blindOp,Int.reduceEq,Int.reduceLT,Int.reduceLE,Nat.reduceLT,ti2,ti3,ti4,ti45,ti46,ti38,ti25,ti30,ti22,ti32,ti24,ti95,ti172,ti169,ti165,ti166,ti65,ti143,ti87, Int.natCast_zero]
    exact ⟨((((Up.refl _ H).push (by omega) _).push (Nat.le_succ _) _).push (Nat.le_succ_of_le (Nat.le_succ _)) _).set (by omega) _, ⟨by simp [circleL], .inr ⟨H.next + 1, by omega, by omega, rfl, by simp [AH.push_row, AH.setCells_row, AH.push_next, circleL, ints]⟩⟩, by omega, by omega⟩
  · rintro m t H' ⟨r, u, lo, hi, hm, hr, h5, h3, h0, h2, h4, hup, hr0, hr1, hfr, hlo, hhi, hx, hnx⟩
    try simp (disch := first | omega | (simp only [ints_length, List.length_replicate, cround_length, cmid_length, cset_length]; done) | (simp only [ints_length, List.length_replicate, cround_length, cmid_length, cset_length]; omega)) only [Sall,evalOp,init,binE,binI,unE,convE,okNil,builtE,gv,TD.isAgg,resV,↓reduceIte,Nat.reduceEqDiff,reduceCtorEq,Nat.reduceAdd,Nat.reduceMul,Nat.reduceLeDiff,quietOp,blindOp,Int.reduceEq,Int.reduceLT,Int.reduceLE,Nat.reduceLT,ti2,ti3,ti4,ti45,ti46,ti38,ti25,ti30,ti22,ti32,ti24,ti95,ti172,ti169,ti165,ti166,ti65,ti143,ti87, h5, h3]
    refine condC_dec (fun h => ?_) (fun h => ?_)
    · try simp (disch := first | omega | (simp only [ints_length, List.length_replicate, cround_length, cmid_length, cset_length]; done) | (simp only [ints_length, List.length_replicate, cround_length, cmid_length, cset_length]; omega)) only [Sall,evalOp,init,binE,binI,unE,convE,okNil,builtE,gv,TD.isAgg,resV,↓reduceIte,Nat.reduceEqDiff,reduceCtorEq,Nat.reduceAdd,Nat.reduceMul,Nat.reduceLeDiff,quietOp,blindOp,Int.reduceEq,Int.reduceLT,Int.reduceLE,Nat.reduceLT,ti2,ti3,ti4,ti45,ti46,ti38,ti25,ti30,ti22,ti32,ti24,ti95,ti172,ti169,ti165,ti166,ti65,ti143,ti87, h5, h3, h0, h4, h2]
      refine (freeS_c n (by omega) H').to ?_
      try simp (disch := first | omega | (simp only [ints_length, List.length_replicate, cround_length, cmid_length, cset_length]; done) | (simp only [ints_length, List.length_replicate, cround_length, cmid_length, cset_length]; omega)) only [Sall,evalOp,init,binE,binI,unE,convE,okNil,builtE,gv,TD.isAgg,resV,↓reduceIte,Nat.reduceEqDiff,reduceCtorEq,Nat.reduceAdd,Nat.reduceMul,Nat.reduceLeDiff,quietOp,blindOp,Int.reduceEq,Int.reduceLT,Int.reduceLE,Nat.reduceLT,ti2,ti3,ti4,ti45,ti46,ti38,ti25,ti30,ti22,ti32,ti24,ti95,ti172,ti169,ti165,ti166,ti65,ti143,ti87, h5, h3, h0, h4, h2, freeL_length]
      refine awp_loop (fun m' t H'' => ∃ k : Nat, m' = oddUp n - k ∧ k ≤ oddUp n ∧ t 7 = .int .i64 k ∧ t 5 = .int .i64 r ∧ t 6 = .pointer (some ⟨H'.next, 0, none⟩) ∧ t 3 = .int .i64 (oddUp n) ∧ t 0 = .int .i64 n ∧ t 2 = .pointer (some ⟨H.next, 0, none⟩) ∧ t 4 = .pointer (some ⟨H.next + 2, 0, none⟩) ∧
        Up H'.next H' H'' ∧ H''.next = H'.next + 1 ∧ H''.row H'.next = some ⟨46, true, ints (cset n r k)⟩) (oddUp n) ?_ ?_
      · refine ⟨0, by omega, by omega, ?_⟩
        try simp (disch := first | omega | (simp only [ints_length, List.length_replicate, cround_length, cmid_length, cset_length]; done) | (simp only [ints_length, List.length_replicate, cround_length, cmid_length, cset_length]; omega)) only [Sall,evalOp,init,binE,binI,unE,convE,okNil,builtE,gv,TD.isAgg,resV,↓reduceIte,Nat.reduceEqDiff,reduceCtorEq,Nat.reduceAdd,Nat.reduceMul,Nat.reduceLeDiff,quietOp,blindOp,Int.reduceEq,Int.reduceLT,Int.reduceLE,Nat.reduceLT,ti2,ti3,ti4,ti45,ti46,ti38,ti25,ti30,ti22,ti32,ti24,ti95,ti172,ti169,ti165,ti166,ti65,ti143,ti87, Int.natCast_zero, h5, h3, h0, h4, h2]
        refine ⟨((Up.refl _ H').push (by omega) _).set (by omega) _, ?_⟩
        rw [cset_zero n (by omega) r (by omega)]; rfl
      · rintro m' t H'' ⟨k, hm', hk, h7, h5, h6, h3, h0, h2, h4, hup2, hnx2, hr2⟩
        try simp (disch := first | omega | (simp only [ints_length, List.length_replicate, cround_length, cmid_length, cset_length]; done) | (simp only [ints_length, List.length_replicate, cround_length, cmid_length, cset_length]; omega)) only [Sall,evalOp,init,binE,binI,unE,convE,okNil,builtE,gv,TD.isAgg,resV,↓reduceIte,Nat.reduceEqDiff,reduceCtorEq,Nat.reduceAdd,Nat.reduceMul,Nat.reduceLeDiff,quietOp,blindOp,Int.reduceEq,Int.reduceLT,Int.reduceLE,Nat.reduceLT,ti2,ti3,ti4,ti45,ti46,ti38,ti25,ti30,ti22,ti32,ti24,ti95,ti172,ti169,ti165,ti166,ti65,ti143,ti87, h7, h3]
        refine condC_dec (fun hk' => ?_) (fun hk' => ?_)
        · have hb := cb_range n (by omega) r (by omega) k (by omega)
          have eb : Int.tmod (2 * (r : Int) + (oddUp n : Int) - (k : Int)) (oddUp n : Int) = cb (oddUp n) r k := by unfold cb; rw [show 2 * (r : Int) + (oddUp n : Int) - (k : Int) = 2 * (r : Int) - (k : Int) + (oddUp n : Int) by omega]
          have st := cset_step n (by omega) r (by omega) k (by omega)
          have hl := cset_length n r k
          try simp (disch := first | omega | (simp only [ints_length, List.length_replicate, cround_length, cmid_length, cset_length]; done) | (simp only [ints_length, List.length_replicate, cround_length, cmid_length, cset_length]; omega)) only [Sall,evalOp,init,binE,binI,unE,convE,okNil,builtE,gv,TD.isAgg,resV,↓reduceIte,Nat.reduceEqDiff,reduceCtorEq,Nat.reduceAdd,Nat.reduceMul,Nat.reduceLeDiff,quietOp,blindOp,Int.reduceEq,Int.reduceLT,Int.reduceLE,Nat.reduceLT,ti2,ti3,ti4,ti45,ti46,ti38,ti25,ti30,ti22,ti32,ti24,ti95,ti172,ti169,ti165,ti166,ti65,ti143,ti87, h7, h5, h3, h6, w64, eb, hr2, hl, ints_set, st, h0, h2, h4]
          exact ⟨by omega, ⟨by omega, by omega⟩, by omega, oddUp n - (k + 1), by omega, k + 1, rfl, by omega, by omega, hup2.set (Nat.le_refl _) _, hnx2, rfl⟩
        · have hkm : k = oddUp n := by omega
          subst hkm
          rw [cset_last n (by omega) r (by omega)] at hr2
          try simp (disch := first | omega | (simp only [ints_length, List.length_replicate, cround_length, cmid_length, cset_length]; done) | (simp only [ints_length, List.length_replicate, cround_length, cmid_length, cset_length]; omega)) only [Sall,evalOp,init,binE,binI,unE,convE,okNil,builtE,gv,TD.isAgg,resV,↓reduceIte,Nat.reduceEqDiff,reduceCtorEq,Nat.reduceAdd,Nat.reduceMul,Nat.reduceLeDiff,quietOp,blindOp,Int.reduceEq,Int.reduceLT,Int.reduceLE,Nat.reduceLT,ti2,ti3,ti4,ti45,ti46,ti38,ti25,ti30,ti22,ti32,ti24,ti95,ti172,ti169,ti165,ti166,ti65,ti143,ti87, h0, em]
          have ne1 : ¬ (H.next + 2 = H'.next) := by omega
          have hcl := cround_length n r
          have hml := cmid_length n r (oddUp n)
          have fin : ∀ H3 : AH, Up H'.next H' H3 → H3.next = H'.next + 1 → H3.row H'.next = some ⟨46, true, ints (cround n r)⟩ →
              H3.row (H.next + 2) = some ⟨32, true, [.int .i64 n, u]⟩ ∧ Fr 14 46 lo hi H3 u r (circleL n r) := fun H3 a b c =>
            ⟨by rw [a.row _ (by omega), hr1], hfr.same fun i _ hi => a.row i (by omega)⟩
          by_cases h2n : n % 2 = 0
          · have e0 : (((n % 2 : Nat) : Int) == 0) = true := by rw [h2n]; rfl
            have hm4 : n = oddUp n + 1 := by unfold oddUp; omega
            have ec : ((cmid n r (oddUp n)).set r ((n : Int) - 1)).set ((n : Int) - 1).toNat r = cround n r := by
              unfold cround; rw [if_pos h2n, show ((n : Int) - 1).toNat = n - 1 by omega, List.set_comm _ _ (by omega)]
            have hsl : ((cmid n r (oddUp n)).set r ((n : Int) - 1)).length = 14 := by rw [List.length_set, hml]
            try simp (disch := first | omega | (simp only [ints_length, List.length_replicate, cround_length, cmid_length, cset_length]; done) | (simp only [ints_length, List.length_replicate, cround_length, cmid_length, cset_length]; omega)) only [Sall,evalOp,init,binE,binI,unE,convE,okNil,builtE,gv,TD.isAgg,resV,↓reduceIte,Nat.reduceEqDiff,reduceCtorEq,Nat.reduceAdd,Nat.reduceMul,Nat.reduceLeDiff,quietOp,blindOp,Int.reduceEq,Int.reduceLT,Int.reduceLE,Nat.reduceLT,ti2,ti3,ti4,ti45,ti46,ti38,ti25,ti30,ti22,ti32,ti24,ti95,ti172,ti169,ti165,ti166,ti65,ti143,ti87, e0, h0, h5, h6, w64, hr2, hml, ints_set, hsl, ec, AH.setCells_setCells]
            refine ⟨⟨by omega, by omega⟩, by omega, ⟨by omega, by omega⟩, by omega, ?_⟩
            obtain ⟨g1, gf⟩ := fin (H''.setCells H'.next (ints (cround n r))) (hup2.set (Nat.le_refl _) _) hnx2 (by rw [AH.setCells_row, if_pos rfl, hr2]; rfl)
            have g2 : (H''.setCells H'.next (ints (cround n r))).row H'.next = some ⟨46, true, ints (cround n r)⟩ := by rw [AH.setCells_row, if_pos rfl, hr2]; rfl
            have g3 := hup2.set (Nat.le_refl _) (ints (cround n r))
            have g4 : (H''.setCells H'.next (ints (cround n r))).next = H'.next + 1 := hnx2
            revert g1 gf g2 g3 g4
            generalize H''.setCells H'.next (ints (cround n r)) = H3
            intro g1 gf g2 g3 g4
            try simp (disch := first | omega | (simp only [ints_length, List.length_replicate, cround_length, cmid_length, cset_length]; done) | (simp only [ints_length, List.length_replicate, cround_length, cmid_length, cset_length]; omega)) only [Sall,evalOp,init,binE,binI,unE,convE,okNil,builtE,gv,TD.isAgg,resV,↓reduceIte,Nat.reduceEqDiff,reduceCtorEq,Nat.reduceAdd,Nat.reduceMul,Nat.reduceLeDiff,quietOp,blindOp,Int.reduceEq,Int.reduceLT,Int.reduceLE,Nat.reduceLT,ti2,ti3,ti4,ti45,ti46,ti38,ti25,ti30,ti22,ti32,ti24,ti95,ti172,ti169,ti165,ti166,ti65,ti143,ti87, h4, h6, g1, g2, g4, hcl, slCells, zeros_one, ne_eq, reduceCtorEq]
            have h3f : Fr 14 46 lo hi (H3.push ⟨46, true, ints (cround n r)⟩) u r (circleL n r) := gf.same fun i _ hi => by rw [AH.push_row, if_neg (by omega)]
            refine appE_fr h3f rfl (by omega) (by rw [hcl]) (by omega) (by decide) (by omega) (by rw [AH.push_next]; omega) ?_
            intro v' H4 k1 k2 k3
            rw [AH.push_next] at k1 k2 k3
            have k4 : H4.row (H.next + 2) = some ⟨32, true, [.int .i64 n, u]⟩ := by rw [k2 _ (by omega) (by omega), AH.push_row, if_neg (by omega), g1]
            have k5 := k3.rd.one
            try simp (disch := first | omega | (simp only [ints_length, List.length_replicate, cround_length, cmid_length, cset_length]; done) | (simp only [ints_length, List.length_replicate, cround_length, cmid_length, cset_length]; omega)) only [Sall,evalOp,init,binE,binI,unE,convE,okNil,builtE,gv,TD.isAgg,resV,↓reduceIte,Nat.reduceEqDiff,reduceCtorEq,Nat.reduceAdd,Nat.reduceMul,Nat.reduceLeDiff,quietOp,blindOp,Int.reduceEq,Int.reduceLT,Int.reduceLE,Nat.reduceLT,ti2,ti3,ti4,ti45,ti46,ti38,ti25,ti30,ti22,ti32,ti24,ti95,ti172,ti169,ti165,ti166,ti65,ti143,ti87, h3, h6, h4, h0, h2, h5, k4, k5, w64, List.set_cons_succ, List.set_cons_zero]
            refine ⟨oddUp n - (r + 1), by omega, r + 1, v', H3.next + 1, H3.next + 2, rfl, by omega, by omega, ?_, ?_, rfl, ?_, by omega, by omega, by omega⟩
            · refine Up.set ⟨by omega, fun i hi => ?_⟩ (by omega) _
              rw [k2 i (by omega) (by omega), AH.push_row, if_neg (by omega), g3.row i (by omega), hup.row i hi]
            · rw [k2 _ (by omega) (by omega), AH.push_row, if_neg (by omega), g3.row _ (by omega), hr0]
            · rw [circleL_succ]
              refine k3.same ?_
              intro i hi _
              rw [AH.setCells_row, if_neg (by omega)]
          · have e0 : (((n % 2 : Nat) : Int) == 0) = false := by rw [beq_eq_false_iff_ne]; omega
            try simp (disch := first | omega | (simp only [ints_length, List.length_replicate, cround_length, cmid_length, cset_length]; done) | (simp only [ints_length, List.length_replicate, cround_length, cmid_length, cset_length]; omega)) only [Sall,evalOp,init,binE,binI,unE,convE,okNil,builtE,gv,TD.isAgg,resV,↓reduceIte,Nat.reduceEqDiff,reduceCtorEq,Nat.reduceAdd,Nat.reduceMul,Nat.reduceLeDiff,quietOp,blindOp,Int.reduceEq,Int.reduceLT,Int.reduceLE,Nat.reduceLT,ti2,ti3,ti4,ti45,ti46,ti38,ti25,ti30,ti22,ti32,ti24,ti95,ti172,ti169,ti165,ti166,ti65,ti143,ti87, e0, h0, h5, h6, w64]
            have ec : cmid n r (oddUp n) = cround n r := by
              unfold cround; rw [if_neg h2n]
            rw [ec] at hr2
            obtain ⟨g1, gf⟩ := fin H'' hup2 hnx2 hr2
            have g2 := hr2
            have g3 := hup2
            have g4 := hnx2
            revert g1 gf g2 g3 g4
            generalize H'' = H3
            intro g1 gf g2 g3 g4
            try simp (disch := first | omega | (simp only [ints_length, List.length_replicate, cround_length, cmid_length, cset_length]; done) | (simp only [ints_length, List.length_replicate, cround_length, cmid_length, cset_length]; omega)) only [Sall,evalOp,init,binE,binI,unE,convE,okNil,builtE,gv,TD.isAgg,resV,↓reduceIte,Nat.reduceEqDiff,reduceCtorEq,Nat.reduceAdd,Nat.reduceMul,Nat.reduceLeDiff,quietOp,blindOp,Int.reduceEq,Int.reduceLT,Int.reduceLE,Nat.reduceLT,ti2,ti3,ti4,ti45,ti46,ti38,ti25,ti30,ti22,ti32,ti24,ti95,ti172,ti169,ti165,ti166,ti65,ti143,ti87, h4, h6, g1, g2, g4, hcl, slCells, zeros_one, ne_eq, reduceCtorEq]
            have h3f : Fr 14 46 lo hi (H3.push ⟨46, true, ints (cround n r)⟩) u r (circleL n r) := gf.same fun i _ hi => by rw [AH.push_row, if_neg (by omega)]
            refine appE_fr h3f rfl (by omega) (by rw [hcl]) (by omega) (by decide) (by omega) (by rw [AH.push_next]; omega) ?_
            intro v' H4 k1 k2 k3
            rw [AH.push_next] at k1 k2 k3
            have k4 : H4.row (H.next + 2) = some ⟨32, true, [.int .i64 n, u]⟩ := by rw [k2 _ (by omega) (by omega), AH.push_row, if_neg (by omega), g1]
            have k5 := k3.rd.one
            try simp (disch := first | omega | (simp only [ints_length, List.length_replicate, cround_length, cmid_length, cset_length]; done) | (simp only [ints_length, List.length_replicate, cround_length, cmid_length, cset_length]; omega)) only [Sall,evalOp,init,binE,binI,unE,convE,okNil,builtE,gv,TD.isAgg,resV,↓reduceIte,Nat.reduceEqDiff,reduceCtorEq,Nat.reduceAdd,Nat.reduceMul,Nat.reduceLeDiff,quietOp,blindOp,Int.reduceEq,Int.reduceLT,Int.reduceLE,Nat.reduceLT,ti2,ti3,ti4,ti45,ti46,ti38,ti25,ti30,ti22,ti32,ti24,ti95,ti172,ti169,ti165,ti166,ti65,ti143,ti87, h3, h6, h4, h0, h2, h5, k4, k5, w64, List.set_cons_succ, List.set_cons_zero]
            refine ⟨oddUp n - (r + 1), by omega, r + 1, v', H3.next + 1, H3.next + 2, rfl, by omega, by omega, ?_, ?_, rfl, ?_, by omega, by omega, by omega⟩
            · refine Up.set ⟨by omega, fun i hi => ?_⟩ (by omega) _
              rw [k2 i (by omega) (by omega), AH.push_row, if_neg (by omega), g3.row i (by omega), hup.row i hi]
            · rw [k2 _ (by omega) (by omega), AH.push_row, if_neg (by omega), g3.row _ (by omega), hr0]
            · rw [circleL_succ]
              refine k3.same ?_
              intro i hi _
              rw [AH.setCells_row, if_neg (by omega)]
    · have hrm : r = oddUp n := by omega
      have hne : ¬ (H.next + 2 = H.next) := by omega
      try simp (disch := first | omega | (simp only [ints_length, List.length_replicate, cround_length, cmid_length, cset_length]; done) | (simp only [ints_length, List.length_replicate, cround_length, cmid_length, cset_length]; omega)) only [Sall,evalOp,init,binE,binI,unE,convE,okNil,builtE,gv,TD.isAgg,resV,↓reduceIte,Nat.reduceEqDiff,reduceCtorEq,Nat.reduceAdd,Nat.reduceMul,Nat.reduceLeDiff,quietOp,blindOp,Int.reduceEq,Int.reduceLT,Int.reduceLE,Nat.reduceLT,ti2,ti3,ti4,ti45,ti46,ti38,ti25,ti30,ti22,ti32,ti24,ti95,ti172,ti169,ti165,ti166,ti65,ti143,ti87, h4, h2, hr0, hr1]
      refine ⟨u, rfl, hup.set (Nat.le_refl _) _, ?_⟩
      rw [← hrm]
      exact (Fr.wide (hfr.same (H' := H'.setCells H.next [.int .i64 n, u]) fun i hi _ => by rw [AH.setCells_row, if_neg (by omega)]) (by omega) (by rw [AH.setCells_next]; omega))

/-- A fresh desk of two schedules, each in rows of its own. -/
def FrD (q q' : Int) (n n' : Nat) (l l' : List Int) (H : AH) (v : Value) (H' : AH) : Prop := ∃ p : Value × Value × Nat, v = .agg #[.int .i64 q, p.1, .int .i64 q', p.2.1] ∧
  Up H.next H H' ∧ H.next ≤ p.2.2 ∧ p.2.2 ≤ H'.next ∧ Fr 14 46 H.next p.2.2 H' p.1 n l ∧ Fr 14 46 p.2.2 H'.next H' p.2.1 n' l'

end Go.Proofs.Ytgkmdfjjlghecaa.A
end

section
set_option linter.unusedSimpArgs false
set_option linter.unusedVariables false
set_option maxRecDepth 100000
namespace Go.Proofs.Ytgkmdfjjlghecaa.A
open Go Go.Abs Go.RowKit

def szL (left n : Int) : Int := if left - n < 0 then -1 else left - n

theorem szRoundS_c (v : Value) (n : Nat) (l : List Int) (left : Int) (H : AH) (hv : Rd 14 H v n l) (hl : 0 ≤ left ∧ left ≤ 1048576) (hn : n ≤ 9223372036854775807) :
    ACalls Try.prog 81 [v, .int .i64 left] H (is (.int .i64 (szL left n)) H) := by
  refine acalls_of_awp [.tmp 4] Try.func81 (by kernel_rfl) rfl rfl (Nat.le_of_ble_eq_true rfl) (by kernel_rfl) ?_
  by_cases h : left - n < 0
  · try simp (disch := first | omega | (simp only [ints_length, List.length_replicate]; done) | (simp only [ints_length, List.length_replicate]; omega)) only [Sall,evalOp,init,binE,binI,unE,convE,okNil,builtE,gv,TD.isAgg,resV,↓reduceIte,Nat.reduceEqDiff,reduceCtorEq,Nat.reduceAdd,Nat.reduceMul,Nat.reduceLeDiff,quietOp,blindOp,Int.reduceEq,Int.reduceLT,Int.reduceLE,Nat.reduceLT,ti2,ti3,ti4,ti45,ti46,ti38,ti25,ti30,ti22,ti32,ti24,ti95,ti172,ti169,ti165,ti166,ti65,ti143,ti87, builtE, hv.len, w64, h, decide_true, is, szL]
  · try simp (disch := first | omega | (simp only [ints_length, List.length_replicate]; done) | (simp only [ints_length, List.length_replicate]; omega)) only [Sall,evalOp,init,binE,binI,unE,convE,okNil,builtE,gv,TD.isAgg,resV,↓reduceIte,Nat.reduceEqDiff,reduceCtorEq,Nat.reduceAdd,Nat.reduceMul,Nat.reduceLeDiff,quietOp,blindOp,Int.reduceEq,Int.reduceLT,Int.reduceLE,Nat.reduceLT,ti2,ti3,ti4,ti45,ti46,ti38,ti25,ti30,ti22,ti32,ti24,ti95,ti172,ti169,ti165,ti166,ti65,ti143,ti87, builtE, hv.len, w64, h, decide_false, is, szL]

theorem szSchedule_c (q : Int) (v : Value) (n : Nat) (l : List Int) (left : Int) (H : AH) (hv : Rd 14 H v n l) (hl : 0 ≤ left ∧ left ≤ 1048576) (hn : n ≤ 9223372036854775807) :
    ACalls Try.prog 11 [.agg #[.int .i64 q, v], .int .i64 left] H (is (.int .i64 (szL left n)) H) := by
  refine ACalls.wf (by kernel_rfl) fun hs => acalls_up rfl (acalls_of_awp [.tmp 4] Try.func11 (by kernel_rfl) rfl rfl (Nat.le_of_ble_eq_true rfl) (by kernel_rfl) ?_)
  have up : Up H.next H (H.push ⟨24, true, [.int .i64 q, v]⟩) := (Up.refl _ H).push (Nat.le_refl _) _
  try simp (disch := first | omega | (simp only [ints_length, List.length_replicate]; done) | (simp only [ints_length, List.length_replicate]; omega)) only [Sall,evalOp,init,binE,binI,unE,convE,okNil,builtE,gv,TD.isAgg,resV,↓reduceIte,Nat.reduceEqDiff,reduceCtorEq,Nat.reduceAdd,Nat.reduceMul,Nat.reduceLeDiff,quietOp,blindOp,Int.reduceEq,Int.reduceLT,Int.reduceLE,Nat.reduceLT,ti2,ti3,ti4,ti45,ti46,ti38,ti25,ti30,ti22,ti32,ti24,ti95,ti172,ti169,ti165,ti166,ti65,ti143,ti87, true_and]
  refine (szRoundS_c v n l left _ (hv.same (up.le hs).row) hl hn).to ?_
  by_cases h : left - n < 0
  · have e : szL left n = -1 := by unfold szL; rw [if_pos h]
    try simp (disch := first | omega | (simp only [ints_length, List.length_replicate]; done) | (simp only [ints_length, List.length_replicate]; omega)) only [Sall,evalOp,init,binE,binI,unE,convE,okNil,builtE,gv,TD.isAgg,resV,↓reduceIte,Nat.reduceEqDiff,reduceCtorEq,Nat.reduceAdd,Nat.reduceMul,Nat.reduceLeDiff,quietOp,blindOp,Int.reduceEq,Int.reduceLT,Int.reduceLE,Nat.reduceLT,ti2,ti3,ti4,ti45,ti46,ti38,ti25,ti30,ti22,ti32,ti24,ti95,ti172,ti169,ti165,ti166,ti65,ti143,ti87, e, decide_true]
    exact up
  · have e : szL left n = left - n := by unfold szL; rw [if_neg h]
    try simp (disch := first | omega | (simp only [ints_length, List.length_replicate]; done) | (simp only [ints_length, List.length_replicate]; omega)) only [Sall,evalOp,init,binE,binI,unE,convE,okNil,builtE,gv,TD.isAgg,resV,↓reduceIte,Nat.reduceEqDiff,reduceCtorEq,Nat.reduceAdd,Nat.reduceMul,Nat.reduceLeDiff,quietOp,blindOp,Int.reduceEq,Int.reduceLT,Int.reduceLE,Nat.reduceLT,ti2,ti3,ti4,ti45,ti46,ti38,ti25,ti30,ti22,ti32,ti24,ti95,ti172,ti169,ti165,ti166,ti65,ti143,ti87, e, h, decide_false]
    exact up

theorem toRound_c (r : List Int) (hr : r.length = 14) (H : AH) : ACalls Try.prog 158 [.agg (ints r).toArray] H (is (.agg (ints r).toArray) H) := by
  refine acalls_up (flat_ints _) (acalls_of_awp [.cell 2 46] Try.func158 (by kernel_rfl) rfl rfl (Nat.le_of_ble_eq_true rfl) (by kernel_rfl) ?_)
  try simp (disch := first | omega | (simp only [ints_length, List.length_replicate]; done) | (simp only [ints_length, List.length_replicate]; omega)) only [Sall,evalOp,init,binE,binI,unE,convE,okNil,builtE,gv,TD.isAgg,resV,↓reduceIte,Nat.reduceEqDiff,reduceCtorEq,Nat.reduceAdd,Nat.reduceMul,Nat.reduceLeDiff,quietOp,blindOp,Int.reduceEq,Int.reduceLT,Int.reduceLE,Nat.reduceLT,ti2,ti3,ti4,ti45,ti46,ti38,ti25,ti30,ti22,ti32,ti24,ti95,ti172,ti169,ti165,ti166,ti65,ti143,ti87, true_and]
  refine awp_loop (fun m t H' => ∃ a : Nat, m = 14 - a ∧ a ≤ 14 ∧ t 4 = .int .i64 a ∧ t 1 = .pointer (some ⟨H.next, 0, none⟩) ∧ t 2 = .pointer (some ⟨H.next + 1, 0, none⟩) ∧ t 3 = .pointer (some ⟨H.next + 2, 0, none⟩) ∧ Up H.next H H' ∧
    H'.row H.next = some ⟨45, true, ints r⟩ ∧ H'.row (H.next + 1) = some ⟨46, true, ints (List.replicate 14 0)⟩ ∧ H'.row (H.next + 2) = some ⟨46, true, ints (copyL 1 r 14 a)⟩) 14 ?_ ?_
  · refine ⟨0, by omega, by omega, ?_⟩
    try simp (disch := first | omega | (simp only [ints_length, List.length_replicate]; done) | (simp only [ints_length, List.length_replicate]; omega)) only [Sall,evalOp,init,binE,binI,unE,convE,okNil,builtE,gv,TD.isAgg,resV,↓reduceIte,Nat.reduceEqDiff,reduceCtorEq,Nat.reduceAdd,Nat.reduceMul,Nat.reduceLeDiff,quietOp,blindOp,Int.reduceEq,Int.reduceLT,Int.reduceLE,Nat.reduceLT,ti2,ti3,ti4,ti45,ti46,ti38,ti25,ti30,ti22,ti32,ti24,ti95,ti172,ti169,ti165,ti166,ti65,ti143,ti87, Int.natCast_zero]
    refine ⟨((((Up.refl _ H).push (by omega) _).push (Nat.le_succ _) _).push (Nat.le_succ_of_le (Nat.le_succ _)) _), ?_⟩
    rw [copyL_zero]
  · rintro m t H' ⟨a, hm, h14, h4, h1, h2, h3, hup, hr0, hr1, hr2⟩
    try simp (disch := first | omega | (simp only [ints_length, List.length_replicate]; done) | (simp only [ints_length, List.length_replicate]; omega)) only [Sall,evalOp,init,binE,binI,unE,convE,okNil,builtE,gv,TD.isAgg,resV,↓reduceIte,Nat.reduceEqDiff,reduceCtorEq,Nat.reduceAdd,Nat.reduceMul,Nat.reduceLeDiff,quietOp,blindOp,Int.reduceEq,Int.reduceLT,Int.reduceLE,Nat.reduceLT,ti2,ti3,ti4,ti45,ti46,ti38,ti25,ti30,ti22,ti32,ti24,ti95,ti172,ti169,ti165,ti166,ti65,ti143,ti87, h4]
    refine condC_dec (fun h => ?_) (fun h => ?_)
    · have hl := copyL_length 1 r 14 a (by omega) (by omega)
      have hst := copyL_set r 14 a hr (by omega)
      try simp (disch := first | omega | (simp only [ints_length, List.length_replicate]; done) | (simp only [ints_length, List.length_replicate]; omega)) only [Sall,evalOp,init,binE,binI,unE,convE,okNil,builtE,gv,TD.isAgg,resV,↓reduceIte,Nat.reduceEqDiff,reduceCtorEq,Nat.reduceAdd,Nat.reduceMul,Nat.reduceLeDiff,quietOp,blindOp,Int.reduceEq,Int.reduceLT,Int.reduceLE,Nat.reduceLT,ti2,ti3,ti4,ti45,ti46,ti38,ti25,ti30,ti22,ti32,ti24,ti95,ti172,ti169,ti165,ti166,ti65,ti143,ti87, h4, h1, h3, hr0, hr1, hr2, ints_get?, ints_set, hl, hst, w64]
      exact ⟨⟨by omega, by omega⟩, ⟨by omega, by omega⟩, by omega, 14 - (a + 1), by omega, a + 1, rfl, by omega, by omega, h2, hup.set (by omega) _, rfl⟩
    · have ha : a = 14 := by omega
      subst ha
      rw [copyL_all 1 r 14 (by omega)] at hr2
      try simp (disch := first | omega | (simp only [ints_length, List.length_replicate]; done) | (simp only [ints_length, List.length_replicate]; omega)) only [Sall,evalOp,init,binE,binI,unE,convE,okNil,builtE,gv,TD.isAgg,resV,↓reduceIte,Nat.reduceEqDiff,reduceCtorEq,Nat.reduceAdd,Nat.reduceMul,Nat.reduceLeDiff,quietOp,blindOp,Int.reduceEq,Int.reduceLT,Int.reduceLE,Nat.reduceLT,ti2,ti3,ti4,ti45,ti46,ti38,ti25,ti30,ti22,ti32,ti24,ti95,ti172,ti169,ti165,ti166,ti65,ti143,ti87, h4, h2, h3, hr0, hr1, hr2, hr]
      exact hup.set (by omega) _

theorem toRoundS_c (v : Value) (n : Nat) (l : List Int) (H : AH) (hv : Rd 14 H v n l) (hn : n ≤ 4194304) :
    ACalls Try.prog 85 [v] H (fun u H' => Up H.next H H' ∧ Fr 14 46 H.next H'.next H' u n l) := by
  refine ACalls.wf (by kernel_rfl) fun hs => acalls_of_awp [.tmp 2] Try.func85 (by kernel_rfl) rfl rfl (Nat.le_of_ble_eq_true rfl) (by kernel_rfl) ?_
  have up : ∀ cs, Up H.next H (H.push ⟨46, true, cs⟩) := fun cs => (Up.refl _ H).push (Nat.le_refl _) _
  have hv1 : ∀ cs, Rd 14 (H.push ⟨46, true, cs⟩) v n l := fun cs => hv.same ((up cs).le hs).row
  try simp (disch := first | omega | (simp only [ints_length, List.length_replicate]; done) | (simp only [ints_length, List.length_replicate]; omega)) only [Sall,evalOp,init,binE,binI,unE,convE,okNil,builtE,gv,TD.isAgg,resV,↓reduceIte,Nat.reduceEqDiff,reduceCtorEq,Nat.reduceAdd,Nat.reduceMul,Nat.reduceLeDiff,quietOp,blindOp,Int.reduceEq,Int.reduceLT,Int.reduceLE,Nat.reduceLT,ti2,ti3,ti4,ti45,ti46,ti38,ti25,ti30,ti22,ti32,ti24,ti95,ti172,ti169,ti165,ti166,ti65,ti143,ti87, builtE, hv.len, zeros_ints]
  refine ⟨by omega, ?_⟩
  refine awp_loop (fun m t H' => ∃ a : Nat, m = n - a ∧ a ≤ n ∧ t 4 = .int .i64 a ∧ t 0 = v ∧ t 3 = .slice (some ⟨H.next, 0, some 14⟩) n n ∧ H' = H.push ⟨46, true, ints (copyL 14 l n a)⟩) n ?_ ?_
  · refine ⟨0, by omega, by omega, ?_⟩
    try simp (disch := first | omega | (simp only [ints_length, List.length_replicate]; done) | (simp only [ints_length, List.length_replicate]; omega)) only [Sall,evalOp,init,binE,binI,unE,convE,okNil,builtE,gv,TD.isAgg,resV,↓reduceIte,Nat.reduceEqDiff,reduceCtorEq,Nat.reduceAdd,Nat.reduceMul,Nat.reduceLeDiff,quietOp,blindOp,Int.reduceEq,Int.reduceLT,Int.reduceLE,Nat.reduceLT,ti2,ti3,ti4,ti45,ti46,ti38,ti25,ti30,ti22,ti32,ti24,ti95,ti172,ti169,ti165,ti166,ti65,ti143,ti87, Int.natCast_zero, copyL_zero]
  · rintro m t H' ⟨a, hm, h14, h4, h0, h3, rfl⟩
    try simp (disch := first | omega | (simp only [ints_length, List.length_replicate]; done) | (simp only [ints_length, List.length_replicate]; omega)) only [Sall,evalOp,init,binE,binI,unE,convE,okNil,builtE,gv,TD.isAgg,resV,↓reduceIte,Nat.reduceEqDiff,reduceCtorEq,Nat.reduceAdd,Nat.reduceMul,Nat.reduceLeDiff,quietOp,blindOp,Int.reduceEq,Int.reduceLT,Int.reduceLE,Nat.reduceLT,ti2,ti3,ti4,ti45,ti46,ti38,ti25,ti30,ti22,ti32,ti24,ti95,ti172,ti169,ti165,ti166,ti65,ti143,ti87, h4, h0, builtE, hv.len]
    refine condC_dec (fun h => ?_) (fun h => ?_)
    · have hst := copyL_step 14 l n a hv.1 (by omega)
      have hcl := copyL_length 14 l n a hv.1 (by omega)
      obtain ⟨i, o, u, c, r, rfl, hr, hc, hs1, hg⟩ := hv.get (by omega)
      have hne : ¬ i = H.next := by have := hs _ _ hr; omega
      try simp (disch := first | omega | (simp only [ints_length, List.length_replicate]; done) | (simp only [ints_length, List.length_replicate]; omega)) only [Sall,evalOp,init,binE,binI,unE,convE,okNil,builtE,gv,TD.isAgg,resV,↓reduceIte,Nat.reduceEqDiff,reduceCtorEq,Nat.reduceAdd,Nat.reduceMul,Nat.reduceLeDiff,quietOp,blindOp,Int.reduceEq,Int.reduceLT,Int.reduceLE,Nat.reduceLT,ti2,ti3,ti4,ti45,ti46,ti38,ti25,ti30,ti22,ti32,ti24,ti95,ti172,ti169,ti165,ti166,ti65,ti143,ti87, h4, h0, h3, hr, hne, hg]
      have hll : ((l.drop (a * 14)).take 14).length = 14 := by rw [List.length_take, List.length_drop, hv.1]; omega
      refine ⟨⟨by omega, by omega⟩, by omega, (toRound_c _ hll _).to ?_⟩
      try simp (disch := first | omega | (simp only [ints_length, List.length_replicate]; done) | (simp only [ints_length, List.length_replicate]; omega)) only [Sall,evalOp,init,binE,binI,unE,convE,okNil,builtE,gv,TD.isAgg,resV,↓reduceIte,Nat.reduceEqDiff,reduceCtorEq,Nat.reduceAdd,Nat.reduceMul,Nat.reduceLeDiff,quietOp,blindOp,Int.reduceEq,Int.reduceLT,Int.reduceLE,Nat.reduceLT,ti2,ti3,ti4,ti45,ti46,ti38,ti25,ti30,ti22,ti32,ti24,ti95,ti172,ti169,ti165,ti166,ti65,ti143,ti87, h4, h0, h3, hll, hcl, hst, push_setCells, w64]
      refine ⟨⟨by omega, by omega⟩, by omega, n - (a + 1), by omega, a + 1, ?_⟩
      and_intros <;> first | omega | rfl | assumption
    · have ha : a = n := by omega
      subst ha
      try simp (disch := first | omega | (simp only [ints_length, List.length_replicate]; done) | (simp only [ints_length, List.length_replicate]; omega)) only [Sall,evalOp,init,binE,binI,unE,convE,okNil,builtE,gv,TD.isAgg,resV,↓reduceIte,Nat.reduceEqDiff,reduceCtorEq,Nat.reduceAdd,Nat.reduceMul,Nat.reduceLeDiff,quietOp,blindOp,Int.reduceEq,Int.reduceLT,Int.reduceLE,Nat.reduceLT,ti2,ti3,ti4,ti45,ti46,ti38,ti25,ti30,ti22,ti32,ti24,ti95,ti172,ti169,ti165,ti166,ti65,ti143,ti87, h3]
      rw [copyL_all 14 l a hv.1]
      exact ⟨up _, hv.1, .inr ⟨H.next, Nat.le_refl _, Nat.lt_succ_self _, rfl, by rw [AH.push_row, if_pos rfl]⟩⟩

/-- A result that is a value known but for a part: told as there is one. -/
theorem toSchedule_c (q : Int) (v : Value) (n : Nat) (l : List Int) (H : AH) (hv : Rd 14 H v n l) (hn : n ≤ 4194304) :
    ACalls Try.prog 14 [.agg #[.int .i64 q, v]] H (FrS q n l H) := by
  refine ACalls.wf (by kernel_rfl) fun hs => acalls_of_awp [.cell 2 32] Try.func14 (by kernel_rfl) rfl rfl (Nat.le_of_ble_eq_true rfl) (by kernel_rfl) ?_
  have k0 := hv.one
  try simp (disch := first | omega | (simp only [ints_length, List.length_replicate]; done) | (simp only [ints_length, List.length_replicate]; omega)) only [Sall,evalOp,init,binE,binI,unE,convE,okNil,builtE,gv,TD.isAgg,resV,↓reduceIte,Nat.reduceEqDiff,reduceCtorEq,Nat.reduceAdd,Nat.reduceMul,Nat.reduceLeDiff,quietOp,blindOp,Int.reduceEq,Int.reduceLT,Int.reduceLE,Nat.reduceLT,ti2,ti3,ti4,ti45,ti46,ti38,ti25,ti30,ti22,ti32,ti24,ti95,ti172,ti169,ti165,ti166,ti65,ti143,ti87, k0]
  obtain ⟨H1, e1⟩ : ∃ H1, H1 = (((H.push ⟨24, true, [.int .i64 q, v]⟩).push ⟨32, true, [.int .i64 0, .slice none 0 0]⟩).push ⟨32, true, [.int .i64 0, .slice none 0 0]⟩).setCells (H.next + 2) [.int .i64 q, .slice none 0 0] := ⟨_, rfl⟩
  have up : Up H.next H H1 := by rw [e1]; exact ((((Up.refl _ H).push (by omega) _).push (Nat.le_succ _) _).push (Nat.le_succ_of_le (Nat.le_succ _)) _).set (by omega) _
  have n1 : H1.next = H.next + 3 := by rw [e1]; rfl
  have a0 : H1.row (H.next + 1) = some ⟨32, true, [.int .i64 0, .slice none 0 0]⟩ := by rw [e1]; simp [AH.setCells_row, AH.push_row, AH.push_next]
  have a1 : H1.row (H.next + 2) = some ⟨32, true, [.int .i64 q, .slice none 0 0]⟩ := by rw [e1]; simp [AH.setCells_row, AH.push_row, AH.push_next]
  rw [← e1]
  clear e1
  refine (toRoundS_c v n l H1 (hv.same (up.le hs).row) hn).mono ?_
  rintro u H2 ⟨up2, hfr⟩
  have b0 : H2.row (H.next + 1) = some ⟨32, true, [.int .i64 0, .slice none 0 0]⟩ := by rw [up2.row _ (by omega), a0]
  have b1 : H2.row (H.next + 2) = some ⟨32, true, [.int .i64 q, .slice none 0 0]⟩ := by rw [up2.row _ (by omega), a1]
  have k1 := hfr.rd.one
  have n2 := up2.next
  have ne1 : ¬ (H.next + 1 = H.next + 2) := by omega
  refine Holds.mp ?_
  try simp (disch := first | omega | (simp only [ints_length, List.length_replicate]; done) | (simp only [ints_length, List.length_replicate]; omega)) only [Sall,evalOp,init,binE,binI,unE,convE,okNil,builtE,gv,TD.isAgg,resV,↓reduceIte,Nat.reduceEqDiff,reduceCtorEq,Nat.reduceAdd,Nat.reduceMul,Nat.reduceLeDiff,quietOp,blindOp,Int.reduceEq,Int.reduceLT,Int.reduceLE,Nat.reduceLT,ti2,ti3,ti4,ti45,ti46,ti38,ti25,ti30,ti22,ti32,ti24,ti95,ti172,ti169,ti165,ti166,ti65,ti143,ti87, b0, b1, k1, ne1]
  refine ⟨u, rfl, ⟨by simp only [AH.setCells_next]; omega, fun i hi => ?_⟩, ?_⟩
  · rw [AH.setCells_row, if_neg (by omega), AH.setCells_row, if_neg (by omega), up2.row i (by omega), up.row i hi]
  · refine (Fr.same (Fr.wide hfr (lo' := H1.next) (hi' := H2.next) (by omega) (by omega)) ?_).wide (by omega) (by simp only [AH.setCells_next]; omega)
    intro i hi _
    rw [AH.setCells_row, if_neg (by omega), AH.setCells_row, if_neg (by omega)]

end Go.Proofs.Ytgkmdfjjlghecaa.A
end

section
set_option linter.unusedSimpArgs false
set_option linter.unusedVariables false
set_option maxRecDepth 100000
namespace Go.Proofs.Ytgkmdfjjlghecaa.A
open Go Go.Abs Go.RowKit

theorem eqInt64S_c (va vb : Value) (n m : Nat) (l : List Int) (hn : n ≤ 4294967296) (H : AH) (ha : Rd 1 H va n l) (hb : Rd 1 H vb m l) : ACalls Try.prog 21 [va, vb] H (is (.bool true) H) := by
  have hmn : m = n := by rw [ha.lenK1, hb.lenK1]
  subst hmn
  refine acalls_up rfl (acalls_of_awp [.tmp 4] Try.func21 (by kernel_rfl) rfl rfl (Nat.le_of_ble_eq_true rfl) (by kernel_rfl) ?_)
  try simp (disch := first | omega | (simp only [ints_length, List.length_replicate]; done) | (simp only [ints_length, List.length_replicate]; omega)) only [Sall,evalOp,init,binE,binI,unE,convE,okNil,builtE,gv,TD.isAgg,resV,↓reduceIte,Nat.reduceEqDiff,reduceCtorEq,Nat.reduceAdd,Nat.reduceMul,Nat.reduceLeDiff,quietOp,blindOp,Int.reduceEq,Int.reduceLT,Int.reduceLE,Nat.reduceLT,ti2,ti3,ti4,ti45,ti46,ti38,ti25,ti30,ti22,ti32,ti24,ti95,ti172,ti169,ti165,ti166,ti65,ti143,ti87, builtE, ha.len, hb.len, bne_self_eq_false]
  refine awp_loop (fun x t H' => ∃ a : Nat, x = m - a ∧ a ≤ m ∧ t 5 = .int .i64 a ∧ t 0 = va ∧ t 1 = vb ∧ H' = H) m ?_ ?_
  · refine ⟨0, by omega, by omega, ?_⟩
    try simp (disch := first | omega | (simp only [ints_length, List.length_replicate]; done) | (simp only [ints_length, List.length_replicate]; omega)) only [Sall,evalOp,init,binE,binI,unE,convE,okNil,builtE,gv,TD.isAgg,resV,↓reduceIte,Nat.reduceEqDiff,reduceCtorEq,Nat.reduceAdd,Nat.reduceMul,Nat.reduceLeDiff,quietOp,blindOp,Int.reduceEq,Int.reduceLT,Int.reduceLE,Nat.reduceLT,ti2,ti3,ti4,ti45,ti46,ti38,ti25,ti30,ti22,ti32,ti24,ti95,ti172,ti169,ti165,ti166,ti65,ti143,ti87, Int.natCast_zero]
  · rintro x t H' ⟨a, hm, h14, h5, h2, h3, rfl⟩
    try simp (disch := first | omega | (simp only [ints_length, List.length_replicate]; done) | (simp only [ints_length, List.length_replicate]; omega)) only [Sall,evalOp,init,binE,binI,unE,convE,okNil,builtE,gv,TD.isAgg,resV,↓reduceIte,Nat.reduceEqDiff,reduceCtorEq,Nat.reduceAdd,Nat.reduceMul,Nat.reduceLeDiff,quietOp,blindOp,Int.reduceEq,Int.reduceLT,Int.reduceLE,Nat.reduceLT,ti2,ti3,ti4,ti45,ti46,ti38,ti25,ti30,ti22,ti32,ti24,ti95,ti172,ti169,ti165,ti166,ti65,ti143,ti87, h5, h2, builtE, ha.len]
    refine condC_dec (fun h => ?_) (fun h => ?_)
    · obtain ⟨i, o, u, c, r, rfl, hr, hc, hs, hg⟩ := ha.get (by omega)
      obtain ⟨i', o', u', c', r', rfl, hr', hc', hs', hg'⟩ := hb.get (by omega)
      refine draw_id (by kernel_rfl) (by kernel_rfl) ?_
      try simp (disch := first | omega | (simp only [ints_length, List.length_replicate]; done) | (simp only [ints_length, List.length_replicate]; omega)) only [Sall,evalOp,init,binE,binI,unE,convE,okNil,builtE,gv,TD.isAgg,resV,↓reduceIte,Nat.reduceEqDiff,reduceCtorEq,Nat.reduceAdd,Nat.reduceMul,Nat.reduceLeDiff,quietOp,blindOp,Int.reduceEq,Int.reduceLT,Int.reduceLE,Nat.reduceLT,ti2,ti3,ti4,ti45,ti46,ti38,ti25,ti30,ti22,ti32,ti24,ti95,ti172,ti169,ti165,ti166,ti65,ti143,ti87, h5, h2, h3, hr, hr', hs, hs', bne_self_eq_false, w64]
      refine ⟨⟨by omega, by omega⟩, ⟨by omega, by omega⟩, m - (a + 1), by omega, a + 1, ?_⟩
      and_intros <;> first | omega | rfl | assumption
    · try simp (disch := first | omega | (simp only [ints_length, List.length_replicate]; done) | (simp only [ints_length, List.length_replicate]; omega)) only [Sall,evalOp,init,binE,binI,unE,convE,okNil,builtE,gv,TD.isAgg,resV,↓reduceIte,Nat.reduceEqDiff,reduceCtorEq,Nat.reduceAdd,Nat.reduceMul,Nat.reduceLeDiff,quietOp,blindOp,Int.reduceEq,Int.reduceLT,Int.reduceLE,Nat.reduceLT,ti2,ti3,ti4,ti45,ti46,ti38,ti25,ti30,ti22,ti32,ti24,ti95,ti172,ti169,ti165,ti166,ti65,ti143,ti87, true_and]
      exact Up.refl _ _

theorem eqInt64SS_c (va vb : Value) (ll : List (List Int)) (hn : ll.length ≤ 4294967296) (hn2 : ∀ l ∈ ll, l.length ≤ 4294967296) (H : AH) (ha : Rd2 1 H va ll) (hb : Rd2 1 H vb ll) : ACalls Try.prog 18 [va, vb] H (is (.bool true) H) := by
  refine acalls_up rfl (acalls_of_awp [.tmp 4] Try.func18 (by kernel_rfl) rfl rfl (Nat.le_of_ble_eq_true rfl) (by kernel_rfl) ?_)
  try simp (disch := first | omega | (simp only [ints_length, List.length_replicate]; done) | (simp only [ints_length, List.length_replicate]; omega)) only [Sall,evalOp,init,binE,binI,unE,convE,okNil,builtE,gv,TD.isAgg,resV,↓reduceIte,Nat.reduceEqDiff,reduceCtorEq,Nat.reduceAdd,Nat.reduceMul,Nat.reduceLeDiff,quietOp,blindOp,Int.reduceEq,Int.reduceLT,Int.reduceLE,Nat.reduceLT,ti2,ti3,ti4,ti45,ti46,ti38,ti25,ti30,ti22,ti32,ti24,ti95,ti172,ti169,ti165,ti166,ti65,ti143,ti87, builtE, ha.len, hb.len, bne_self_eq_false]
  refine awp_loop (fun x t H' => ∃ a : Nat, x = ll.length - a ∧ a ≤ ll.length ∧ t 5 = .int .i64 a ∧ t 0 = va ∧ t 1 = vb ∧ H' = H) ll.length ?_ ?_
  · refine ⟨0, by omega, by omega, ?_⟩
    try simp (disch := first | omega | (simp only [ints_length, List.length_replicate]; done) | (simp only [ints_length, List.length_replicate]; omega)) only [Sall,evalOp,init,binE,binI,unE,convE,okNil,builtE,gv,TD.isAgg,resV,↓reduceIte,Nat.reduceEqDiff,reduceCtorEq,Nat.reduceAdd,Nat.reduceMul,Nat.reduceLeDiff,quietOp,blindOp,Int.reduceEq,Int.reduceLT,Int.reduceLE,Nat.reduceLT,ti2,ti3,ti4,ti45,ti46,ti38,ti25,ti30,ti22,ti32,ti24,ti95,ti172,ti169,ti165,ti166,ti65,ti143,ti87, Int.natCast_zero]
  · rintro x t H' ⟨a, hm, h14, h5, h2, h3, rfl⟩
    try simp (disch := first | omega | (simp only [ints_length, List.length_replicate]; done) | (simp only [ints_length, List.length_replicate]; omega)) only [Sall,evalOp,init,binE,binI,unE,convE,okNil,builtE,gv,TD.isAgg,resV,↓reduceIte,Nat.reduceEqDiff,reduceCtorEq,Nat.reduceAdd,Nat.reduceMul,Nat.reduceLeDiff,quietOp,blindOp,Int.reduceEq,Int.reduceLT,Int.reduceLE,Nat.reduceLT,ti2,ti3,ti4,ti45,ti46,ti38,ti25,ti30,ti22,ti32,ti24,ti95,ti172,ti169,ti165,ti166,ti65,ti143,ti87, h5, h2, builtE, ha.len]
    refine condC_dec (fun h => ?_) (fun h => ?_)
    · obtain ⟨i, o, u, c, r, y, m, rfl, hr, hy, hs, hk⟩ := ha.get (j := a) (by omega)
      obtain ⟨i', o', u', c', r', y', m', rfl, hr', hy', hs', hk'⟩ := hb.get (j := a) (by omega)
      refine draw_id (by kernel_rfl) (by kernel_rfl) ?_
      have hmem : ll.getD a [] ∈ ll := by rw [List.getD_eq_getElem?_getD, List.getElem?_eq_getElem (by omega)]; exact List.getElem_mem _
      have hml := hn2 _ hmem
      try simp (disch := first | omega | (simp only [ints_length, List.length_replicate]; done) | (simp only [ints_length, List.length_replicate]; omega)) only [Sall,evalOp,init,binE,binI,unE,convE,okNil,builtE,gv,TD.isAgg,resV,↓reduceIte,Nat.reduceEqDiff,reduceCtorEq,Nat.reduceAdd,Nat.reduceMul,Nat.reduceLeDiff,quietOp,blindOp,Int.reduceEq,Int.reduceLT,Int.reduceLE,Nat.reduceLT,ti2,ti3,ti4,ti45,ti46,ti38,ti25,ti30,ti22,ti32,ti24,ti95,ti172,ti169,ti165,ti166,ti65,ti143,ti87, h5, h2, h3, hr, hr', hy, hy', hk, hk']
      refine ⟨⟨by omega, by omega⟩, ⟨by omega, by omega⟩, (eqInt64S_c y y' m m' _ (by rw [hs.lenK1]; exact hml) _ hs hs').to ⟨.inr (.inr (LE.refl _)), ?_⟩⟩
      try simp (disch := first | omega | (simp only [ints_length, List.length_replicate]; done) | (simp only [ints_length, List.length_replicate]; omega)) only [Sall,evalOp,init,binE,binI,unE,convE,okNil,builtE,gv,TD.isAgg,resV,↓reduceIte,Nat.reduceEqDiff,reduceCtorEq,Nat.reduceAdd,Nat.reduceMul,Nat.reduceLeDiff,quietOp,blindOp,Int.reduceEq,Int.reduceLT,Int.reduceLE,Nat.reduceLT,ti2,ti3,ti4,ti45,ti46,ti38,ti25,ti30,ti22,ti32,ti24,ti95,ti172,ti169,ti165,ti166,ti65,ti143,ti87, h5, h2, h3, w64]
      refine ⟨ll.length - (a + 1), by omega, a + 1, ?_⟩
      and_intros <;> first | omega | rfl | assumption
    · try simp (disch := first | omega | (simp only [ints_length, List.length_replicate]; done) | (simp only [ints_length, List.length_replicate]; omega)) only [Sall,evalOp,init,binE,binI,unE,convE,okNil,builtE,gv,TD.isAgg,resV,↓reduceIte,Nat.reduceEqDiff,reduceCtorEq,Nat.reduceAdd,Nat.reduceMul,Nat.reduceLeDiff,quietOp,blindOp,Int.reduceEq,Int.reduceLT,Int.reduceLE,Nat.reduceLT,ti2,ti3,ti4,ti45,ti46,ti38,ti25,ti30,ti22,ti32,ti24,ti95,ti172,ti169,ti165,ti166,ti65,ti143,ti87, true_and]
      exact Up.refl _ _

theorem markInt64S_c (ty lo hi : Nat) (v : Value) (n : Nat) (l : List Int) (k0 : Int) (hk : 0 ≤ k0 ∧ k0 ≤ 4294967296) (hn : n ≤ 4294967296) (H : AH) (hv : Fr 1 ty lo hi H v n l) :
    ACalls Try.prog 24 [v, .int .i64 k0] H (fun r H' => r = .int .i64 (k0 + n) ∧ H'.next = H.next ∧ (∀ i, ¬(lo ≤ i ∧ i < hi) → H'.row i = H.row i) ∧ Fr 1 ty lo hi H' v n (seqL k0 n)) := by
  refine acalls_of_awp [.tmp 4] Try.func24 (by kernel_rfl) rfl rfl (Nat.le_of_ble_eq_true rfl) (by kernel_rfl) ?_
  try simp (disch := first | omega | (simp only [ints_length, List.length_replicate]; done) | (simp only [ints_length, List.length_replicate]; omega)) only [Sall,evalOp,init,binE,binI,unE,convE,okNil,builtE,gv,TD.isAgg,resV,↓reduceIte,Nat.reduceEqDiff,reduceCtorEq,Nat.reduceAdd,Nat.reduceMul,Nat.reduceLeDiff,quietOp,blindOp,Int.reduceEq,Int.reduceLT,Int.reduceLE,Nat.reduceLT,ti2,ti3,ti4,ti45,ti46,ti38,ti25,ti30,ti22,ti32,ti24,ti95,ti172,ti169,ti165,ti166,ti65,ti143,ti87, true_and]
  have hl := hv.lenK1
  refine awp_loop (fun m t H' => ∃ a : Nat, m = n - a ∧ a ≤ n ∧ t 5 = .int .i64 a ∧ t 1 = .int .i64 (k0 + a) ∧ t 0 = v ∧ H'.next = H.next ∧ (∀ i, ¬(lo ≤ i ∧ i < hi) → H'.row i = H.row i) ∧ Fr 1 ty lo hi H' v n (markL k0 l a)) n ?_ ?_
  · refine ⟨0, by omega, by omega, ?_⟩
    try simp (disch := first | omega | (simp only [ints_length, List.length_replicate]; done) | (simp only [ints_length, List.length_replicate]; omega)) only [Sall,evalOp,init,binE,binI,unE,convE,okNil,builtE,gv,TD.isAgg,resV,↓reduceIte,Nat.reduceEqDiff,reduceCtorEq,Nat.reduceAdd,Nat.reduceMul,Nat.reduceLeDiff,quietOp,blindOp,Int.reduceEq,Int.reduceLT,Int.reduceLE,Nat.reduceLT,ti2,ti3,ti4,ti45,ti46,ti38,ti25,ti30,ti22,ti32,ti24,ti95,ti172,ti169,ti165,ti166,ti65,ti143,ti87, markL_zero, Int.natCast_zero]
    exact ⟨by omega, hv⟩
  · rintro m t H' ⟨a, hm, h14, h5, h1, h0, hnx, hsm, hfr⟩
    try simp (disch := first | omega | (simp only [ints_length, List.length_replicate]; done) | (simp only [ints_length, List.length_replicate]; omega)) only [Sall,evalOp,init,binE,binI,unE,convE,okNil,builtE,gv,TD.isAgg,resV,↓reduceIte,Nat.reduceEqDiff,reduceCtorEq,Nat.reduceAdd,Nat.reduceMul,Nat.reduceLeDiff,quietOp,blindOp,Int.reduceEq,Int.reduceLT,Int.reduceLE,Nat.reduceLT,ti2,ti3,ti4,ti45,ti46,ti38,ti25,ti30,ti22,ti32,ti24,ti95,ti172,ti169,ti165,ti166,ti65,ti143,ti87, h5, h1, h0, builtE, hfr.rd.len]
    refine condC_dec (fun h => ?_) (fun h => ?_)
    · obtain ⟨i, hi1, hi2, rfl, hr⟩ := hfr.get (by omega)
      have e2 : (markL k0 l a).set a (k0 + (a : Int)) = markL k0 l (a + 1) := markL_set _ _ _ (by omega)
      have e3 : (markL k0 l a).length = n := by rw [markL_length _ _ _ (by omega), hl]
      try simp (disch := first | omega | (simp only [ints_length, List.length_replicate]; done) | (simp only [ints_length, List.length_replicate]; omega)) only [Sall,evalOp,init,binE,binI,unE,convE,okNil,builtE,gv,TD.isAgg,resV,↓reduceIte,Nat.reduceEqDiff,reduceCtorEq,Nat.reduceAdd,Nat.reduceMul,Nat.reduceLeDiff,quietOp,blindOp,Int.reduceEq,Int.reduceLT,Int.reduceLE,Nat.reduceLT,ti2,ti3,ti4,ti45,ti46,ti38,ti25,ti30,ti22,ti32,ti24,ti95,ti172,ti169,ti165,ti166,ti65,ti143,ti87, h5, h1, h0, hr, ints_set, e2, e3, w64]
      refine ⟨⟨by omega, by omega⟩, by omega, n - (a + 1), by omega, a + 1, rfl, by omega, by omega, by omega, hnx, fun x hx => ?_, ?_⟩
      · rw [if_neg (by omega)]; exact hsm x hx
      · exact hfr.set hr hi1 hi2 (by rw [e3, markL_length _ _ _ (by omega), hl])
    · try simp (disch := first | omega | (simp only [ints_length, List.length_replicate]; done) | (simp only [ints_length, List.length_replicate]; omega)) only [Sall,evalOp,init,binE,binI,unE,convE,okNil,builtE,gv,TD.isAgg,resV,↓reduceIte,Nat.reduceEqDiff,reduceCtorEq,Nat.reduceAdd,Nat.reduceMul,Nat.reduceLeDiff,quietOp,blindOp,Int.reduceEq,Int.reduceLT,Int.reduceLE,Nat.reduceLT,ti2,ti3,ti4,ti45,ti46,ti38,ti25,ti30,ti22,ti32,ti24,ti95,ti172,ti169,ti165,ti166,ti65,ti143,ti87, h1]
      have ha : a = n := by omega
      subst ha
      refine ⟨rfl, hnx, hsm, ?_⟩
      rw [hl] at hfr ⊢
      rwa [markL_all] at hfr

theorem heldInt64S_c (v : Value) (n : Nat) (k0 : Int) (hk : 0 ≤ k0 ∧ k0 ≤ 4294967296) (hn : n ≤ 4294967296) (H : AH) (hv : Rd 1 H v n (seqL k0 n)) :
    ACalls Try.prog 25 [v, .int .i64 k0] H (is (.int .i64 (k0 + n)) H) := by
  refine acalls_up rfl (acalls_of_awp [.tmp 4] Try.func25 (by kernel_rfl) rfl rfl (Nat.le_of_ble_eq_true rfl) (by kernel_rfl) ?_)
  try simp (disch := first | omega | (simp only [ints_length, List.length_replicate]; done) | (simp only [ints_length, List.length_replicate]; omega)) only [Sall,evalOp,init,binE,binI,unE,convE,okNil,builtE,gv,TD.isAgg,resV,↓reduceIte,Nat.reduceEqDiff,reduceCtorEq,Nat.reduceAdd,Nat.reduceMul,Nat.reduceLeDiff,quietOp,blindOp,Int.reduceEq,Int.reduceLT,Int.reduceLE,Nat.reduceLT,ti2,ti3,ti4,ti45,ti46,ti38,ti25,ti30,ti22,ti32,ti24,ti95,ti172,ti169,ti165,ti166,ti65,ti143,ti87, true_and]
  refine awp_loop (fun m t H' => ∃ a : Nat, m = n - a ∧ a ≤ n ∧ t 5 = .int .i64 a ∧ t 1 = .int .i64 (k0 + a) ∧ t 0 = v ∧ H' = H) n ?_ ?_
  · refine ⟨0, by omega, by omega, ?_⟩
    try simp (disch := first | omega | (simp only [ints_length, List.length_replicate]; done) | (simp only [ints_length, List.length_replicate]; omega)) only [Sall,evalOp,init,binE,binI,unE,convE,okNil,builtE,gv,TD.isAgg,resV,↓reduceIte,Nat.reduceEqDiff,reduceCtorEq,Nat.reduceAdd,Nat.reduceMul,Nat.reduceLeDiff,quietOp,blindOp,Int.reduceEq,Int.reduceLT,Int.reduceLE,Nat.reduceLT,ti2,ti3,ti4,ti45,ti46,ti38,ti25,ti30,ti22,ti32,ti24,ti95,ti172,ti169,ti165,ti166,ti65,ti143,ti87, Int.natCast_zero]
    omega
  · rintro m t H' ⟨a, hm, h14, h5, h1, h0, rfl⟩
    try simp (disch := first | omega | (simp only [ints_length, List.length_replicate]; done) | (simp only [ints_length, List.length_replicate]; omega)) only [Sall,evalOp,init,binE,binI,unE,convE,okNil,builtE,gv,TD.isAgg,resV,↓reduceIte,Nat.reduceEqDiff,reduceCtorEq,Nat.reduceAdd,Nat.reduceMul,Nat.reduceLeDiff,quietOp,blindOp,Int.reduceEq,Int.reduceLT,Int.reduceLE,Nat.reduceLT,ti2,ti3,ti4,ti45,ti46,ti38,ti25,ti30,ti22,ti32,ti24,ti95,ti172,ti169,ti165,ti166,ti65,ti143,ti87, h5, h1, h0, builtE, hv.len]
    refine condC_dec (fun h => ?_) (fun h => ?_)
    · obtain ⟨i, o, u, c, r, rfl, hr, hc, hs, _⟩ := hv.get (by omega)
      have e1 := hs a (by omega)
      rw [seqL_getD _ _ _ (by omega)] at e1
      try simp (disch := first | omega | (simp only [ints_length, List.length_replicate]; done) | (simp only [ints_length, List.length_replicate]; omega)) only [Sall,evalOp,init,binE,binI,unE,convE,okNil,builtE,gv,TD.isAgg,resV,↓reduceIte,Nat.reduceEqDiff,reduceCtorEq,Nat.reduceAdd,Nat.reduceMul,Nat.reduceLeDiff,quietOp,blindOp,Int.reduceEq,Int.reduceLT,Int.reduceLE,Nat.reduceLT,ti2,ti3,ti4,ti45,ti46,ti38,ti25,ti30,ti22,ti32,ti24,ti95,ti172,ti169,ti165,ti166,ti65,ti143,ti87, h5, h1, h0, hr, e1, bne_self_eq_false, w64]
      refine ⟨⟨by omega, by omega⟩, n - (a + 1), by omega, a + 1, ?_⟩
      and_intros <;> first | omega | rfl | assumption
    · try simp (disch := first | omega | (simp only [ints_length, List.length_replicate]; done) | (simp only [ints_length, List.length_replicate]; omega)) only [Sall,evalOp,init,binE,binI,unE,convE,okNil,builtE,gv,TD.isAgg,resV,↓reduceIte,Nat.reduceEqDiff,reduceCtorEq,Nat.reduceAdd,Nat.reduceMul,Nat.reduceLeDiff,quietOp,blindOp,Int.reduceEq,Int.reduceLT,Int.reduceLE,Nat.reduceLT,ti2,ti3,ti4,ti45,ti46,ti38,ti25,ti30,ti22,ti32,ti24,ti95,ti172,ti169,ti165,ti166,ti65,ti143,ti87, h1]
      refine ⟨by omega, Up.refl _ _⟩

theorem szInt64S_c (v : Value) (n : Nat) (l : List Int) (left : Int) (H : AH) (hv : Rd 1 H v n l) (hl : 0 ≤ left ∧ left ≤ 1048576) (hn : n ≤ 9223372036854775807) :
    ACalls Try.prog 82 [v, .int .i64 left] H (is (.int .i64 (szL left n)) H) := by
  refine acalls_of_awp [.tmp 4] Try.func82 (by kernel_rfl) rfl rfl (Nat.le_of_ble_eq_true rfl) (by kernel_rfl) ?_
  by_cases h : left - n < 0
  · try simp (disch := first | omega | (simp only [ints_length, List.length_replicate]; done) | (simp only [ints_length, List.length_replicate]; omega)) only [Sall,evalOp,init,binE,binI,unE,convE,okNil,builtE,gv,TD.isAgg,resV,↓reduceIte,Nat.reduceEqDiff,reduceCtorEq,Nat.reduceAdd,Nat.reduceMul,Nat.reduceLeDiff,quietOp,blindOp,Int.reduceEq,Int.reduceLT,Int.reduceLE,Nat.reduceLT,ti2,ti3,ti4,ti45,ti46,ti38,ti25,ti30,ti22,ti32,ti24,ti95,ti172,ti169,ti165,ti166,ti65,ti143,ti87, builtE, hv.len, w64, h, decide_true, is, szL]
  · try simp (disch := first | omega | (simp only [ints_length, List.length_replicate]; done) | (simp only [ints_length, List.length_replicate]; omega)) only [Sall,evalOp,init,binE,binI,unE,convE,okNil,builtE,gv,TD.isAgg,resV,↓reduceIte,Nat.reduceEqDiff,reduceCtorEq,Nat.reduceAdd,Nat.reduceMul,Nat.reduceLeDiff,quietOp,blindOp,Int.reduceEq,Int.reduceLT,Int.reduceLE,Nat.reduceLT,ti2,ti3,ti4,ti45,ti46,ti38,ti25,ti30,ti22,ti32,ti24,ti95,ti172,ti169,ti165,ti166,ti65,ti143,ti87, builtE, hv.len, w64, h, decide_false, is, szL]

theorem toInt64S_c (v : Value) (n : Nat) (l : List Int) (H : AH) (hv : Rd 1 H v n l) (hn : n ≤ 4194304) :
    ACalls Try.prog 86 [v] H (is (.slice (some ⟨H.next, 0, some 1⟩) n n) (H.push ⟨2, true, ints l⟩)) := by
  refine ACalls.wf (by kernel_rfl) fun hs => acalls_of_awp [.tmp 2] Try.func86 (by kernel_rfl) rfl rfl (Nat.le_of_ble_eq_true rfl) (by kernel_rfl) ?_
  have hl := hv.lenK1
  try simp (disch := first | omega | (simp only [ints_length, List.length_replicate]; done) | (simp only [ints_length, List.length_replicate]; omega)) only [Sall,evalOp,init,binE,binI,unE,convE,okNil,builtE,gv,TD.isAgg,resV,↓reduceIte,Nat.reduceEqDiff,reduceCtorEq,Nat.reduceAdd,Nat.reduceMul,Nat.reduceLeDiff,quietOp,blindOp,Int.reduceEq,Int.reduceLT,Int.reduceLE,Nat.reduceLT,ti2,ti3,ti4,ti45,ti46,ti38,ti25,ti30,ti22,ti32,ti24,ti95,ti172,ti169,ti165,ti166,ti65,ti143,ti87, builtE, hv.len, ints_zeros]
  refine ⟨by omega, ?_⟩
  refine awp_loop (fun m t H' => ∃ a : Nat, m = n - a ∧ a ≤ n ∧ t 4 = .int .i64 a ∧ t 0 = v ∧ t 3 = .slice (some ⟨H.next, 0, some 1⟩) n n ∧ H' = H.push ⟨2, true, ints (copyL 1 l n a)⟩) n ?_ ?_
  · refine ⟨0, by omega, by omega, ?_⟩
    try simp (disch := first | omega | (simp only [ints_length, List.length_replicate]; done) | (simp only [ints_length, List.length_replicate]; omega)) only [Sall,evalOp,init,binE,binI,unE,convE,okNil,builtE,gv,TD.isAgg,resV,↓reduceIte,Nat.reduceEqDiff,reduceCtorEq,Nat.reduceAdd,Nat.reduceMul,Nat.reduceLeDiff,quietOp,blindOp,Int.reduceEq,Int.reduceLT,Int.reduceLE,Nat.reduceLT,ti2,ti3,ti4,ti45,ti46,ti38,ti25,ti30,ti22,ti32,ti24,ti95,ti172,ti169,ti165,ti166,ti65,ti143,ti87, Int.natCast_zero, copyL_zero]
  · rintro m t H' ⟨a, hm, h14, h4, h0, h3, rfl⟩
    try simp (disch := first | omega | (simp only [ints_length, List.length_replicate]; done) | (simp only [ints_length, List.length_replicate]; omega)) only [Sall,evalOp,init,binE,binI,unE,convE,okNil,builtE,gv,TD.isAgg,resV,↓reduceIte,Nat.reduceEqDiff,reduceCtorEq,Nat.reduceAdd,Nat.reduceMul,Nat.reduceLeDiff,quietOp,blindOp,Int.reduceEq,Int.reduceLT,Int.reduceLE,Nat.reduceLT,ti2,ti3,ti4,ti45,ti46,ti38,ti25,ti30,ti22,ti32,ti24,ti95,ti172,ti169,ti165,ti166,ti65,ti143,ti87, h4, h0, builtE, hv.len]
    refine condC_dec (fun h => ?_) (fun h => ?_)
    · have hst := copyL_set l n a hl.symm (by omega)
      have hcl := copyL_length 1 l n a (by omega) (by omega)
      rw [Nat.mul_one] at hcl
      obtain ⟨i, o, u, c, r, rfl, hr, hc, hs1, hg⟩ := hv.get (by omega)
      have hne : ¬ i = H.next := by have := hs _ _ hr; omega
      try simp (disch := first | omega | (simp only [ints_length, List.length_replicate]; done) | (simp only [ints_length, List.length_replicate]; omega)) only [Sall,evalOp,init,binE,binI,unE,convE,okNil,builtE,gv,TD.isAgg,resV,↓reduceIte,Nat.reduceEqDiff,reduceCtorEq,Nat.reduceAdd,Nat.reduceMul,Nat.reduceLeDiff,quietOp,blindOp,Int.reduceEq,Int.reduceLT,Int.reduceLE,Nat.reduceLT,ti2,ti3,ti4,ti45,ti46,ti38,ti25,ti30,ti22,ti32,ti24,ti95,ti172,ti169,ti165,ti166,ti65,ti143,ti87, h4, h0, h3, hr, hne, hs1, ints_set, hst, hcl, push_setCells, w64]
      refine ⟨⟨by omega, by omega⟩, ⟨by omega, by omega⟩, by omega, n - (a + 1), by omega, a + 1, ?_⟩
      and_intros <;> first | omega | rfl | assumption
    · have ha : a = n := by omega
      subst ha
      try simp (disch := first | omega | (simp only [ints_length, List.length_replicate]; done) | (simp only [ints_length, List.length_replicate]; omega)) only [Sall,evalOp,init,binE,binI,unE,convE,okNil,builtE,gv,TD.isAgg,resV,↓reduceIte,Nat.reduceEqDiff,reduceCtorEq,Nat.reduceAdd,Nat.reduceMul,Nat.reduceLeDiff,quietOp,blindOp,Int.reduceEq,Int.reduceLT,Int.reduceLE,Nat.reduceLT,ti2,ti3,ti4,ti45,ti46,ti38,ti25,ti30,ti22,ti32,ti24,ti95,ti172,ti169,ti165,ti166,ti65,ti143,ti87, h3, is]
      rw [copyL_all 1 l a (by omega)]

theorem szInt64SS_c (v : Value) (ll : List (List Int)) (left : Int) (H : AH) (hv : Rd2 1 H v ll) (hl : 0 ≤ left ∧ left ≤ 1048576) (hn : ll.length ≤ 9223372036854775807) (hn2 : ∀ l ∈ ll, l.length ≤ 9223372036854775807) :
    ACalls Try.prog 12 [v, .int .i64 left] H (fun r H' => ∃ x : Int, r = .int .i64 x ∧ H' = H ∧ (0 ≤ x → (ll.length : Int) + tot ll + x = left)) := by
  refine acalls_of_awp [.tmp 4] Try.func12 (by kernel_rfl) rfl rfl (Nat.le_of_ble_eq_true rfl) (by kernel_rfl) ?_
  by_cases h0 : left - (ll.length : Int) < 0
  · try simp (disch := first | omega | (simp only [ints_length, List.length_replicate]; done) | (simp only [ints_length, List.length_replicate]; omega)) only [Sall,evalOp,init,binE,binI,unE,convE,okNil,builtE,gv,TD.isAgg,resV,↓reduceIte,Nat.reduceEqDiff,reduceCtorEq,Nat.reduceAdd,Nat.reduceMul,Nat.reduceLeDiff,quietOp,blindOp,Int.reduceEq,Int.reduceLT,Int.reduceLE,Nat.reduceLT,ti2,ti3,ti4,ti45,ti46,ti38,ti25,ti30,ti22,ti32,ti24,ti95,ti172,ti169,ti165,ti166,ti65,ti143,ti87, builtE, hv.len, w64, h0, decide_true]
    exact fun h => h.elim
  · try simp (disch := first | omega | (simp only [ints_length, List.length_replicate]; done) | (simp only [ints_length, List.length_replicate]; omega)) only [Sall,evalOp,init,binE,binI,unE,convE,okNil,builtE,gv,TD.isAgg,resV,↓reduceIte,Nat.reduceEqDiff,reduceCtorEq,Nat.reduceAdd,Nat.reduceMul,Nat.reduceLeDiff,quietOp,blindOp,Int.reduceEq,Int.reduceLT,Int.reduceLE,Nat.reduceLT,ti2,ti3,ti4,ti45,ti46,ti38,ti25,ti30,ti22,ti32,ti24,ti95,ti172,ti169,ti165,ti166,ti65,ti143,ti87, builtE, hv.len, w64, h0, decide_false]
    refine awp_loop (fun x t H' => ∃ a : Nat, x = ll.length - a ∧ a ≤ ll.length ∧ t 5 = .int .i64 a ∧ t 0 = v ∧ t 1 = .int .i64 (left - ll.length - tot (ll.take a)) ∧ 0 ≤ left - ll.length - tot (ll.take a) ∧ H' = H) ll.length ?_ ?_
    · refine ⟨0, by omega, by omega, ?_⟩
      try simp (disch := first | omega | (simp only [ints_length, List.length_replicate]; done) | (simp only [ints_length, List.length_replicate]; omega)) only [Sall,evalOp,init,binE,binI,unE,convE,okNil,builtE,gv,TD.isAgg,resV,↓reduceIte,Nat.reduceEqDiff,reduceCtorEq,Nat.reduceAdd,Nat.reduceMul,Nat.reduceLeDiff,quietOp,blindOp,Int.reduceEq,Int.reduceLT,Int.reduceLE,Nat.reduceLT,ti2,ti3,ti4,ti45,ti46,ti38,ti25,ti30,ti22,ti32,ti24,ti95,ti172,ti169,ti165,ti166,ti65,ti143,ti87, Int.natCast_zero]
      refine ⟨by simp [tot], by simp [tot]; omega⟩
    · rintro x t H' ⟨a, hm, h14, h5, h0', h1, hnn, rfl⟩
      try simp (disch := first | omega | (simp only [ints_length, List.length_replicate]; done) | (simp only [ints_length, List.length_replicate]; omega)) only [Sall,evalOp,init,binE,binI,unE,convE,okNil,builtE,gv,TD.isAgg,resV,↓reduceIte,Nat.reduceEqDiff,reduceCtorEq,Nat.reduceAdd,Nat.reduceMul,Nat.reduceLeDiff,quietOp,blindOp,Int.reduceEq,Int.reduceLT,Int.reduceLE,Nat.reduceLT,ti2,ti3,ti4,ti45,ti46,ti38,ti25,ti30,ti22,ti32,ti24,ti95,ti172,ti169,ti165,ti166,ti65,ti143,ti87, h5, h0', builtE, hv.len]
      refine condC_dec (fun h => ?_) (fun h => ?_)
      · obtain ⟨i, o, u, c, r, y, m, rfl, hr, hy, hs, hk⟩ := hv.get (j := a) (by omega)
        have hml := hn2 _ (getD_mem (ll := ll) (a := a) (by omega))
        have hmm := hs.lenK1
        have ht := tot_take_succ ll a (by omega)
        try simp (disch := first | omega | (simp only [ints_length, List.length_replicate]; done) | (simp only [ints_length, List.length_replicate]; omega)) only [Sall,evalOp,init,binE,binI,unE,convE,okNil,builtE,gv,TD.isAgg,resV,↓reduceIte,Nat.reduceEqDiff,reduceCtorEq,Nat.reduceAdd,Nat.reduceMul,Nat.reduceLeDiff,quietOp,blindOp,Int.reduceEq,Int.reduceLT,Int.reduceLE,Nat.reduceLT,ti2,ti3,ti4,ti45,ti46,ti38,ti25,ti30,ti22,ti32,ti24,ti95,ti172,ti169,ti165,ti166,ti65,ti143,ti87, h5, h0', h1, hr, hy, hk]
        refine ⟨⟨by omega, by omega⟩, (szInt64S_c y m _ _ _ hs ⟨hnn, by omega⟩ (by omega)).to ?_⟩
        by_cases hz : left - (ll.length : Int) - (tot (ll.take a) : Int) - (m : Int) < 0
        · have e : szL (left - (ll.length : Int) - (tot (ll.take a) : Int)) m = -1 := by unfold szL; rw [if_pos hz]
          try simp (disch := first | omega | (simp only [ints_length, List.length_replicate]; done) | (simp only [ints_length, List.length_replicate]; omega)) only [Sall,evalOp,init,binE,binI,unE,convE,okNil,builtE,gv,TD.isAgg,resV,↓reduceIte,Nat.reduceEqDiff,reduceCtorEq,Nat.reduceAdd,Nat.reduceMul,Nat.reduceLeDiff,quietOp,blindOp,Int.reduceEq,Int.reduceLT,Int.reduceLE,Nat.reduceLT,ti2,ti3,ti4,ti45,ti46,ti38,ti25,ti30,ti22,ti32,ti24,ti95,ti172,ti169,ti165,ti166,ti65,ti143,ti87, e, decide_true]
          exact fun h => h.elim
        · have e : szL (left - (ll.length : Int) - (tot (ll.take a) : Int)) m = left - (ll.length : Int) - (tot (ll.take a) : Int) - m := by unfold szL; rw [if_neg hz]
          try simp (disch := first | omega | (simp only [ints_length, List.length_replicate]; done) | (simp only [ints_length, List.length_replicate]; omega)) only [Sall,evalOp,init,binE,binI,unE,convE,okNil,builtE,gv,TD.isAgg,resV,↓reduceIte,Nat.reduceEqDiff,reduceCtorEq,Nat.reduceAdd,Nat.reduceMul,Nat.reduceLeDiff,quietOp,blindOp,Int.reduceEq,Int.reduceLT,Int.reduceLE,Nat.reduceLT,ti2,ti3,ti4,ti45,ti46,ti38,ti25,ti30,ti22,ti32,ti24,ti95,ti172,ti169,ti165,ti166,ti65,ti143,ti87, e, hz, decide_false, h5, h0', w64]
          refine ⟨ll.length - (a + 1), by omega, a + 1, ?_⟩
          and_intros <;> first | omega | rfl | assumption
      · have ha : a = ll.length := by omega
        subst ha
        try simp (disch := first | omega | (simp only [ints_length, List.length_replicate]; done) | (simp only [ints_length, List.length_replicate]; omega)) only [Sall,evalOp,init,binE,binI,unE,convE,okNil,builtE,gv,TD.isAgg,resV,↓reduceIte,Nat.reduceEqDiff,reduceCtorEq,Nat.reduceAdd,Nat.reduceMul,Nat.reduceLeDiff,quietOp,blindOp,Int.reduceEq,Int.reduceLT,Int.reduceLE,Nat.reduceLT,ti2,ti3,ti4,ti45,ti46,ti38,ti25,ti30,ti22,ti32,ti24,ti95,ti172,ti169,ti165,ti166,ti65,ti143,ti87, h1]
        rw [List.take_length]
        exact fun _ => by omega

theorem toInt64SS_c (v : Value) (ll : List (List Int)) (H : AH) (hv : Rd2 1 H v ll) (hn : ll.length ≤ 4194304) (hn2 : ∀ l ∈ ll, l.length ≤ 4194304) :
    ACalls Try.prog 15 [v] H (fun u H' => Up H.next H H' ∧ Fr2 1 38 2 H.next H'.next H' u ll) := by
  refine ACalls.wf (by kernel_rfl) fun hs => acalls_of_awp [.tmp 2] Try.func15 (by kernel_rfl) rfl rfl (Nat.le_of_ble_eq_true rfl) (by kernel_rfl) ?_
  try simp (disch := first | omega | (simp only [ints_length, List.length_replicate]; done) | (simp only [ints_length, List.length_replicate]; omega)) only [Sall,evalOp,init,binE,binI,unE,convE,okNil,builtE,gv,TD.isAgg,resV,↓reduceIte,Nat.reduceEqDiff,reduceCtorEq,Nat.reduceAdd,Nat.reduceMul,Nat.reduceLeDiff,quietOp,blindOp,Int.reduceEq,Int.reduceLT,Int.reduceLE,Nat.reduceLT,ti2,ti3,ti4,ti45,ti46,ti38,ti25,ti30,ti22,ti32,ti24,ti95,ti172,ti169,ti165,ti166,ti65,ti143,ti87, builtE, hv.len]
  refine ⟨by omega, ?_⟩
  refine awp_loop (fun m t H' => ∃ (a : Nat) (vs : List Value) (b : Nat → Nat), m = ll.length - a ∧ a ≤ ll.length ∧ t 4 = .int .i64 a ∧ t 0 = v ∧ t 3 = .slice (some ⟨H.next, 0, some 1⟩) ll.length ll.length ∧ Up H.next H H' ∧ H'.row H.next = some ⟨38, true, vs⟩ ∧ vs.length = ll.length ∧
    b 0 = H.next + 1 ∧ b a = H'.next ∧ (∀ j, b j ≤ b (j + 1)) ∧ ∀ j, j < a → ∃ x m, vs[j]? = some x ∧ Fr 1 2 (b j) (b (j + 1)) H' x m (ll.getD j [])) ll.length ?_ ?_
  · refine ⟨0, List.replicate ll.length (.slice none 0 0), fun j => H.next + 1, by omega, by omega, ?_⟩
    try simp (disch := first | omega | (simp only [ints_length, List.length_replicate]; done) | (simp only [ints_length, List.length_replicate]; omega)) only [Sall,evalOp,init,binE,binI,unE,convE,okNil,builtE,gv,TD.isAgg,resV,↓reduceIte,Nat.reduceEqDiff,reduceCtorEq,Nat.reduceAdd,Nat.reduceMul,Nat.reduceLeDiff,quietOp,blindOp,Int.reduceEq,Int.reduceLT,Int.reduceLE,Nat.reduceLT,ti2,ti3,ti4,ti45,ti46,ti38,ti25,ti30,ti22,ti32,ti24,ti95,ti172,ti169,ti165,ti166,ti65,ti143,ti87, Int.natCast_zero, zeros_nil, Nat.not_lt_zero, false_implies]
    exact (Up.refl _ H).push (Nat.le_refl _) _
  · rintro m t H' ⟨a, vs, b, hm, h14, h4, h0, h3, hup, hr1, hvl, hb0, hba, hbm, hall⟩
    try simp (disch := first | omega | (simp only [ints_length, List.length_replicate]; done) | (simp only [ints_length, List.length_replicate]; omega)) only [Sall,evalOp,init,binE,binI,unE,convE,okNil,builtE,gv,TD.isAgg,resV,↓reduceIte,Nat.reduceEqDiff,reduceCtorEq,Nat.reduceAdd,Nat.reduceMul,Nat.reduceLeDiff,quietOp,blindOp,Int.reduceEq,Int.reduceLT,Int.reduceLE,Nat.reduceLT,ti2,ti3,ti4,ti45,ti46,ti38,ti25,ti30,ti22,ti32,ti24,ti95,ti172,ti169,ti165,ti166,ti65,ti143,ti87, h4, h0, builtE, hv.len]
    refine condC_dec (fun h => ?_) (fun h => ?_)
    · obtain ⟨i, o, u, c, r, y, m', rfl, hr, hy, hsx, hk⟩ := hv.get (j := a) (by omega)
      have hil := hs _ _ hr
      have hr' : H'.row i = some r := by rw [hup.row i hil, hr]
      have hy' : Rd 1 H' y m' (ll.getD a []) := hsx.same fun x q hx => by rw [hup.row x (hs _ _ hx), hx]
      have hml := hn2 _ (getD_mem (ll := ll) (a := a) (by omega))
      have hmm := hsx.lenK1
      try simp (disch := first | omega | (simp only [ints_length, List.length_replicate]; done) | (simp only [ints_length, List.length_replicate]; omega)) only [Sall,evalOp,init,binE,binI,unE,convE,okNil,builtE,gv,TD.isAgg,resV,↓reduceIte,Nat.reduceEqDiff,reduceCtorEq,Nat.reduceAdd,Nat.reduceMul,Nat.reduceLeDiff,quietOp,blindOp,Int.reduceEq,Int.reduceLT,Int.reduceLE,Nat.reduceLT,ti2,ti3,ti4,ti45,ti46,ti38,ti25,ti30,ti22,ti32,ti24,ti95,ti172,ti169,ti165,ti166,ti65,ti143,ti87, h4, h0, h3, hr', hy, hk]
      refine ⟨⟨by omega, by omega⟩, (toInt64S_c y m' _ H' hy' (by omega)).to ?_⟩
      have n1 := hup.next
      have m1 := mono_of_step hbm (Nat.zero_le a)
      have hne : ¬ H.next = H'.next := by omega
      try simp (disch := first | omega | (simp only [ints_length, List.length_replicate]; done) | (simp only [ints_length, List.length_replicate]; omega)) only [Sall,evalOp,init,binE,binI,unE,convE,okNil,builtE,gv,TD.isAgg,resV,↓reduceIte,Nat.reduceEqDiff,reduceCtorEq,Nat.reduceAdd,Nat.reduceMul,Nat.reduceLeDiff,quietOp,blindOp,Int.reduceEq,Int.reduceLT,Int.reduceLE,Nat.reduceLT,ti2,ti3,ti4,ti45,ti46,ti38,ti25,ti30,ti22,ti32,ti24,ti95,ti172,ti169,ti165,ti166,ti65,ti143,ti87, h4, h0, h3, hr1, hne, hvl, w64]
      refine ⟨⟨by omega, by omega⟩, by omega, ll.length - (a + 1), by omega, a + 1, vs.set a (.slice (some ⟨H'.next, 0, some 1⟩) m' m'), fun j => if j ≤ a then b j else H'.next + 1, rfl, by omega, by omega, ?_, rfl, by rw [List.length_set, hvl], by dsimp only; rw [if_pos (Nat.zero_le _), hb0], by dsimp only; rw [if_neg (by omega)], fun j => ?_, fun j hj => ?_⟩
      · exact (hup.push (by omega) _).set (Nat.le_refl _) _
      · dsimp only
        by_cases h1 : j + 1 ≤ a
        · rw [if_pos (by omega), if_pos h1]; exact hbm j
        · rw [if_neg h1]; split
          · rw [show j = a by omega, hba]; omega
          · omega
      · by_cases hja : j = a
        · subst hja
          refine ⟨_, m', by rw [List.getElem?_set_self (by omega)], ?_⟩
          dsimp only
          rw [if_pos (Nat.le_refl _), if_neg (by omega), hba]
          exact ⟨by omega, .inr ⟨H'.next, Nat.le_refl _, Nat.lt_succ_self _, rfl, by rw [AH.setCells_row, if_neg (by omega), AH.push_row, if_pos rfl]⟩⟩
        · obtain ⟨x, q, hx, hf⟩ := hall j (by omega)
          refine ⟨x, q, by rw [List.getElem?_set_ne (by omega), hx], ?_⟩
          dsimp only
          rw [if_pos (by omega), if_pos (by omega)]
          have m2 := mono_of_step hbm (show j + 1 ≤ a by omega)
          have m3 := mono_of_step hbm (Nat.zero_le j)
          refine hf.same fun z z1 z2 => ?_
          rw [AH.setCells_row, if_neg (by omega), AH.push_row, if_neg (by omega)]
    · have ha : a = ll.length := by omega
      subst ha
      try simp (disch := first | omega | (simp only [ints_length, List.length_replicate]; done) | (simp only [ints_length, List.length_replicate]; omega)) only [Sall,evalOp,init,binE,binI,unE,convE,okNil,builtE,gv,TD.isAgg,resV,↓reduceIte,Nat.reduceEqDiff,reduceCtorEq,Nat.reduceAdd,Nat.reduceMul,Nat.reduceLeDiff,quietOp,blindOp,Int.reduceEq,Int.reduceLT,Int.reduceLE,Nat.reduceLT,ti2,ti3,ti4,ti45,ti46,ti38,ti25,ti30,ti22,ti32,ti24,ti95,ti172,ti169,ti165,ti166,ti65,ti143,ti87, h3]
      refine ⟨hup, .inr ⟨H.next, vs, b, Nat.le_refl _, ?_, rfl, hr1, hvl, by omega, by omega, .inl (by omega), hbm, hall⟩⟩
      have m1 := mono_of_step hbm (Nat.zero_le ll.length)
      omega

/-- The marked lists: numbers one behind the other, from list to list. -/
def seqLL (k0 : Int) (ll : List (List Int)) : List (List Int) := (List.range ll.length).map fun j => seqL (k0 + tot (ll.take j)) (ll.getD j []).length
theorem seqLL_length (k0 : Int) (ll : List (List Int)) : (seqLL k0 ll).length = ll.length := by simp [seqLL]
theorem seqLL_getD (k0 : Int) (ll : List (List Int)) (j : Nat) (h : j < ll.length) : (seqLL k0 ll).getD j [] = seqL (k0 + tot (ll.take j)) (ll.getD j []).length := by simp [seqLL, h]

theorem heldInt64SS_c (v : Value) (ll : List (List Int)) (k0 : Int) (hk0 : 0 ≤ k0 ∧ k0 ≤ 268435456) (hn : ll.length ≤ 4194304) (ht0 : tot ll ≤ 4194304) (H : AH) (hv : Rd2 1 H v (seqLL k0 ll)) :
    ACalls Try.prog 107 [v, .int .i64 k0] H (is (.int .i64 (k0 + tot ll)) H) := by
  refine acalls_up rfl (acalls_of_awp [.tmp 4] Try.func107 (by kernel_rfl) rfl rfl (Nat.le_of_ble_eq_true rfl) (by kernel_rfl) ?_)
  have hlen := seqLL_length k0 ll
  try simp (disch := first | omega | (simp only [ints_length, List.length_replicate]; done) | (simp only [ints_length, List.length_replicate]; omega)) only [Sall,evalOp,init,binE,binI,unE,convE,okNil,builtE,gv,TD.isAgg,resV,↓reduceIte,Nat.reduceEqDiff,reduceCtorEq,Nat.reduceAdd,Nat.reduceMul,Nat.reduceLeDiff,quietOp,blindOp,Int.reduceEq,Int.reduceLT,Int.reduceLE,Nat.reduceLT,ti2,ti3,ti4,ti45,ti46,ti38,ti25,ti30,ti22,ti32,ti24,ti95,ti172,ti169,ti165,ti166,ti65,ti143,ti87, true_and]
  refine awp_loop (fun x t H' => ∃ a : Nat, x = ll.length - a ∧ a ≤ ll.length ∧ t 5 = .int .i64 a ∧ t 0 = v ∧ t 1 = .int .i64 (k0 + tot (ll.take a)) ∧ H' = H) ll.length ?_ ?_
  · refine ⟨0, by omega, by omega, ?_⟩
    try simp (disch := first | omega | (simp only [ints_length, List.length_replicate]; done) | (simp only [ints_length, List.length_replicate]; omega)) only [Sall,evalOp,init,binE,binI,unE,convE,okNil,builtE,gv,TD.isAgg,resV,↓reduceIte,Nat.reduceEqDiff,reduceCtorEq,Nat.reduceAdd,Nat.reduceMul,Nat.reduceLeDiff,quietOp,blindOp,Int.reduceEq,Int.reduceLT,Int.reduceLE,Nat.reduceLT,ti2,ti3,ti4,ti45,ti46,ti38,ti25,ti30,ti22,ti32,ti24,ti95,ti172,ti169,ti165,ti166,ti65,ti143,ti87, Int.natCast_zero]
    simp [tot]
  · rintro x t H' ⟨a, hm, h14, h5, h0, h1, rfl⟩
    have hle := hv.len
    rw [hlen] at hle
    try simp (disch := first | omega | (simp only [ints_length, List.length_replicate]; done) | (simp only [ints_length, List.length_replicate]; omega)) only [Sall,evalOp,init,binE,binI,unE,convE,okNil,builtE,gv,TD.isAgg,resV,↓reduceIte,Nat.reduceEqDiff,reduceCtorEq,Nat.reduceAdd,Nat.reduceMul,Nat.reduceLeDiff,quietOp,blindOp,Int.reduceEq,Int.reduceLT,Int.reduceLE,Nat.reduceLT,ti2,ti3,ti4,ti45,ti46,ti38,ti25,ti30,ti22,ti32,ti24,ti95,ti172,ti169,ti165,ti166,ti65,ti143,ti87, h5, h0, builtE, hle]
    refine condC_dec (fun h => ?_) (fun h => ?_)
    · obtain ⟨i, o, u, c, r, y, m, rfl, hr, hy, hs, hk⟩ := hv.get (j := a) (by omega)
      rw [seqLL_getD _ _ _ (by omega)] at hs
      have hmm := hs.lenK1
      rw [seqL_length] at hmm
      subst hmm
      have ht := tot_take_succ ll a (by omega)
      have ht2 := tot_take_le ll (a + 1)
      try simp (disch := first | omega | (simp only [ints_length, List.length_replicate]; done) | (simp only [ints_length, List.length_replicate]; omega)) only [Sall,evalOp,init,binE,binI,unE,convE,okNil,builtE,gv,TD.isAgg,resV,↓reduceIte,Nat.reduceEqDiff,reduceCtorEq,Nat.reduceAdd,Nat.reduceMul,Nat.reduceLeDiff,quietOp,blindOp,Int.reduceEq,Int.reduceLT,Int.reduceLE,Nat.reduceLT,ti2,ti3,ti4,ti45,ti46,ti38,ti25,ti30,ti22,ti32,ti24,ti95,ti172,ti169,ti165,ti166,ti65,ti143,ti87, h5, h0, h1, hr, hy, hk, hlen]
      refine ⟨⟨by omega, by omega⟩, (heldInt64S_c y _ _ (by omega) (by omega) _ hs).to ?_⟩
      try simp (disch := first | omega | (simp only [ints_length, List.length_replicate]; done) | (simp only [ints_length, List.length_replicate]; omega)) only [Sall,evalOp,init,binE,binI,unE,convE,okNil,builtE,gv,TD.isAgg,resV,↓reduceIte,Nat.reduceEqDiff,reduceCtorEq,Nat.reduceAdd,Nat.reduceMul,Nat.reduceLeDiff,quietOp,blindOp,Int.reduceEq,Int.reduceLT,Int.reduceLE,Nat.reduceLT,ti2,ti3,ti4,ti45,ti46,ti38,ti25,ti30,ti22,ti32,ti24,ti95,ti172,ti169,ti165,ti166,ti65,ti143,ti87, true_and]
      rw [decide_eq_false (by omega)]
      try simp (disch := first | omega | (simp only [ints_length, List.length_replicate]; done) | (simp only [ints_length, List.length_replicate]; omega)) only [Sall,evalOp,init,binE,binI,unE,convE,okNil,builtE,gv,TD.isAgg,resV,↓reduceIte,Nat.reduceEqDiff,reduceCtorEq,Nat.reduceAdd,Nat.reduceMul,Nat.reduceLeDiff,quietOp,blindOp,Int.reduceEq,Int.reduceLT,Int.reduceLE,Nat.reduceLT,ti2,ti3,ti4,ti45,ti46,ti38,ti25,ti30,ti22,ti32,ti24,ti95,ti172,ti169,ti165,ti166,ti65,ti143,ti87, h5, h0, w64]
      refine ⟨ll.length - (a + 1), by omega, a + 1, ?_⟩
      and_intros <;> first | omega | rfl | assumption
    · have ha : a = ll.length := by omega
      subst ha
      try simp (disch := first | omega | (simp only [ints_length, List.length_replicate]; done) | (simp only [ints_length, List.length_replicate]; omega)) only [Sall,evalOp,init,binE,binI,unE,convE,okNil,builtE,gv,TD.isAgg,resV,↓reduceIte,Nat.reduceEqDiff,reduceCtorEq,Nat.reduceAdd,Nat.reduceMul,Nat.reduceLeDiff,quietOp,blindOp,Int.reduceEq,Int.reduceLT,Int.reduceLE,Nat.reduceLT,ti2,ti3,ti4,ti45,ti46,ti38,ti25,ti30,ti22,ti32,ti24,ti95,ti172,ti169,ti165,ti166,ti65,ti143,ti87, h1]
      rw [List.take_length]
      exact ⟨rfl, Up.refl _ _⟩

theorem markInt64SS_c (ty ty' lo hi : Nat) (v : Value) (ll : List (List Int)) (k0 : Int) (hk0 : 0 ≤ k0 ∧ k0 ≤ 268435456) (hn : ll.length ≤ 4194304) (ht0 : tot ll ≤ 4194304) (H : AH) (hv : Fr2 1 ty ty' lo hi H v ll) :
    ACalls Try.prog 23 [v, .int .i64 k0] H (fun r H' => r = .int .i64 (k0 + tot ll) ∧ H'.next = H.next ∧ (∀ i, ¬(lo ≤ i ∧ i < hi) → H'.row i = H.row i) ∧ Fr2 1 ty ty' lo hi H' v (seqLL k0 ll)) := by
  refine acalls_of_awp [.tmp 4] Try.func23 (by kernel_rfl) rfl rfl (Nat.le_of_ble_eq_true rfl) (by kernel_rfl) ?_
  try simp (disch := first | omega | (simp only [ints_length, List.length_replicate]; done) | (simp only [ints_length, List.length_replicate]; omega)) only [Sall,evalOp,init,binE,binI,unE,convE,okNil,builtE,gv,TD.isAgg,resV,↓reduceIte,Nat.reduceEqDiff,reduceCtorEq,Nat.reduceAdd,Nat.reduceMul,Nat.reduceLeDiff,quietOp,blindOp,Int.reduceEq,Int.reduceLT,Int.reduceLE,Nat.reduceLT,ti2,ti3,ti4,ti45,ti46,ti38,ti25,ti30,ti22,ti32,ti24,ti95,ti172,ti169,ti165,ti166,ti65,ti143,ti87, true_and]
  refine Holds.mp ?_
  rcases hv with ⟨rfl, rfl⟩ | ⟨i, vs, b, g1, g2, rfl, hr, hvl, gb0, gbn, gi, gbm, hall⟩
  · rw [holds_def]
    refine awp_loop (fun x t H' => t 5 = .int .i64 0 ∧ t 0 = .slice none 0 0 ∧ t 1 = .int .i64 k0 ∧ H' = H) 0 ?_ ?_
    · try simp (disch := first | omega | (simp only [ints_length, List.length_replicate]; done) | (simp only [ints_length, List.length_replicate]; omega)) only [Sall,evalOp,init,binE,binI,unE,convE,okNil,builtE,gv,TD.isAgg,resV,↓reduceIte,Nat.reduceEqDiff,reduceCtorEq,Nat.reduceAdd,Nat.reduceMul,Nat.reduceLeDiff,quietOp,blindOp,Int.reduceEq,Int.reduceLT,Int.reduceLE,Nat.reduceLT,ti2,ti3,ti4,ti45,ti46,ti38,ti25,ti30,ti22,ti32,ti24,ti95,ti172,ti169,ti165,ti166,ti65,ti143,ti87, true_and]
    · rintro x t H' ⟨h5, h0, h1, rfl⟩
      try simp (disch := first | omega | (simp only [ints_length, List.length_replicate]; done) | (simp only [ints_length, List.length_replicate]; omega)) only [Sall,evalOp,init,binE,binI,unE,convE,okNil,builtE,gv,TD.isAgg,resV,↓reduceIte,Nat.reduceEqDiff,reduceCtorEq,Nat.reduceAdd,Nat.reduceMul,Nat.reduceLeDiff,quietOp,blindOp,Int.reduceEq,Int.reduceLT,Int.reduceLE,Nat.reduceLT,ti2,ti3,ti4,ti45,ti46,ti38,ti25,ti30,ti22,ti32,ti24,ti95,ti172,ti169,ti165,ti166,ti65,ti143,ti87, h5, h0, h1, builtE, Int.lt_irrefl, decide_false]
      exact ⟨by simp [tot], .inl ⟨rfl, rfl⟩⟩
  · rw [holds_def]
    refine awp_loop (fun x t H' => ∃ a : Nat, x = ll.length - a ∧ a ≤ ll.length ∧ t 5 = .int .i64 a ∧ t 0 = .slice (some ⟨i, 0, some 1⟩) ll.length ll.length ∧ t 1 = .int .i64 (k0 + tot (ll.take a)) ∧ H'.next = H.next ∧ (∀ i, ¬(lo ≤ i ∧ i < hi) → H'.row i = H.row i) ∧ H'.row i = some ⟨ty, true, vs⟩ ∧
        ∀ j, j < ll.length → ∃ x m, vs[j]? = some x ∧ Fr 1 ty' (b j) (b (j + 1)) H' x m (if j < a then seqL (k0 + tot (ll.take j)) (ll.getD j []).length else ll.getD j [])) ll.length ?_ ?_
    · refine ⟨0, by omega, by omega, ?_⟩
      try simp (disch := first | omega | (simp only [ints_length, List.length_replicate]; done) | (simp only [ints_length, List.length_replicate]; omega)) only [Sall,evalOp,init,binE,binI,unE,convE,okNil,builtE,gv,TD.isAgg,resV,↓reduceIte,Nat.reduceEqDiff,reduceCtorEq,Nat.reduceAdd,Nat.reduceMul,Nat.reduceLeDiff,quietOp,blindOp,Int.reduceEq,Int.reduceLT,Int.reduceLE,Nat.reduceLT,ti2,ti3,ti4,ti45,ti46,ti38,ti25,ti30,ti22,ti32,ti24,ti95,ti172,ti169,ti165,ti166,ti65,ti143,ti87, Int.natCast_zero]
      refine ⟨by simp [tot], hr, fun j hj => ?_⟩
      rw [if_neg (by omega)]; exact hall j hj
    · rintro x t H' ⟨a, hm, h14, h5, h0, h1, hnx, hsm, hr', hal⟩
      try simp (disch := first | omega | (simp only [ints_length, List.length_replicate]; done) | (simp only [ints_length, List.length_replicate]; omega)) only [Sall,evalOp,init,binE,binI,unE,convE,okNil,builtE,gv,TD.isAgg,resV,↓reduceIte,Nat.reduceEqDiff,reduceCtorEq,Nat.reduceAdd,Nat.reduceMul,Nat.reduceLeDiff,quietOp,blindOp,Int.reduceEq,Int.reduceLT,Int.reduceLE,Nat.reduceLT,ti2,ti3,ti4,ti45,ti46,ti38,ti25,ti30,ti22,ti32,ti24,ti95,ti172,ti169,ti165,ti166,ti65,ti143,ti87, h5, h0, builtE]
      refine condC_dec (fun h => ?_) (fun h => ?_)
      · obtain ⟨y, m, hy, hf⟩ := hal a (by omega)
        rw [if_neg (by omega)] at hf
        have hmm := hf.lenK1
        have ht := tot_take_succ ll a (by omega)
        have ht2 := tot_take_le ll (a + 1)
        try simp (disch := first | omega | (simp only [ints_length, List.length_replicate]; done) | (simp only [ints_length, List.length_replicate]; omega)) only [Sall,evalOp,init,binE,binI,unE,convE,okNil,builtE,gv,TD.isAgg,resV,↓reduceIte,Nat.reduceEqDiff,reduceCtorEq,Nat.reduceAdd,Nat.reduceMul,Nat.reduceLeDiff,quietOp,blindOp,Int.reduceEq,Int.reduceLT,Int.reduceLE,Nat.reduceLT,ti2,ti3,ti4,ti45,ti46,ti38,ti25,ti30,ti22,ti32,ti24,ti95,ti172,ti169,ti165,ti166,ti65,ti143,ti87, h5, h0, h1, hr', hy]
        refine ⟨⟨by omega, by omega⟩, (markInt64S_c ty' (b a) (b (a + 1)) y m _ _ (by omega) (by omega) H' hf).fin ?_⟩
        rintro H'' ⟨hnx2, hsm2, hf2⟩
        have c1 := mono_of_step gbm (Nat.zero_le a)
        have c2 := mono_of_step gbm (show a + 1 ≤ ll.length by omega)
        try simp (disch := first | omega | (simp only [ints_length, List.length_replicate]; done) | (simp only [ints_length, List.length_replicate]; omega)) only [Sall,evalOp,init,binE,binI,unE,convE,okNil,builtE,gv,TD.isAgg,resV,↓reduceIte,Nat.reduceEqDiff,reduceCtorEq,Nat.reduceAdd,Nat.reduceMul,Nat.reduceLeDiff,quietOp,blindOp,Int.reduceEq,Int.reduceLT,Int.reduceLE,Nat.reduceLT,ti2,ti3,ti4,ti45,ti46,ti38,ti25,ti30,ti22,ti32,ti24,ti95,ti172,ti169,ti165,ti166,ti65,ti143,ti87, h5, h0, w64]
        refine ⟨ll.length - (a + 1), by omega, a + 1, rfl, by omega, by omega, by omega, by rw [hnx2, hnx], fun z hz => ?_, ?_, fun j hj => ?_⟩
        · rw [hsm2 z (by omega)]; exact hsm z hz
        · rw [hsm2 i (by omega)]; exact hr'
        · by_cases hja : j = a
          · subst hja
            refine ⟨y, m, hy, ?_⟩
            rw [if_pos (by omega), ← hmm]
            exact hf2
          · obtain ⟨y', m', hy', hf'⟩ := hal j hj
            refine ⟨y', m', hy', ?_⟩
            have e : (if j < a + 1 then seqL (k0 + ↑(tot (ll.take j))) (ll.getD j []).length else ll.getD j []) = (if j < a then seqL (k0 + ↑(tot (ll.take j))) (ll.getD j []).length else ll.getD j []) := by
              by_cases h1 : j < a
              · rw [if_pos (by omega), if_pos h1]
              · rw [if_neg (by omega), if_neg h1]
            rw [e]
            refine hf'.same fun z z1 z2 => hsm2 z ?_
            rcases Nat.lt_or_gt_of_ne hja with hlt | hgt
            · have := mono_of_step gbm (show j + 1 ≤ a from hlt); omega
            · have := mono_of_step gbm (show a + 1 ≤ j from hgt); omega
      · have ha : a = ll.length := by omega
        subst ha
        try simp (disch := first | omega | (simp only [ints_length, List.length_replicate]; done) | (simp only [ints_length, List.length_replicate]; omega)) only [Sall,evalOp,init,binE,binI,unE,convE,okNil,builtE,gv,TD.isAgg,resV,↓reduceIte,Nat.reduceEqDiff,reduceCtorEq,Nat.reduceAdd,Nat.reduceMul,Nat.reduceLeDiff,quietOp,blindOp,Int.reduceEq,Int.reduceLT,Int.reduceLE,Nat.reduceLT,ti2,ti3,ti4,ti45,ti46,ti38,ti25,ti30,ti22,ti32,ti24,ti95,ti172,ti169,ti165,ti166,ti65,ti143,ti87, h1]
        rw [List.take_length]
        refine ⟨rfl, hnx, hsm, .inr ⟨i, vs, b, g1, g2, by rw [seqLL_length], hr', by rw [seqLL_length, hvl], gb0, by rw [seqLL_length]; exact gbn, by rw [seqLL_length]; exact gi, gbm, fun j hj => ?_⟩⟩
        rw [seqLL_length] at hj
        obtain ⟨y, m, hy, hf⟩ := hal j hj
        rw [if_pos hj] at hf
        exact ⟨y, m, hy, by rw [seqLL_getD _ _ _ hj]; exact hf⟩
end Go.Proofs.Ytgkmdfjjlghecaa.A
end

section
set_option linter.unusedSimpArgs false
set_option linter.unusedVariables false
set_option maxRecDepth 100000
namespace Go.Proofs.Ytgkmdfjjlghecaa.A
open Go Go.Abs Go.RowKit

theorem pairs_c (n : Nat) (r : List Int) (hr : r.length = 14) (hn : n ≤ 14) (H : AH) : ACalls Try.prog 160 [.agg (ints r).toArray, .int .i64 n] H (fun v H' => Up H.next H H' ∧ Fr2 1 38 2 H.next H'.next H' v (pairsL r n)) := by
  refine acalls_of_awp [.tmp 4] Try.func160 (by kernel_rfl) rfl rfl (Nat.le_of_ble_eq_true rfl) (by kernel_rfl) ?_
  try simp (disch := first | omega | (simp only [ints_length, List.length_replicate]; done) | (simp only [ints_length, List.length_replicate]; omega)) only [Sall,evalOp,init,binE,binI,unE,convE,okNil,builtE,gv,TD.isAgg,resV,↓reduceIte,Nat.reduceEqDiff,reduceCtorEq,Nat.reduceAdd,Nat.reduceMul,Nat.reduceLeDiff,quietOp,blindOp,Int.reduceEq,Int.reduceLT,Int.reduceLE,Nat.reduceLT,ti2,ti3,ti4,ti45,ti46,ti38,ti25,ti30,ti22,ti32,ti24,ti95,ti172,ti169,ti165,ti166,ti65,ti143,ti87, zeros_zero]
  refine awp_loop (fun m t H' => ∃ (a : Nat) (u : Value) (lo hi : Nat), m = n - a ∧ a ≤ n ∧ t 9 = .int .i64 a ∧ t 8 = .int .i64 n ∧ t 5 = u ∧ t 2 = .pointer (some ⟨H.next, 0, none⟩) ∧ Up H.next H H' ∧ H'.row H.next = some ⟨46, true, ints r⟩ ∧
    H.next < lo ∧ lo ≤ hi ∧ hi ≤ H'.next ∧ Fr2 1 38 2 lo hi H' u (pairsL r a)) n ?_ ?_
  · refine ⟨0, .slice (some ⟨H.next + 1, 0, some 1⟩) 0 0, H.next + 1, H.next + 2, by omega, by omega, ?_⟩
    try simp (disch := first | omega | (simp only [ints_length, List.length_replicate]; done) | (simp only [ints_length, List.length_replicate]; omega)) only [Sall,evalOp,init,binE,binI,unE,convE,okNil,builtE,gv,TD.isAgg,resV,↓reduceIte,Nat.reduceEqDiff,reduceCtorEq,Nat.reduceAdd,Nat.reduceMul,Nat.reduceLeDiff,quietOp,blindOp,Int.reduceEq,Int.reduceLT,Int.reduceLE,Nat.reduceLT,ti2,ti3,ti4,ti45,ti46,ti38,ti25,ti30,ti22,ti32,ti24,ti95,ti172,ti169,ti165,ti166,ti65,ti143,ti87, Int.natCast_zero]
    refine ⟨((Up.refl _ H).push (by omega) _).push (Nat.le_succ _) _, by omega, by omega, ?_⟩
    exact .inr ⟨H.next + 1, [], fun _ => H.next + 2, by omega, by omega, rfl, by rw [AH.push_row, if_pos (by rw [AH.push_next])], rfl, by dsimp only; omega, by dsimp only; omega, .inl (by dsimp only; omega), fun _ => Nat.le_refl _, fun j hj => by simp [pairsL_zero] at hj⟩
  · rintro m t H' ⟨a, u, lo, hi, hm, h14, h9, h8, h5, h2, hup, hr1, hlo, hlh, hhi, hfr⟩
    try simp (disch := first | omega | (simp only [ints_length, List.length_replicate]; done) | (simp only [ints_length, List.length_replicate]; omega)) only [Sall,evalOp,init,binE,binI,unE,convE,okNil,builtE,gv,TD.isAgg,resV,↓reduceIte,Nat.reduceEqDiff,reduceCtorEq,Nat.reduceAdd,Nat.reduceMul,Nat.reduceLeDiff,quietOp,blindOp,Int.reduceEq,Int.reduceLT,Int.reduceLE,Nat.reduceLT,ti2,ti3,ti4,ti45,ti46,ti38,ti25,ti30,ti22,ti32,ti24,ti95,ti172,ti169,ti165,ti166,ti65,ti143,ti87, h9, h8]
    refine condC_dec (fun h => ?_) (fun h => ?_)
    · by_cases hp : (a : Int) < r.getD a 0
      · have hle := pairsL_le r a
        have ne1 : ¬ H.next = H'.next := by omega
        try simp (disch := first | omega | (simp only [ints_length, List.length_replicate]; done) | (simp only [ints_length, List.length_replicate]; omega)) only [Sall,evalOp,init,binE,binI,unE,convE,okNil,builtE,gv,TD.isAgg,resV,↓reduceIte,Nat.reduceEqDiff,reduceCtorEq,Nat.reduceAdd,Nat.reduceMul,Nat.reduceLeDiff,quietOp,blindOp,Int.reduceEq,Int.reduceLT,Int.reduceLE,Nat.reduceLT,ti2,ti3,ti4,ti45,ti46,ti38,ti25,ti30,ti22,ti32,ti24,ti95,ti172,ti169,ti165,ti166,ti65,ti143,ti87, h9, h8, h5, h2, hr1, ints_get?, hp, decide_true, zeros_one, zeros_two, slCells, ne1]
        refine ⟨⟨by omega, by omega⟩, ⟨by omega, by omega⟩, ?_⟩
        obtain ⟨H2, e2⟩ : ∃ H2, H2 = (H'.push ⟨2, true, [.int .i64 a, .int .i64 (r.getD a 0)]⟩).push ⟨38, true, [.slice (some ⟨H'.next, 0, some 1⟩) 2 2]⟩ := ⟨_, rfl⟩
        have n2 : H2.next = H'.next + 2 := by rw [e2]; rfl
        have s2 : ∀ i, i < H'.next → H2.row i = H'.row i := fun i hi => by rw [e2, AH.push_row, if_neg (by rw [AH.push_next]; omega), AH.push_row, if_neg (by omega)]
        have x2 : H2.row H'.next = some ⟨2, true, ints [(a : Int), r.getD a 0]⟩ := by rw [e2, AH.push_row, if_neg (by rw [AH.push_next]; omega), AH.push_row, if_pos rfl]; rfl
        rw [← e2]
        clear e2
        refine appE_fr2 (hfr.same fun i _ hi => s2 i (by omega)) (m := 2) (l := [(a : Int), r.getD a 0]) ⟨rfl, .inr ⟨H'.next, by omega, by omega, rfl, x2⟩⟩ rfl (by decide) (by omega) hlh (by omega) ?_
        intro v' H3 n3 s3 f3
        try simp (disch := first | omega | (simp only [ints_length, List.length_replicate]; done) | (simp only [ints_length, List.length_replicate]; omega)) only [Sall,evalOp,init,binE,binI,unE,convE,okNil,builtE,gv,TD.isAgg,resV,↓reduceIte,Nat.reduceEqDiff,reduceCtorEq,Nat.reduceAdd,Nat.reduceMul,Nat.reduceLeDiff,quietOp,blindOp,Int.reduceEq,Int.reduceLT,Int.reduceLE,Nat.reduceLT,ti2,ti3,ti4,ti45,ti46,ti38,ti25,ti30,ti22,ti32,ti24,ti95,ti172,ti169,ti165,ti166,ti65,ti143,ti87, h9, h8, h2, w64]
        refine ⟨n - (a + 1), by omega, a + 1, v', lo, H2.next + 1, rfl, by omega, by omega, rfl, ⟨by have := hup.next; omega, fun i hi => ?_⟩, ?_, by omega, by omega, by omega, ?_⟩
        · rw [s3 i (by omega) (by omega), s2 i (by have := hup.next; omega), hup.row i hi]
        · rw [s3 _ (by omega) (by omega), s2 _ (by omega), hr1]
        · rw [pairsL_yes r a hp]; exact f3
      · try simp (disch := first | omega | (simp only [ints_length, List.length_replicate]; done) | (simp only [ints_length, List.length_replicate]; omega)) only [Sall,evalOp,init,binE,binI,unE,convE,okNil,builtE,gv,TD.isAgg,resV,↓reduceIte,Nat.reduceEqDiff,reduceCtorEq,Nat.reduceAdd,Nat.reduceMul,Nat.reduceLeDiff,quietOp,blindOp,Int.reduceEq,Int.reduceLT,Int.reduceLE,Nat.reduceLT,ti2,ti3,ti4,ti45,ti46,ti38,ti25,ti30,ti22,ti32,ti24,ti95,ti172,ti169,ti165,ti166,ti65,ti143,ti87, h9, h8, h5, h2, hr1, ints_get?, hp, decide_false, w64]
        refine ⟨⟨by omega, by omega⟩, n - (a + 1), by omega, a + 1, u, lo, hi, rfl, by omega, by omega, ?_⟩
        rw [pairsL_no r a hp]
        and_intros <;> first | omega | rfl | assumption
    · have ha : a = n := by omega
      subst ha
      try simp (disch := first | omega | (simp only [ints_length, List.length_replicate]; done) | (simp only [ints_length, List.length_replicate]; omega)) only [Sall,evalOp,init,binE,binI,unE,convE,okNil,builtE,gv,TD.isAgg,resV,↓reduceIte,Nat.reduceEqDiff,reduceCtorEq,Nat.reduceAdd,Nat.reduceMul,Nat.reduceLeDiff,quietOp,blindOp,Int.reduceEq,Int.reduceLT,Int.reduceLE,Nat.reduceLT,ti2,ti3,ti4,ti45,ti46,ti38,ti25,ti30,ti22,ti32,ti24,ti95,ti172,ti169,ti165,ti166,ti65,ti143,ti87, h5]
      exact ⟨hup, hfr.wide (by omega) hhi⟩

theorem l01Pairs_c (n : Nat) (r : List Int) (hr : r.length = 14) (hn : n ≤ 14) (H : AH) : ACalls Try.prog 156 [.int .i64 n, .agg (ints r).toArray] H (fun v H' => Up H.next H H' ∧ Fr2 1 38 2 H.next H'.next H' v (pairsL r n)) := by
  refine acalls_of_awp [.tmp 4] Try.func156 (by kernel_rfl) rfl rfl (Nat.le_of_ble_eq_true rfl) (by kernel_rfl) ?_
  try simp (disch := first | omega | (simp only [ints_length, List.length_replicate]; done) | (simp only [ints_length, List.length_replicate]; omega)) only [Sall,evalOp,init,binE,binI,unE,convE,okNil,builtE,gv,TD.isAgg,resV,↓reduceIte,Nat.reduceEqDiff,reduceCtorEq,Nat.reduceAdd,Nat.reduceMul,Nat.reduceLeDiff,quietOp,blindOp,Int.reduceEq,Int.reduceLT,Int.reduceLE,Nat.reduceLT,ti2,ti3,ti4,ti45,ti46,ti38,ti25,ti30,ti22,ti32,ti24,ti95,ti172,ti169,ti165,ti166,ti65,ti143,ti87, zeros_zero]
  refine awp_loop (fun m t H' => ∃ (a : Nat) (u : Value) (lo hi : Nat), m = n - a ∧ a ≤ n ∧ t 6 = .int .i64 a ∧ t 0 = .int .i64 n ∧ t 5 = u ∧ t 3 = .pointer (some ⟨H.next, 0, none⟩) ∧ Up H.next H H' ∧ H'.row H.next = some ⟨46, true, ints r⟩ ∧
    H.next < lo ∧ lo ≤ hi ∧ hi ≤ H'.next ∧ Fr2 1 38 2 lo hi H' u (pairsL r a)) n ?_ ?_
  · refine ⟨0, .slice (some ⟨H.next + 1, 0, some 1⟩) 0 0, H.next + 1, H.next + 2, by omega, by omega, ?_⟩
    try simp (disch := first | omega | (simp only [ints_length, List.length_replicate]; done) | (simp only [ints_length, List.length_replicate]; omega)) only [Sall,evalOp,init,binE,binI,unE,convE,okNil,builtE,gv,TD.isAgg,resV,↓reduceIte,Nat.reduceEqDiff,reduceCtorEq,Nat.reduceAdd,Nat.reduceMul,Nat.reduceLeDiff,quietOp,blindOp,Int.reduceEq,Int.reduceLT,Int.reduceLE,Nat.reduceLT,ti2,ti3,ti4,ti45,ti46,ti38,ti25,ti30,ti22,ti32,ti24,ti95,ti172,ti169,ti165,ti166,ti65,ti143,ti87, Int.natCast_zero]
    refine ⟨((Up.refl _ H).push (by omega) _).push (Nat.le_succ _) _, by omega, by omega, ?_⟩
    exact .inr ⟨H.next + 1, [], fun _ => H.next + 2, by omega, by omega, rfl, by rw [AH.push_row, if_pos (by rw [AH.push_next])], rfl, by dsimp only; omega, by dsimp only; omega, .inl (by dsimp only; omega), fun _ => Nat.le_refl _, fun j hj => by simp [pairsL_zero] at hj⟩
  · rintro m t H' ⟨a, u, lo, hi, hm, h14, h9, h8, h5, h2, hup, hr1, hlo, hlh, hhi, hfr⟩
    try simp (disch := first | omega | (simp only [ints_length, List.length_replicate]; done) | (simp only [ints_length, List.length_replicate]; omega)) only [Sall,evalOp,init,binE,binI,unE,convE,okNil,builtE,gv,TD.isAgg,resV,↓reduceIte,Nat.reduceEqDiff,reduceCtorEq,Nat.reduceAdd,Nat.reduceMul,Nat.reduceLeDiff,quietOp,blindOp,Int.reduceEq,Int.reduceLT,Int.reduceLE,Nat.reduceLT,ti2,ti3,ti4,ti45,ti46,ti38,ti25,ti30,ti22,ti32,ti24,ti95,ti172,ti169,ti165,ti166,ti65,ti143,ti87, h9, h8]
    refine condC_dec (fun h => ?_) (fun h => ?_)
    · by_cases hp : (a : Int) < r.getD a 0
      · have hle := pairsL_le r a
        have ne1 : ¬ H.next = H'.next := by omega
        try simp (disch := first | omega | (simp only [ints_length, List.length_replicate]; done) | (simp only [ints_length, List.length_replicate]; omega)) only [Sall,evalOp,init,binE,binI,unE,convE,okNil,builtE,gv,TD.isAgg,resV,↓reduceIte,Nat.reduceEqDiff,reduceCtorEq,Nat.reduceAdd,Nat.reduceMul,Nat.reduceLeDiff,quietOp,blindOp,Int.reduceEq,Int.reduceLT,Int.reduceLE,Nat.reduceLT,ti2,ti3,ti4,ti45,ti46,ti38,ti25,ti30,ti22,ti32,ti24,ti95,ti172,ti169,ti165,ti166,ti65,ti143,ti87, h9, h8, h5, h2, hr1, ints_get?, hp, decide_true, zeros_one, zeros_two, slCells, ne1]
        refine ⟨⟨by omega, by omega⟩, ⟨by omega, by omega⟩, ?_⟩
        obtain ⟨H2, e2⟩ : ∃ H2, H2 = (H'.push ⟨2, true, [.int .i64 a, .int .i64 (r.getD a 0)]⟩).push ⟨38, true, [.slice (some ⟨H'.next, 0, some 1⟩) 2 2]⟩ := ⟨_, rfl⟩
        have n2 : H2.next = H'.next + 2 := by rw [e2]; rfl
        have s2 : ∀ i, i < H'.next → H2.row i = H'.row i := fun i hi => by rw [e2, AH.push_row, if_neg (by rw [AH.push_next]; omega), AH.push_row, if_neg (by omega)]
        have x2 : H2.row H'.next = some ⟨2, true, ints [(a : Int), r.getD a 0]⟩ := by rw [e2, AH.push_row, if_neg (by rw [AH.push_next]; omega), AH.push_row, if_pos rfl]; rfl
        rw [← e2]
        clear e2
        refine appE_fr2 (hfr.same fun i _ hi => s2 i (by omega)) (m := 2) (l := [(a : Int), r.getD a 0]) ⟨rfl, .inr ⟨H'.next, by omega, by omega, rfl, x2⟩⟩ rfl (by decide) (by omega) hlh (by omega) ?_
        intro v' H3 n3 s3 f3
        try simp (disch := first | omega | (simp only [ints_length, List.length_replicate]; done) | (simp only [ints_length, List.length_replicate]; omega)) only [Sall,evalOp,init,binE,binI,unE,convE,okNil,builtE,gv,TD.isAgg,resV,↓reduceIte,Nat.reduceEqDiff,reduceCtorEq,Nat.reduceAdd,Nat.reduceMul,Nat.reduceLeDiff,quietOp,blindOp,Int.reduceEq,Int.reduceLT,Int.reduceLE,Nat.reduceLT,ti2,ti3,ti4,ti45,ti46,ti38,ti25,ti30,ti22,ti32,ti24,ti95,ti172,ti169,ti165,ti166,ti65,ti143,ti87, h9, h8, h2, w64]
        refine ⟨n - (a + 1), by omega, a + 1, v', lo, H2.next + 1, rfl, by omega, by omega, rfl, ⟨by have := hup.next; omega, fun i hi => ?_⟩, ?_, by omega, by omega, by omega, ?_⟩
        · rw [s3 i (by omega) (by omega), s2 i (by have := hup.next; omega), hup.row i hi]
        · rw [s3 _ (by omega) (by omega), s2 _ (by omega), hr1]
        · rw [pairsL_yes r a hp]; exact f3
      · try simp (disch := first | omega | (simp only [ints_length, List.length_replicate]; done) | (simp only [ints_length, List.length_replicate]; omega)) only [Sall,evalOp,init,binE,binI,unE,convE,okNil,builtE,gv,TD.isAgg,resV,↓reduceIte,Nat.reduceEqDiff,reduceCtorEq,Nat.reduceAdd,Nat.reduceMul,Nat.reduceLeDiff,quietOp,blindOp,Int.reduceEq,Int.reduceLT,Int.reduceLE,Nat.reduceLT,ti2,ti3,ti4,ti45,ti46,ti38,ti25,ti30,ti22,ti32,ti24,ti95,ti172,ti169,ti165,ti166,ti65,ti143,ti87, h9, h8, h5, h2, hr1, ints_get?, hp, decide_false, w64]
        refine ⟨⟨by omega, by omega⟩, n - (a + 1), by omega, a + 1, u, lo, hi, rfl, by omega, by omega, ?_⟩
        rw [pairsL_no r a hp]
        and_intros <;> first | omega | rfl | assumption
    · have ha : a = n := by omega
      subst ha
      try simp (disch := first | omega | (simp only [ints_length, List.length_replicate]; done) | (simp only [ints_length, List.length_replicate]; omega)) only [Sall,evalOp,init,binE,binI,unE,convE,okNil,builtE,gv,TD.isAgg,resV,↓reduceIte,Nat.reduceEqDiff,reduceCtorEq,Nat.reduceAdd,Nat.reduceMul,Nat.reduceLeDiff,quietOp,blindOp,Int.reduceEq,Int.reduceLT,Int.reduceLE,Nat.reduceLT,ti2,ti3,ti4,ti45,ti46,ti38,ti25,ti30,ti22,ti32,ti24,ti95,ti172,ti169,ti165,ti166,ti65,ti143,ti87, h5]
      exact ⟨hup, hfr.wide (by omega) hhi⟩
end Go.Proofs.Ytgkmdfjjlghecaa.A
end

section
set_option linter.unusedSimpArgs false
set_option linter.unusedVariables false
set_option maxRecDepth 100000
namespace Go.Proofs.Ytgkmdfjjlghecaa.A
open Go Go.Abs Go.RowKit

theorem indexFuncI_c (g : FuncId) (cap : List Value) (p : Int → Bool) (v : Value) (k : Nat) (l : List Int) (H : AH) (hv : Rd 1 H v k l) (hk : k ≤ 4294967296)
    (hp : ∀ x : Int, ACalls Try.prog g (.int .i64 x :: cap) H (is (.bool (p x)) H)) :
    ACalls Try.prog 218 [v, .func (.func g) #[] cap.toArray] H (is (.int .i64 (firstI (fun i => p (l.getD i 0)) k)) H) := by
  refine acalls_of_awp [.tmp 4] Try.func218 (by kernel_rfl) rfl rfl (Nat.le_of_ble_eq_true rfl) (by kernel_rfl) ?_
  try simp (disch := first | omega | (simp only [ints_length, List.length_replicate]; done) | (simp only [ints_length, List.length_replicate]; omega)) only [Sall,evalOp,init,binE,binI,unE,convE,okNil,builtE,gv,TD.isAgg,resV,↓reduceIte,Nat.reduceEqDiff,reduceCtorEq,Nat.reduceAdd,Nat.reduceMul,Nat.reduceLeDiff,quietOp,blindOp,Int.reduceEq,Int.reduceLT,Int.reduceLE,Nat.reduceLT,ti2,ti3,ti4,ti45,ti46,ti38,ti25,ti30,ti22,ti32,ti24,ti95,ti172,ti169,ti165,ti166,ti65,ti143,ti87, builtE, hv.len]
  refine awp_loop (fun m t H' => ∃ a : Nat, m = k - a ∧ a ≤ k ∧ t 8 = .int .i64 a ∧ t 7 = .int .i64 k ∧ t 0 = v ∧ t 1 = .func (.func g) #[] cap.toArray ∧ H' = H ∧ (∀ x, x < a → p (l.getD x 0) = false)) k ?_ ?_
  · refine ⟨0, by omega, by omega, ?_⟩
    try simp (disch := first | omega | (simp only [ints_length, List.length_replicate]; done) | (simp only [ints_length, List.length_replicate]; omega)) only [Sall,evalOp,init,binE,binI,unE,convE,okNil,builtE,gv,TD.isAgg,resV,↓reduceIte,Nat.reduceEqDiff,reduceCtorEq,Nat.reduceAdd,Nat.reduceMul,Nat.reduceLeDiff,quietOp,blindOp,Int.reduceEq,Int.reduceLT,Int.reduceLE,Nat.reduceLT,ti2,ti3,ti4,ti45,ti46,ti38,ti25,ti30,ti22,ti32,ti24,ti95,ti172,ti169,ti165,ti166,ti65,ti143,ti87, Int.natCast_zero, Nat.not_lt_zero, false_implies]
  · rintro m t H' ⟨a, hm, h14, h8, h7, h0, h1, rfl, hall⟩
    try simp (disch := first | omega | (simp only [ints_length, List.length_replicate]; done) | (simp only [ints_length, List.length_replicate]; omega)) only [Sall,evalOp,init,binE,binI,unE,convE,okNil,builtE,gv,TD.isAgg,resV,↓reduceIte,Nat.reduceEqDiff,reduceCtorEq,Nat.reduceAdd,Nat.reduceMul,Nat.reduceLeDiff,quietOp,blindOp,Int.reduceEq,Int.reduceLT,Int.reduceLE,Nat.reduceLT,ti2,ti3,ti4,ti45,ti46,ti38,ti25,ti30,ti22,ti32,ti24,ti95,ti172,ti169,ti165,ti166,ti65,ti143,ti87, h8, h7]
    refine condC_dec (fun h => ?_) (fun h => ?_)
    · obtain ⟨i, o, u, c, r, rfl, hr, hc, hs1, hg⟩ := hv.get (by omega)
      try simp (disch := first | omega | (simp only [ints_length, List.length_replicate]; done) | (simp only [ints_length, List.length_replicate]; omega)) only [Sall,evalOp,init,binE,binI,unE,convE,okNil,builtE,gv,TD.isAgg,resV,↓reduceIte,Nat.reduceEqDiff,reduceCtorEq,Nat.reduceAdd,Nat.reduceMul,Nat.reduceLeDiff,quietOp,blindOp,Int.reduceEq,Int.reduceLT,Int.reduceLE,Nat.reduceLT,ti2,ti3,ti4,ti45,ti46,ti38,ti25,ti30,ti22,ti32,ti24,ti95,ti172,ti169,ti165,ti166,ti65,ti143,ti87, h8, h7, h0, h1, hr, hs1]
      refine ⟨⟨by omega, by omega⟩, (hp _).to ?_⟩
      cases hb : p (l.getD a 0) with
      | true =>
        try simp (disch := first | omega | (simp only [ints_length, List.length_replicate]; done) | (simp only [ints_length, List.length_replicate]; omega)) only [Sall,evalOp,init,binE,binI,unE,convE,okNil,builtE,gv,TD.isAgg,resV,↓reduceIte,Nat.reduceEqDiff,reduceCtorEq,Nat.reduceAdd,Nat.reduceMul,Nat.reduceLeDiff,quietOp,blindOp,Int.reduceEq,Int.reduceLT,Int.reduceLE,Nat.reduceLT,ti2,ti3,ti4,ti45,ti46,ti38,ti25,ti30,ti22,ti32,ti24,ti95,ti172,ti169,ti165,ti166,ti65,ti143,ti87, h8, h7, h0, h1, is]
        rw [firstI_at (p := fun i => p (l.getD i 0)) (by omega) hb hall]
      | false =>
        try simp (disch := first | omega | (simp only [ints_length, List.length_replicate]; done) | (simp only [ints_length, List.length_replicate]; omega)) only [Sall,evalOp,init,binE,binI,unE,convE,okNil,builtE,gv,TD.isAgg,resV,↓reduceIte,Nat.reduceEqDiff,reduceCtorEq,Nat.reduceAdd,Nat.reduceMul,Nat.reduceLeDiff,quietOp,blindOp,Int.reduceEq,Int.reduceLT,Int.reduceLE,Nat.reduceLT,ti2,ti3,ti4,ti45,ti46,ti38,ti25,ti30,ti22,ti32,ti24,ti95,ti172,ti169,ti165,ti166,ti65,ti143,ti87, h8, h7, h0, h1, w64]
        refine ⟨k - (a + 1), by omega, a + 1, rfl, by omega, by omega, fun x hx => ?_⟩
        by_cases e : x = a
        · rw [e]; exact hb
        · exact hall x (by omega)
    · try simp (disch := first | omega | (simp only [ints_length, List.length_replicate]; done) | (simp only [ints_length, List.length_replicate]; omega)) only [Sall,evalOp,init,binE,binI,unE,convE,okNil,builtE,gv,TD.isAgg,resV,↓reduceIte,Nat.reduceEqDiff,reduceCtorEq,Nat.reduceAdd,Nat.reduceMul,Nat.reduceLeDiff,quietOp,blindOp,Int.reduceEq,Int.reduceLT,Int.reduceLE,Nat.reduceLT,ti2,ti3,ti4,ti45,ti46,ti38,ti25,ti30,ti22,ti32,ti24,ti95,ti172,ti169,ti165,ti166,ti65,ti143,ti87, is]
      rw [firstI_none (p := fun i => p (l.getD i 0)) fun x hx => hall x (by omega)]

theorem containsFuncI_c (g : FuncId) (cap : List Value) (p : Int → Bool) (v : Value) (k : Nat) (l : List Int) (H : AH) (hv : Rd 1 H v k l) (hk : k ≤ 4294967296)
    (hp : ∀ x : Int, ACalls Try.prog g (.int .i64 x :: cap) H (is (.bool (p x)) H)) :
    ACalls Try.prog 194 [v, .func (.func g) #[] cap.toArray] H (is (.bool ((List.range k).any fun i => p (l.getD i 0))) H) := by
  refine acalls_of_awp [.tmp 4] Try.func194 (by kernel_rfl) rfl rfl (Nat.le_of_ble_eq_true rfl) (by kernel_rfl) ?_
  try simp (disch := first | omega | (simp only [ints_length, List.length_replicate]; done) | (simp only [ints_length, List.length_replicate]; omega)) only [Sall,evalOp,init,binE,binI,unE,convE,okNil,builtE,gv,TD.isAgg,resV,↓reduceIte,Nat.reduceEqDiff,reduceCtorEq,Nat.reduceAdd,Nat.reduceMul,Nat.reduceLeDiff,quietOp,blindOp,Int.reduceEq,Int.reduceLT,Int.reduceLE,Nat.reduceLT,ti2,ti3,ti4,ti45,ti46,ti38,ti25,ti30,ti22,ti32,ti24,ti95,ti172,ti169,ti165,ti166,ti65,ti143,ti87, true_and]
  refine (indexFuncI_c g cap p v k l H hv hk hp).to ?_
  try simp (disch := first | omega | (simp only [ints_length, List.length_replicate]; done) | (simp only [ints_length, List.length_replicate]; omega)) only [Sall,evalOp,init,binE,binI,unE,convE,okNil,builtE,gv,TD.isAgg,resV,↓reduceIte,Nat.reduceEqDiff,reduceCtorEq,Nat.reduceAdd,Nat.reduceMul,Nat.reduceLeDiff,quietOp,blindOp,Int.reduceEq,Int.reduceLT,Int.reduceLE,Nat.reduceLT,ti2,ti3,ti4,ti45,ti46,ti38,ti25,ti30,ti22,ti32,ti24,ti95,ti172,ti169,ti165,ti166,ti65,ti143,ti87, is, firstI_any]

theorem areResults1_c (x : Int) (H : AH) : ACalls Try.prog 204 [.int .i64 x] H (is (.bool (!decide (0 ≤ x ∧ x ≤ 2))) H) := by
  refine acalls_of_awp [.tmp 2] Try.func204 (by kernel_rfl) rfl rfl (Nat.le_of_ble_eq_true rfl) (by kernel_rfl) ?_
  try simp (disch := first | omega | (simp only [ints_length, List.length_replicate]; done) | (simp only [ints_length, List.length_replicate]; omega)) only [Sall,evalOp,init,binE,binI,unE,convE,okNil,builtE,gv,TD.isAgg,resV,↓reduceIte,Nat.reduceEqDiff,reduceCtorEq,Nat.reduceAdd,Nat.reduceMul,Nat.reduceLeDiff,quietOp,blindOp,Int.reduceEq,Int.reduceLT,Int.reduceLE,Nat.reduceLT,ti2,ti3,ti4,ti45,ti46,ti38,ti25,ti30,ti22,ti32,ti24,ti95,ti172,ti169,ti165,ti166,ti65,ti143,ti87, true_and]
  refine (between_c _ _ _ _).to ?_
  try simp (disch := first | omega | (simp only [ints_length, List.length_replicate]; done) | (simp only [ints_length, List.length_replicate]; omega)) only [Sall,evalOp,init,binE,binI,unE,convE,okNil,builtE,gv,TD.isAgg,resV,↓reduceIte,Nat.reduceEqDiff,reduceCtorEq,Nat.reduceAdd,Nat.reduceMul,Nat.reduceLeDiff,quietOp,blindOp,Int.reduceEq,Int.reduceLT,Int.reduceLE,Nat.reduceLT,ti2,ti3,ti4,ti45,ti46,ti38,ti25,ti30,ti22,ti32,ti24,ti95,ti172,ti169,ti165,ti166,ti65,ti143,ti87, is]

theorem areResults_c (n : Nat) (v : Value) (k : Nat) (l : List Int) (x : Value) (ll : List (List Int)) (H : AH) (hn : n ≤ 14) (hv : Rd 14 H v k l) (hk : k ≤ 4294967296) (hx : Rd2 1 H x ll) (hl : ll.length ≤ 4294967296) (hl2 : ∀ y ∈ ll, y.length ≤ 4294967296) :
    ACalls Try.prog 153 [.agg #[.int .i64 n, v], x] H (is (.bool (resB n k l ll)) H) := by
  refine ACalls.wf (by kernel_rfl) fun hs => acalls_up rfl (acalls_of_awp [.tmp 4] Try.func153 (by kernel_rfl) rfl rfl (Nat.le_of_ble_eq_true rfl) (by kernel_rfl) ?_)
  have up : Up H.next H (H.push ⟨32, true, [.int .i64 n, v]⟩) := (Up.refl _ H).push (Nat.le_refl _) _
  have e1 : (H.push ⟨32, true, [.int .i64 n, v]⟩).row H.next = some ⟨32, true, [.int .i64 n, v]⟩ := by rw [AH.push_row, if_pos rfl]
  have n1 : (H.push ⟨32, true, [.int .i64 n, v]⟩).next = H.next + 1 := rfl
  by_cases hlk : ll.length ≤ k
  · have hlk' : ¬ (k : Int) < (ll.length : Int) := by omega
    try simp (disch := first | omega | (simp only [ints_length, List.length_replicate]; done) | (simp only [ints_length, List.length_replicate]; omega)) only [Sall,evalOp,init,binE,binI,unE,convE,okNil,builtE,gv,TD.isAgg,resV,↓reduceIte,Nat.reduceEqDiff,reduceCtorEq,Nat.reduceAdd,Nat.reduceMul,Nat.reduceLeDiff,quietOp,blindOp,Int.reduceEq,Int.reduceLT,Int.reduceLE,Nat.reduceLT,ti2,ti3,ti4,ti45,ti46,ti38,ti25,ti30,ti22,ti32,ti24,ti95,ti172,ti169,ti165,ti166,ti65,ti143,ti87, builtE, hx.len, hv.len, hlk', decide_false]
    refine awp_loop (fun m t H' => ∃ a : Nat, m = ll.length - a ∧ a ≤ ll.length ∧ t 15 = .int .i64 a ∧ t 14 = .int .i64 ll.length ∧ t 13 = x ∧ t 2 = .pointer (some ⟨H.next, 0, none⟩) ∧ Up H.next H H' ∧ H.next < H'.next ∧ H'.row H.next = some ⟨32, true, [.int .i64 n, v]⟩ ∧ (∀ i, i < a → resAt n (rnd l i) (ll.getD i []) = true)) ll.length ?_ ?_
    · refine ⟨0, by omega, by omega, ?_⟩
      try simp (disch := first | omega | (simp only [ints_length, List.length_replicate]; done) | (simp only [ints_length, List.length_replicate]; omega)) only [Sall,evalOp,init,binE,binI,unE,convE,okNil,builtE,gv,TD.isAgg,resV,↓reduceIte,Nat.reduceEqDiff,reduceCtorEq,Nat.reduceAdd,Nat.reduceMul,Nat.reduceLeDiff,quietOp,blindOp,Int.reduceEq,Int.reduceLT,Int.reduceLE,Nat.reduceLT,ti2,ti3,ti4,ti45,ti46,ti38,ti25,ti30,ti22,ti32,ti24,ti95,ti172,ti169,ti165,ti166,ti65,ti143,ti87, Int.natCast_zero, Nat.not_lt_zero, false_implies]
      exact ⟨up, by omega⟩
    · rintro m t H' ⟨a, hm, h14, h15, h14', h13, h2, hup, hnx, hr1, hall⟩
      try simp (disch := first | omega | (simp only [ints_length, List.length_replicate]; done) | (simp only [ints_length, List.length_replicate]; omega)) only [Sall,evalOp,init,binE,binI,unE,convE,okNil,builtE,gv,TD.isAgg,resV,↓reduceIte,Nat.reduceEqDiff,reduceCtorEq,Nat.reduceAdd,Nat.reduceMul,Nat.reduceLeDiff,quietOp,blindOp,Int.reduceEq,Int.reduceLT,Int.reduceLE,Nat.reduceLT,ti2,ti3,ti4,ti45,ti46,ti38,ti25,ti30,ti22,ti32,ti24,ti95,ti172,ti169,ti165,ti166,ti65,ti143,ti87, h15, h14']
      refine condC_dec (fun h => ?_) (fun h => ?_)
      · have hx' : Rd2 1 H' x ll := hx.same fun i r hr => by have := hs i r hr; rw [hup.row i this, hr]
        have hv' : Rd 14 H' v k l := hv.same fun i r hr => by have := hs i r hr; rw [hup.row i this, hr]
        obtain ⟨i, o, u, c, r, y, my, rfl, hr, hy, hsx, hok⟩ := hx'.get (j := a) (by omega)
        obtain ⟨i', o', u', c', r', rfl, hr', hc', hs', hg'⟩ := hv'.get (by omega)
        have hml := hl2 _ (getD_mem (ll := ll) (a := a) (by omega))
        have hmm := hsx.lenK1
        try simp (disch := first | omega | (simp only [ints_length, List.length_replicate]; done) | (simp only [ints_length, List.length_replicate]; omega)) only [Sall,evalOp,init,binE,binI,unE,convE,okNil,builtE,gv,TD.isAgg,resV,↓reduceIte,Nat.reduceEqDiff,reduceCtorEq,Nat.reduceAdd,Nat.reduceMul,Nat.reduceLeDiff,quietOp,blindOp,Int.reduceEq,Int.reduceLT,Int.reduceLE,Nat.reduceLT,ti2,ti3,ti4,ti45,ti46,ti38,ti25,ti30,ti22,ti32,ti24,ti95,ti172,ti169,ti165,ti166,ti65,ti143,ti87, h15, h14', h13, h2, hr, hy, hok]
        refine ⟨by omega, ?_⟩
        refine draw_id (by kernel_rfl) (by kernel_rfl) ?_
        try simp (disch := first | omega | (simp only [ints_length, List.length_replicate]; done) | (simp only [ints_length, List.length_replicate]; omega)) only [Sall,evalOp,init,binE,binI,unE,convE,okNil,builtE,gv,TD.isAgg,resV,↓reduceIte,Nat.reduceEqDiff,reduceCtorEq,Nat.reduceAdd,Nat.reduceMul,Nat.reduceLeDiff,quietOp,blindOp,Int.reduceEq,Int.reduceLT,Int.reduceLE,Nat.reduceLT,ti2,ti3,ti4,ti45,ti46,ti38,ti25,ti30,ti22,ti32,ti24,ti95,ti172,ti169,ti165,ti166,ti65,ti143,ti87, builtE, hsx.len, h15, h2, hr1, hr', hg']
        have hrl : (rnd l a).length = 14 := rnd_length l a k hv.1 (by omega)
        refine ⟨⟨by omega, by omega⟩, by omega, ACalls.wf (by kernel_rfl) fun hs1 => (pairs_c n (rnd l a) hrl hn H').mono ?_⟩
        rintro p H3 ⟨up3, hp⟩
        have hpl := hp.rd.len
        refine ⟨.inr (.inr (up3.le hs1)), ?_⟩
        have hsx3 : Rd 1 H3 y my (ll.getD a []) := hsx.same (up3.le hs1).row
        have hr3 : H3.row H.next = some ⟨32, true, [.int .i64 n, .slice (some ⟨i', o', u'⟩) k c']⟩ := by rw [up3.row _ hnx, hr1]
        have n3 := up3.next
        refine Holds.mp ?_
        by_cases hq : my = (pairsL (rnd l a) n).length
        · have e2 : ((my : Int) != ((pairsL (rnd l a) n).length : Int)) = false := by rw [hq]; exact bne_self_eq_false _
          try simp (disch := first | omega | (simp only [ints_length, List.length_replicate]; done) | (simp only [ints_length, List.length_replicate]; omega)) only [Sall,evalOp,init,binE,binI,unE,convE,okNil,builtE,gv,TD.isAgg,resV,↓reduceIte,Nat.reduceEqDiff,reduceCtorEq,Nat.reduceAdd,Nat.reduceMul,Nat.reduceLeDiff,quietOp,blindOp,Int.reduceEq,Int.reduceLT,Int.reduceLE,Nat.reduceLT,ti2,ti3,ti4,ti45,ti46,ti38,ti25,ti30,ti22,ti32,ti24,ti95,ti172,ti169,ti165,ti166,ti65,ti143,ti87, builtE, hpl, e2, h15, h2]
          refine (containsFuncI_c 204 [] (fun z => !decide (0 ≤ z ∧ z ≤ 2)) y my _ H3 hsx3 (by omega) (fun z => areResults1_c z H3)).to ?_
          cases hb : (List.range my).any fun j => !decide (0 ≤ (ll.getD a []).getD j 0 ∧ (ll.getD a []).getD j 0 ≤ 2) with
          | true =>
            try simp (disch := first | omega | (simp only [ints_length, List.length_replicate]; done) | (simp only [ints_length, List.length_replicate]; omega)) only [Sall,evalOp,init,binE,binI,unE,convE,okNil,builtE,gv,TD.isAgg,resV,↓reduceIte,Nat.reduceEqDiff,reduceCtorEq,Nat.reduceAdd,Nat.reduceMul,Nat.reduceLeDiff,quietOp,blindOp,Int.reduceEq,Int.reduceLT,Int.reduceLE,Nat.reduceLT,ti2,ti3,ti4,ti45,ti46,ti38,ti25,ti30,ti22,ti32,ti24,ti95,ti172,ti169,ti165,ti166,ti65,ti143,ti87, true_and]
            refine ⟨.inr (.inr (LE.refl _)), ?_⟩
            rw [resB_bad (i := a) (by omega) (by rw [resAt_any, ← hmm, hb]; simp)]
            exact ⟨rfl, by have := hup.next; omega, fun i hi => by rw [up3.row i (by omega), hup.row i hi]⟩
          | false =>
            try simp (disch := first | omega | (simp only [ints_length, List.length_replicate]; done) | (simp only [ints_length, List.length_replicate]; omega)) only [Sall,evalOp,init,binE,binI,unE,convE,okNil,builtE,gv,TD.isAgg,resV,↓reduceIte,Nat.reduceEqDiff,reduceCtorEq,Nat.reduceAdd,Nat.reduceMul,Nat.reduceLeDiff,quietOp,blindOp,Int.reduceEq,Int.reduceLT,Int.reduceLE,Nat.reduceLT,ti2,ti3,ti4,ti45,ti46,ti38,ti25,ti30,ti22,ti32,ti24,ti95,ti172,ti169,ti165,ti166,ti65,ti143,ti87, h15, h14', h13, h2, w64]
            refine ⟨.inr (.inr (LE.refl _)), ll.length - (a + 1), by omega, a + 1, rfl, by omega, by omega, ⟨by have := hup.next; omega, fun i hi => by rw [up3.row i (by omega), hup.row i hi]⟩, by omega, hr3, fun i hi => ?_⟩
            by_cases e : i = a
            · rw [e, resAt_any, ← hmm, hb, hq]; simp
            · exact hall i (by omega)
        · have e2 : ((my : Int) != ((pairsL (rnd l a) n).length : Int)) = true := by rw [bne_iff_ne]; omega
          have e3 : resAt n (rnd l a) (ll.getD a []) = false := by
            unfold resAt
            rw [← hmm, show (my == (pairsL (rnd l a) n).length) = false by simpa using hq, Bool.false_and]
          try simp (disch := first | omega | (simp only [ints_length, List.length_replicate]; done) | (simp only [ints_length, List.length_replicate]; omega)) only [Sall,evalOp,init,binE,binI,unE,convE,okNil,builtE,gv,TD.isAgg,resV,↓reduceIte,Nat.reduceEqDiff,reduceCtorEq,Nat.reduceAdd,Nat.reduceMul,Nat.reduceLeDiff,quietOp,blindOp,Int.reduceEq,Int.reduceLT,Int.reduceLE,Nat.reduceLT,ti2,ti3,ti4,ti45,ti46,ti38,ti25,ti30,ti22,ti32,ti24,ti95,ti172,ti169,ti165,ti166,ti65,ti143,ti87, builtE, hpl, e2, h15, h2]
          rw [resB_bad (i := a) (by omega) e3]
          exact ⟨rfl, by have := hup.next; omega, fun i hi => by rw [up3.row i (by omega), hup.row i hi]⟩
      · try simp (disch := first | omega | (simp only [ints_length, List.length_replicate]; done) | (simp only [ints_length, List.length_replicate]; omega)) only [Sall,evalOp,init,binE,binI,unE,convE,okNil,builtE,gv,TD.isAgg,resV,↓reduceIte,Nat.reduceEqDiff,reduceCtorEq,Nat.reduceAdd,Nat.reduceMul,Nat.reduceLeDiff,quietOp,blindOp,Int.reduceEq,Int.reduceLT,Int.reduceLE,Nat.reduceLT,ti2,ti3,ti4,ti45,ti46,ti38,ti25,ti30,ti22,ti32,ti24,ti95,ti172,ti169,ti165,ti166,ti65,ti143,ti87, true_and]
        rw [resB_good hlk fun i hi => hall i (by omega)]
        exact ⟨rfl, hup⟩
  · have hlk' : (k : Int) < (ll.length : Int) := by omega
    try simp (disch := first | omega | (simp only [ints_length, List.length_replicate]; done) | (simp only [ints_length, List.length_replicate]; omega)) only [Sall,evalOp,init,binE,binI,unE,convE,okNil,builtE,gv,TD.isAgg,resV,↓reduceIte,Nat.reduceEqDiff,reduceCtorEq,Nat.reduceAdd,Nat.reduceMul,Nat.reduceLeDiff,quietOp,blindOp,Int.reduceEq,Int.reduceLT,Int.reduceLE,Nat.reduceLT,ti2,ti3,ti4,ti45,ti46,ti38,ti25,ti30,ti22,ti32,ti24,ti95,ti172,ti169,ti165,ti166,ti65,ti143,ti87, builtE, hx.len, hv.len, hlk', decide_true]
    unfold resB
    simp only [hlk, decide_false, Bool.false_and, true_and]
    exact up
end Go.Proofs.Ytgkmdfjjlghecaa.A
end
