/- Contracts: slices of slices are sorted by their least elements; slices are joined. And what follows. -/
import Derived.Test.YtollphjompimjaaM2
set_option linter.unusedSimpArgs false
set_option linter.unusedVariables false
section
set_option maxRecDepth 100000
set_option maxHeartbeats 2000000
namespace Go.Proofs.Ytollphjompimjaa.A
open Go Go.Abs Go.RowKit
theorem bitsLen64_c (x : Nat) (hx : x < 256) (H : AH) : ACalls Try.prog 65 [.int .u64 x] H (fun r H' => ∃ k, r = .int .i64 k ∧ H' = H ∧ True) := by
  refine acalls_of_awp [.tmp 2] Try.func65 (by kernel_rfl) rfl rfl (Nat.le_of_ble_eq_true rfl) (by kernel_rfl) ?_
  have h1 : ¬ (4294967296 : Int) ≤ (x : Int) := by omega
  have h2 : ¬ (65536 : Int) ≤ (x : Int) := by omega
  have h3 : ¬ (256 : Int) ≤ (x : Int) := by omega
  try simp (disch := first | omega | (simp only [ints_length, List.length_replicate, List.length_set, List.length_map] <;> omega)) only [Sall,evalOp,init,binA_s,binE,binI,unE,convE,okNil,builtE,gv,TD.isAgg,resV,↓reduceIte,Nat.reduceEqDiff,reduceCtorEq,Nat.reduceAdd,Nat.reduceMul,Nat.reduceLeDiff,quietOp,blindOp,Int.reduceEq,Int.reduceLT,Int.reduceLE,Nat.reduceLT,tiA,tiXA, h1, h2, h3, decide_false]
  have hw : IntKind.u8.wrap (x : Int) = (x : Int) := by
    rw [show IntKind.u8.wrap (x : Int) = (x : Int) % 256 from rfl]
    omega
  have hsz : ∀ s : ByteArray, s.size = 256 → (0 ≤ IntKind.u8.wrap (x : Int) ∧ IntKind.u8.wrap (x : Int) < (s.size : Int)) := fun s hs => by rw [hw, hs]; omega
  exact ⟨hsz _ rfl, _, rfl⟩
theorem cmpLL_c (x y : Value) (a b : List Int) (H : AH) (hx : Rd 1 H x a.length a) (hy : Rd 1 H y b.length b) (ha : 0 < a.length) (hb : 0 < b.length) (hne : hdL a ≠ hdL b) :
    ACalls Try.prog 32 [x, y] H (is (.int .i64 (if hdL a < hdL b then -1 else 1)) H) := by
  refine acalls_of_awp [.tmp 4] Try.func32 (by kernel_rfl) rfl rfl (Nat.le_of_ble_eq_true rfl) (by kernel_rfl) ?_
  have lx := hx.len
  have ly := hy.len
  try simp (disch := first | omega | (simp only [ints_length, List.length_replicate, List.length_set, List.length_map] <;> omega)) only [Sall,evalOp,init,binA_s,binE,binI,unE,convE,okNil,builtE,gv,TD.isAgg,resV,↓reduceIte,Nat.reduceEqDiff,reduceCtorEq,Nat.reduceAdd,Nat.reduceMul,Nat.reduceLeDiff,quietOp,blindOp,Int.reduceEq,Int.reduceLT,Int.reduceLE,Nat.reduceLT,tiA,tiXA, lx, builtE]
  refine awp_loop (fun m t H' => t 11 = .int .i64 0 ∧ t 10 = .int .i64 a.length ∧ t 9 = x ∧ t 1 = y ∧ H' = H) 0 ?_ ?_
  · try simp (disch := first | omega | (simp only [ints_length, List.length_replicate, List.length_set, List.length_map] <;> omega)) only [Sall,evalOp,init,binA_s,binE,binI,unE,convE,okNil,builtE,gv,TD.isAgg,resV,↓reduceIte,Nat.reduceEqDiff,reduceCtorEq,Nat.reduceAdd,Nat.reduceMul,Nat.reduceLeDiff,quietOp,blindOp,Int.reduceEq,Int.reduceLT,Int.reduceLE,Nat.reduceLT,tiA,tiXA, true_and]
  · rintro m t H' ⟨h11, h10, h9, h1, rfl⟩
    obtain ⟨xi, xo, xu, xc, xr, ex, x1, x2, x3, _⟩ := hx.get ha
    obtain ⟨yi, yo, yu, yc, yr, ey, y1, y2, y3, _⟩ := hy.get hb
    have x4 := x3 0 (by omega)
    have y4 := y3 0 (by omega)
    have c1 : (0 : Int) < (a.length : Int) := by omega
    have c2 : ¬ (b.length : Int) ≤ (0 : Int) := by omega
    have t0 : Int.toNat 0 = 0 := rfl
    rw [Nat.add_zero] at x4 y4
    have e : (0 : Int) < (b.length : Int) := by omega
    try simp (disch := first | omega | (simp only [ints_length, List.length_replicate, List.length_set, List.length_map] <;> omega)) only [Sall,evalOp,init,binA_s,binE,binI,unE,convE,okNil,builtE,gv,TD.isAgg,resV,↓reduceIte,Nat.reduceEqDiff,reduceCtorEq,Nat.reduceAdd,Nat.reduceMul,Nat.reduceLeDiff,quietOp,blindOp,Int.reduceEq,Int.reduceLT,Int.reduceLE,Nat.reduceLT,tiA,tiXA, h11, h10, h9, h1, c1, c2, decide_true, decide_false, ex, x1, x4, ey, y1, y4, t0, Nat.add_zero, ly, builtE]
    refine ⟨by omega, ?_⟩
    have hab : cmpI (a.getD 0 0) (b.getD 0 0) = if hdL a < hdL b then -1 else 1 := by
      unfold cmpI hdL at *
      split
      · rfl
      · rw [if_pos (by omega)]
    have hnz : ((if hdL a < hdL b then (-1 : Int) else 1) != 0) = true := by split <;> rfl
    refine (compare_c _ _ H').to ?_
    rw [hab]
    refine Holds.mp ?_
    try simp (disch := first | omega | (simp only [ints_length, List.length_replicate, List.length_set, List.length_map] <;> omega)) only [Sall,evalOp,init,binA_s,binE,binI,unE,convE,okNil,builtE,gv,TD.isAgg,resV,↓reduceIte,Nat.reduceEqDiff,reduceCtorEq,Nat.reduceAdd,Nat.reduceMul,Nat.reduceLeDiff,quietOp,blindOp,Int.reduceEq,Int.reduceLT,Int.reduceLE,Nat.reduceLT,tiA,tiXA, hnz]
    exact ⟨rfl, rfl⟩
theorem bitsLen_c (x : Nat) (hx : x < 256) (H : AH) : ACalls Try.prog 46 [.int .u64 x] H (fun r H' => ∃ k, r = .int .i64 k ∧ H' = H ∧ True) := by
  refine acalls_of_awp [.tmp 2] Try.func46 (by kernel_rfl) rfl rfl (Nat.le_of_ble_eq_true rfl) (by kernel_rfl) ?_
  try simp (disch := first | omega | (simp only [ints_length, List.length_replicate, List.length_set, List.length_map] <;> omega)) only [Sall,evalOp,init,binA_s,binE,binI,unE,convE,okNil,builtE,gv,TD.isAgg,resV,↓reduceIte,Nat.reduceEqDiff,reduceCtorEq,Nat.reduceAdd,Nat.reduceMul,Nat.reduceLeDiff,quietOp,blindOp,Int.reduceEq,Int.reduceLT,Int.reduceLE,Nat.reduceLT,tiA,tiXA, true_and]
  refine ACalls.exH (g := fun k => .int .i64 k) (bitsLen64_c x hx H) ?_
  intro k _
  refine Holds.mp ?_
  try simp (disch := first | omega | (simp only [ints_length, List.length_replicate, List.length_set, List.length_map] <;> omega)) only [Sall,evalOp,init,binA_s,binE,binI,unE,convE,okNil,builtE,gv,TD.isAgg,resV,↓reduceIte,Nat.reduceEqDiff,reduceCtorEq,Nat.reduceAdd,Nat.reduceMul,Nat.reduceLeDiff,quietOp,blindOp,Int.reduceEq,Int.reduceLT,Int.reduceLE,Nat.reduceLT,tiA,tiXA, true_and]
  exact ⟨_, rfl⟩
theorem insLL_c (m : Nat) (hm : m ≤ 20) (ps0 : List (Value × List Int)) (hl0 : ps0.length = m) (hk : ps0.Pairwise fun p q => hdL p.2 ≠ hdL q.2) (hne : ∀ p ∈ ps0, 0 < p.2.length) (ui uc : Nat) (H0 : AH) (hui : ui < H0.next) (hst : ∀ H1, Srt ui H0 H1 → RowsP ps0 H1) (hrow : H0.row ui = some ⟨32, true, ps0.map Prod.fst⟩) :
    ACalls Try.prog 56 [.slice (some ⟨ui, 0, some 1⟩) m uc, .int .i64 0, .int .i64 m, .func (.func 32) #[] #[]] H0
      (fun _ H' => ∃ ps : List (Value × List Int), ps.Perm ps0 ∧ (ps.Pairwise fun p q => hdL p.2 ≤ hdL q.2) ∧ Srt ui H0 H' ∧ H'.row ui = some ⟨32, true, ps.map Prod.fst⟩) := by
  refine ACalls.wf (by kernel_rfl) fun hs => acalls_of_awp [] Try.func56 (by kernel_rfl) rfl rfl (Nat.le_of_ble_eq_true rfl) (by kernel_rfl) ?_
  have key : ∀ {z : List (Value × List Int)}, z.Perm ps0 → z.Pairwise fun p q => hdL p.2 ≠ hdL q.2 := fun hp => (hp.pairwise_iff (fun h => Ne.symm h)).2 hk
  try simp (disch := first | omega | (simp only [ints_length, List.length_replicate, List.length_set, List.length_map] <;> omega)) only [Sall,evalOp,init,binA_s,binE,binI,unE,convE,okNil,builtE,gv,TD.isAgg,resV,↓reduceIte,Nat.reduceEqDiff,reduceCtorEq,Nat.reduceAdd,Nat.reduceMul,Nat.reduceLeDiff,quietOp,blindOp,Int.reduceEq,Int.reduceLT,Int.reduceLE,Nat.reduceLT,tiA,tiXA, w64]
  refine awp_loop (fun y t H' => ∃ (i : Nat) (z : List (Value × List Int)), y = m + 1 - i ∧ 1 ≤ i ∧ i ≤ m + 1 ∧ t 8 = .int .i64 i ∧ t 0 = .slice (some ⟨ui, 0, some 1⟩) m uc ∧ t 1 = .int .i64 0 ∧ t 2 = .int .i64 m ∧ t 3 = .func (.func 32) #[] #[] ∧ z.Perm ps0 ∧ ((z.take i).Pairwise fun p q => hdL p.2 ≤ hdL q.2) ∧ Srt ui H0 H' ∧ H'.row ui = some ⟨32, true, z.map Prod.fst⟩) m ?_ ?_
  · refine ⟨1, ps0, by omega, by omega, by omega, ?_⟩
    try simp (disch := first | omega | (simp only [ints_length, List.length_replicate, List.length_set, List.length_map] <;> omega)) only [Sall,evalOp,init,binA_s,binE,binI,unE,convE,okNil,builtE,gv,TD.isAgg,resV,↓reduceIte,Nat.reduceEqDiff,reduceCtorEq,Nat.reduceAdd,Nat.reduceMul,Nat.reduceLeDiff,quietOp,blindOp,Int.reduceEq,Int.reduceLT,Int.reduceLE,Nat.reduceLT,tiA,tiXA, true_and]
    refine ⟨rfl, List.Perm.refl _, ?_, ⟨Nat.le_refl _, fun _ _ _ => rfl, hs⟩, hrow⟩
    cases ps0 with
    | nil => simp
    | cons a y => simp
  · rintro y t H2 ⟨i, z, hy, h1i, hi, h8, h0, h1, h2, h3, hp, hsr, hS, hd⟩
    have hzl := hp.length_eq
    try simp (disch := first | omega | (simp only [ints_length, List.length_replicate, List.length_set, List.length_map] <;> omega)) only [Sall,evalOp,init,binA_s,binE,binI,unE,convE,okNil,builtE,gv,TD.isAgg,resV,↓reduceIte,Nat.reduceEqDiff,reduceCtorEq,Nat.reduceAdd,Nat.reduceMul,Nat.reduceLeDiff,quietOp,blindOp,Int.reduceEq,Int.reduceLT,Int.reduceLE,Nat.reduceLT,tiA,tiXA, h8, h2]
    refine condC_dec (fun hh => ?_) (fun hh => ?_)
    · have hil : i < m := by omega
      have I0 := Ins.start (key := fun p : Value × List Int => hdL p.2) hsr (show i < z.length by omega)
      try simp (disch := first | omega | (simp only [ints_length, List.length_replicate, List.length_set, List.length_map] <;> omega)) only [Sall,evalOp,init,binA_s,binE,binI,unE,convE,okNil,builtE,gv,TD.isAgg,resV,↓reduceIte,Nat.reduceEqDiff,reduceCtorEq,Nat.reduceAdd,Nat.reduceMul,Nat.reduceLeDiff,quietOp,blindOp,Int.reduceEq,Int.reduceLT,Int.reduceLE,Nat.reduceLT,tiA,tiXA, h8, h0, h1, h2, h3]
      refine awp_loop (fun y' t H' => ∃ (A : List (Value × List Int)) (x : Value × List Int) (B C : List (Value × List Int)) (z : List (Value × List Int)), y' = A.length ∧ A.length ≤ i ∧ t 9 = .int .i64 A.length ∧ t 8 = .int .i64 i ∧ t 0 = .slice (some ⟨ui, 0, some 1⟩) m uc ∧ t 1 = .int .i64 0 ∧ t 2 = .int .i64 m ∧ t 3 = .func (.func 32) #[] #[] ∧ z.Perm ps0 ∧ Ins (fun p : Value × List Int => hdL p.2) z i A x B C ∧ Srt ui H0 H' ∧ H'.row ui = some ⟨32, true, z.map Prod.fst⟩) i ?_ ?_
      · have hl1 : (z.take i).length = i := by rw [List.length_take]; omega
        refine ⟨z.take i, z[i], [], z.drop (i + 1), z, by omega, by omega, ?_⟩
        try simp (disch := first | omega | (simp only [ints_length, List.length_replicate, List.length_set, List.length_map] <;> omega)) only [Sall,evalOp,init,binA_s,binE,binI,unE,convE,okNil,builtE,gv,TD.isAgg,resV,↓reduceIte,Nat.reduceEqDiff,reduceCtorEq,Nat.reduceAdd,Nat.reduceMul,Nat.reduceLeDiff,quietOp,blindOp,Int.reduceEq,Int.reduceLT,Int.reduceLE,Nat.reduceLT,tiA,tiXA, h8, h0, h1, h2, h3, hl1]
        exact ⟨hp, I0, hS, hd⟩
      · rintro y' t H3 ⟨A, x, B, C, z, hy', hA, h9, h8, h0, h1, h2, h3, hp, I, hS, hd⟩
        have hzl := hp.length_eq
        have hall := I.len_all
        refine draw_id (by kernel_rfl) (by kernel_rfl) ?_
        by_cases c0 : A.length = 0
        · have e0 : A = [] := List.eq_nil_of_length_eq_zero c0
          subst e0
          have h00 : ¬ (0 : Int) < ((0 : Nat) : Int) := by omega
          have h9 : t 9 = .int .i64 ((0 : Nat) : Int) := h9
          try simp (disch := first | omega | (simp only [ints_length, List.length_replicate, List.length_set, List.length_map] <;> omega)) only [Sall,evalOp,init,binA_s,binE,binI,unE,convE,okNil,builtE,gv,TD.isAgg,resV,↓reduceIte,Nat.reduceEqDiff,reduceCtorEq,Nat.reduceAdd,Nat.reduceMul,Nat.reduceLeDiff,quietOp,blindOp,Int.reduceEq,Int.reduceLT,Int.reduceLE,Nat.reduceLT,tiA,tiXA, h9, h8, h0, h1, h2, h3, h00, decide_false, w64]
          exact ⟨m + 1 - (i + 1), by omega, i + 1, z, by omega, by omega, by omega, rfl, hp, I.exit0, hS, hd⟩
        · obtain ⟨A', zz, rfl⟩ := cons_end (show 0 < A.length by omega)
          have hl1 : (A' ++ [zz]).length = A'.length + 1 := by simp
          rw [hl1] at h9
          have k1 := I.at
          have k2 := I.at1
          rw [hl1] at k1
          have mx : x ∈ ps0 := hp.subset (List.mem_iff_getElem?.2 ⟨_, k1⟩)
          have mz : zz ∈ ps0 := hp.subset (List.mem_iff_getElem?.2 ⟨_, k2⟩)
          have k1' : (z.map Prod.fst)[A'.length + 1]? = some x.1 := by rw [List.getElem?_map, k1]; rfl
          have k2' : (z.map Prod.fst)[A'.length]? = some zz.1 := by rw [List.getElem?_map, k2]; rfl
          have pg : (0 : Int) < ((A'.length + 1 : Nat) : Int) := by omega
          have pm : ((A'.length + 1 : Nat) : Int) - 1 = (A'.length : Int) := by omega
          have hR := hst H3 hS
          have rx := hR x mx
          have rz := hR zz mz
          have o1 := fun r => ok_one (r := r) rx.rd.one
          have o2 := fun r => ok_one (r := r) rz.rd.one
          have q1 := rx.rd.one
          have q2 := rz.rd.one
          have hdne : hdL x.2 ≠ hdL zz.2 := by
            have hk2 := key hp
            rw [I.eq, List.append_assoc, List.pairwise_append] at hk2
            have h4 := hk2.2.1
            rw [List.singleton_append, List.pairwise_cons] at h4
            exact fun e => h4.1 x (by simp) e.symm
          try simp (disch := first | omega | (simp only [ints_length, List.length_replicate, List.length_set, List.length_map] <;> omega)) only [Sall,evalOp,init,binA_s,binE,binI,unE,convE,okNil,builtE,gv,TD.isAgg,resV,↓reduceIte,Nat.reduceEqDiff,reduceCtorEq,Nat.reduceAdd,Nat.reduceMul,Nat.reduceLeDiff,quietOp,blindOp,Int.reduceEq,Int.reduceLT,Int.reduceLE,Nat.reduceLT,tiA,tiXA, h9, h8, h0, h1, h2, h3, pg, pm, decide_true, hd, k1', k2', o1, o2, q1, q2, w64]
          refine ⟨⟨by omega, by omega⟩, ⟨by omega, by omega⟩, ?_⟩
          refine (cmpLL_c x.1 zz.1 x.2 zz.2 H3 rx.rd rz.rd (hne x mx) (hne zz mz) hdne).to ?_
          refine ⟨.inr (.inr (LE.refl _)), ?_⟩
          by_cases cmp : hdL x.2 < hdL zz.2
          · have e1 : (if hdL x.2 < hdL zz.2 then (-1 : Int) else 1) = -1 := if_pos cmp
            have e2 : decide ((-1 : Int) < 0) = true := rfl
            rw [e1]
            try simp (disch := first | omega | (simp only [ints_length, List.length_replicate, List.length_set, List.length_map] <;> omega)) only [Sall,evalOp,init,binA_s,binE,binI,unE,convE,okNil,builtE,gv,TD.isAgg,resV,↓reduceIte,Nat.reduceEqDiff,reduceCtorEq,Nat.reduceAdd,Nat.reduceMul,Nat.reduceLeDiff,quietOp,blindOp,Int.reduceEq,Int.reduceLT,Int.reduceLE,Nat.reduceLT,tiA,tiXA, h9, h8, h0, h1, h2, h3, pg, pm, e2, w64]
            refine draw_id (by kernel_rfl) (by kernel_rfl) ?_
            try simp (disch := first | omega | (simp only [ints_length, List.length_replicate, List.length_set, List.length_map] <;> omega)) only [Sall,evalOp,init,binA_s,binE,binI,unE,convE,okNil,builtE,gv,TD.isAgg,resV,↓reduceIte,Nat.reduceEqDiff,reduceCtorEq,Nat.reduceAdd,Nat.reduceMul,Nat.reduceLeDiff,quietOp,blindOp,Int.reduceEq,Int.reduceLT,Int.reduceLE,Nat.reduceLT,tiA,tiXA, h9, h8, h0, h1, h2, h3, pm, hd, k1', k2', o1, o2, q1, q2, w64]
            obtain ⟨I2, hp2⟩ := I.step (show hdL x.2 ≤ hdL zz.2 by omega)
            have es : ((z.map Prod.fst).set (A'.length + 1) zz.1).set A'.length x.1 = (A' ++ x :: (zz :: B ++ C)).map Prod.fst := by rw [← I.swap, List.map_set, List.map_set]
            rw [es]
            have hS2 : Srt ui H0 (((H3.setCells ui ((z.map Prod.fst).set (A'.length + 1) zz.1)).setCells ui ((A' ++ x :: (zz :: B ++ C)).map Prod.fst))) := ⟨hS.1, fun j hj hne => by rw [AH.setCells_row, if_neg hne, AH.setCells_row, if_neg hne, hS.2.1 j hj hne], (hS.2.2.set _ _).set _ _⟩
            refine ⟨⟨by omega, by omega⟩, ⟨by omega, by omega⟩, ⟨by omega, by omega⟩, by rw [List.length_map]; omega, .inr (.inl (by kernel_rfl)), ⟨by omega, by omega⟩, by rw [List.length_set, List.length_map]; omega, .inr (.inl (by kernel_rfl)), A'.length, by omega, A', x, zz :: B, C, _, rfl, by omega, rfl, hp2.trans hp, I2, hS2, rfl⟩
          · have e1 : (if hdL x.2 < hdL zz.2 then (-1 : Int) else 1) = 1 := if_neg cmp
            have e2 : decide ((1 : Int) < 0) = false := rfl
            rw [e1]
            try simp (disch := first | omega | (simp only [ints_length, List.length_replicate, List.length_set, List.length_map] <;> omega)) only [Sall,evalOp,init,binA_s,binE,binI,unE,convE,okNil,builtE,gv,TD.isAgg,resV,↓reduceIte,Nat.reduceEqDiff,reduceCtorEq,Nat.reduceAdd,Nat.reduceMul,Nat.reduceLeDiff,quietOp,blindOp,Int.reduceEq,Int.reduceLT,Int.reduceLE,Nat.reduceLT,tiA,tiXA, h9, h8, h0, h1, h2, h3, pg, pm, e2, decide_false, w64]
            exact ⟨m + 1 - (i + 1), by omega, i + 1, z, by omega, by omega, by omega, rfl, hp, I.exit1 (show hdL zz.2 ≤ hdL x.2 by omega), hS, hd⟩
    · have hall : z.take i = z := List.take_of_length_le (by omega)
      rw [hall] at hsr
      try simp (disch := first | omega | (simp only [ints_length, List.length_replicate, List.length_set, List.length_map] <;> omega)) only [Sall,evalOp,init,binA_s,binE,binI,unE,convE,okNil,builtE,gv,TD.isAgg,resV,↓reduceIte,Nat.reduceEqDiff,reduceCtorEq,Nat.reduceAdd,Nat.reduceMul,Nat.reduceLeDiff,quietOp,blindOp,Int.reduceEq,Int.reduceLT,Int.reduceLE,Nat.reduceLT,tiA,tiXA, true_and]
      exact ⟨z, hp, hsr, hS, hd⟩
def SortedBy (ui : Nat) (ps0 : List (Value × List Int)) (H0 H' : AH) : Prop := ∃ ps : List (Value × List Int), ps.Perm ps0 ∧ (ps.Pairwise fun p q => hdL p.2 ≤ hdL q.2) ∧ Srt ui H0 H' ∧ H'.row ui = some ⟨32, true, ps.map Prod.fst⟩
theorem pdqLL_c (m : Nat) (hm : m ≤ 12) (ps0 : List (Value × List Int)) (hl0 : ps0.length = m) (hk : ps0.Pairwise fun p q => hdL p.2 ≠ hdL q.2) (hne : ∀ p ∈ ps0, 0 < p.2.length) (ui uc : Nat) (k : Int) (H0 : AH) (hui : ui < H0.next) (hst : ∀ H1, Srt ui H0 H1 → RowsP ps0 H1) (hrow : H0.row ui = some ⟨32, true, ps0.map Prod.fst⟩) :
    ACalls Try.prog 45 [.slice (some ⟨ui, 0, some 1⟩) m uc, .int .i64 0, .int .i64 m, .int .i64 k, .func (.func 32) #[] #[]] H0 (fun _ H' => SortedBy ui ps0 H0 H') := by
  refine acalls_of_awp [] Try.func45 (by kernel_rfl) rfl rfl (Nat.le_of_ble_eq_true rfl) (by kernel_rfl) ?_
  have h12 : (m : Int) ≤ 12 := by omega
  try simp (disch := first | omega | (simp only [ints_length, List.length_replicate, List.length_set, List.length_map] <;> omega)) only [Sall,evalOp,init,binA_s,binE,binI,unE,convE,okNil,builtE,gv,TD.isAgg,resV,↓reduceIte,Nat.reduceEqDiff,reduceCtorEq,Nat.reduceAdd,Nat.reduceMul,Nat.reduceLeDiff,quietOp,blindOp,Int.reduceEq,Int.reduceLT,Int.reduceLE,Nat.reduceLT,tiA,tiXA, true_and]
  refine awp_loop (fun y t H' => t 0 = .slice (some ⟨ui, 0, some 1⟩) m uc ∧ t 1 = .int .i64 0 ∧ t 2 = .int .i64 m ∧ t 4 = .func (.func 32) #[] #[] ∧ H' = H0) 0 ?_ ?_
  · try simp (disch := first | omega | (simp only [ints_length, List.length_replicate, List.length_set, List.length_map] <;> omega)) only [Sall,evalOp,init,binA_s,binE,binI,unE,convE,okNil,builtE,gv,TD.isAgg,resV,↓reduceIte,Nat.reduceEqDiff,reduceCtorEq,Nat.reduceAdd,Nat.reduceMul,Nat.reduceLeDiff,quietOp,blindOp,Int.reduceEq,Int.reduceLT,Int.reduceLE,Nat.reduceLT,tiA,tiXA, true_and]
  · rintro y t H' ⟨h0, h1, h2, h4, rfl⟩
    try simp (disch := first | omega | (simp only [ints_length, List.length_replicate, List.length_set, List.length_map] <;> omega)) only [Sall,evalOp,init,binA_s,binE,binI,unE,convE,okNil,builtE,gv,TD.isAgg,resV,↓reduceIte,Nat.reduceEqDiff,reduceCtorEq,Nat.reduceAdd,Nat.reduceMul,Nat.reduceLeDiff,quietOp,blindOp,Int.reduceEq,Int.reduceLT,Int.reduceLE,Nat.reduceLT,tiA,tiXA, h0, h1, h2, h4, Int.sub_zero, h12, decide_true, w64]
    refine ACalls.mono (insLL_c m (by omega) ps0 hl0 hk hne ui uc H' hui hst hrow) ?_
    rintro v H2 hh
    refine Holds.mp ?_
    try simp (disch := first | omega | (simp only [ints_length, List.length_replicate, List.length_set, List.length_map] <;> omega)) only [Sall,evalOp,init,binA_s,binE,binI,unE,convE,okNil,builtE,gv,TD.isAgg,resV,↓reduceIte,Nat.reduceEqDiff,reduceCtorEq,Nat.reduceAdd,Nat.reduceMul,Nat.reduceLeDiff,quietOp,blindOp,Int.reduceEq,Int.reduceLT,Int.reduceLE,Nat.reduceLT,tiA,tiXA, true_and]
    exact hh
theorem sortLL_c (m : Nat) (hm : m ≤ 12) (ps0 : List (Value × List Int)) (hl0 : ps0.length = m) (hk : ps0.Pairwise fun p q => hdL p.2 ≠ hdL q.2) (hne : ∀ p ∈ ps0, 0 < p.2.length) (ui uc : Nat) (H0 : AH) (hui : ui < H0.next) (hst : ∀ H1, Srt ui H0 H1 → RowsP ps0 H1) (hrow : H0.row ui = some ⟨32, true, ps0.map Prod.fst⟩) :
    ACalls Try.prog 31 [.slice (some ⟨ui, 0, some 1⟩) m uc, .func (.func 32) #[] #[]] H0 (fun _ H' => SortedBy ui ps0 H0 H') := by
  refine acalls_of_awp [] Try.func31 (by kernel_rfl) rfl rfl (Nat.le_of_ble_eq_true rfl) (by kernel_rfl) ?_
  have hw : IntKind.u64.wrap (m : Int) = (m : Int) := by
    rw [show IntKind.u64.wrap (m : Int) = (m : Int) % 18446744073709551616 from rfl]
    omega
  try simp (disch := first | omega | (simp only [ints_length, List.length_replicate, List.length_set, List.length_map] <;> omega)) only [Sall,evalOp,init,binA_s,binE,binI,unE,convE,okNil,builtE,gv,TD.isAgg,resV,↓reduceIte,Nat.reduceEqDiff,reduceCtorEq,Nat.reduceAdd,Nat.reduceMul,Nat.reduceLeDiff,quietOp,blindOp,Int.reduceEq,Int.reduceLT,Int.reduceLE,Nat.reduceLT,tiA,tiXA, builtE, hw]
  refine ACalls.exH (g := fun k => .int .i64 k) (bitsLen_c m (by omega) H0) ?_
  intro k _
  refine Holds.mp ?_
  try simp (disch := first | omega | (simp only [ints_length, List.length_replicate, List.length_set, List.length_map] <;> omega)) only [Sall,evalOp,init,binA_s,binE,binI,unE,convE,okNil,builtE,gv,TD.isAgg,resV,↓reduceIte,Nat.reduceEqDiff,reduceCtorEq,Nat.reduceAdd,Nat.reduceMul,Nat.reduceLeDiff,quietOp,blindOp,Int.reduceEq,Int.reduceLT,Int.reduceLE,Nat.reduceLT,tiA,tiXA, true_and]
  refine ACalls.mono (pdqLL_c m hm ps0 hl0 hk hne ui uc k H0 hui hst hrow) ?_
  rintro v H2 hh
  refine Holds.mp ?_
  try simp (disch := first | omega | (simp only [ints_length, List.length_replicate, List.length_set, List.length_map] <;> omega)) only [Sall,evalOp,init,binA_s,binE,binI,unE,convE,okNil,builtE,gv,TD.isAgg,resV,↓reduceIte,Nat.reduceEqDiff,reduceCtorEq,Nat.reduceAdd,Nat.reduceMul,Nat.reduceLeDiff,quietOp,blindOp,Int.reduceEq,Int.reduceLT,Int.reduceLE,Nat.reduceLT,tiA,tiXA, true_and]
  exact hh
theorem growI_c (N : Nat) (hN : 0 < N ∧ N ≤ 1000) (H : AH) : ACalls Try.prog 33 [.slice none 0 0, .int .i64 N] H (fun w H' => ∃ i, w = .slice (some ⟨i, 0, some 1⟩) 0 0 ∧ Ow H H' [.sl 1 2 (.slice (some ⟨i, 0, some 1⟩) N N) N (ints (List.replicate N 0))]) := by
  refine ACalls.wf (by kernel_rfl) fun hs => acalls_of_awp [.tmp 4] Try.func33 (by kernel_rfl) rfl rfl (Nat.le_of_ble_eq_true rfl) (by kernel_rfl) ?_
  have h1 : ¬ (N : Int) < 0 := by omega
  have h2 : (0 : Int) < (N : Int) := by omega
  have zn : zeros N [.int .i64 0] = ints (List.replicate N 0) := by simp [zeros, ints]
  try simp (disch := first | omega | (simp only [ints_length, List.length_replicate, List.length_set, List.length_map] <;> omega)) only [Sall,evalOp,init,binA_s,binE,binI,unE,convE,okNil,builtE,gv,TD.isAgg,resV,↓reduceIte,Nat.reduceEqDiff,reduceCtorEq,Nat.reduceAdd,Nat.reduceMul,Nat.reduceLeDiff,quietOp,blindOp,Int.reduceEq,Int.reduceLT,Int.reduceLE,Nat.reduceLT,tiA,tiXA, builtE, h1, h2, decide_false, decide_true, Int.sub_zero, Int.sub_self, w64]
  have s0 : ∀ (E : TI) (H : AH), sliceE E (.slice none 0 0) none (some 0) none H = .need ((0 : Int) = 0 ∧ (0 : Int) = 0 ∧ (0 : Int) = 0) (.val (.slice none 0 0) H) := fun _ _ => rfl
  have s1 : ∀ (E : TI) (i N : Nat) (H : AH), sliceE E (.slice (some ⟨i, 0, some 1⟩) N N) none (some 0) none H = .need ((0 : Int) ≤ 0 ∧ (0 : Int) ≤ 0 ∧ (0 : Int) ≤ (N : Int) ∧ 1 = E.size) (.val (.slice (some ⟨i, 0 + (0 : Int).toNat * E.size, some 1⟩) ((0 : Int).toNat - (0 : Int).toNat) ((0 : Int).toNat - (0 : Int).toNat)) H) := fun _ _ _ _ => rfl
  try simp (disch := first | omega | (simp only [ints_length, List.length_replicate, List.length_set, List.length_map] <;> omega)) only [Sall,evalOp,init,binA_s,binE,binI,unE,convE,okNil,builtE,gv,TD.isAgg,resV,↓reduceIte,Nat.reduceEqDiff,reduceCtorEq,Nat.reduceAdd,Nat.reduceMul,Nat.reduceLeDiff,quietOp,blindOp,Int.reduceEq,Int.reduceLT,Int.reduceLE,Nat.reduceLT,tiA,tiXA, s0, s1, growE, zn, builtE, w64]
  refine ⟨⟨by omega, by omega⟩, by omega, ?_⟩
  exact ⟨H.next, rfl, (Ow.refl hs).pushSl (k := 1) (n := N) (ty := 2) (vs := ints (List.replicate N 0)) (by simp [ints])⟩
def sumL (ps : List (Value × List Int)) : Nat := (ps.map Prod.snd).flatten.length
theorem concatI_c (m uc ui : Nat) (ps : List (Value × List Int)) (hm : ps.length = m) (hm2 : m ≤ 1000) (hN : 0 < sumL ps ∧ sumL ps ≤ 1000) (hpos : ∀ p ∈ ps, 0 < p.2.length) (H : AH) (hrow : H.row ui = some ⟨32, true, ps.map Prod.fst⟩) (hR : RowsP ps H) :
    ACalls Try.prog 19 [.slice (some ⟨ui, 0, some 1⟩) m uc] H (fun w H' => Ow H H' [.sl 1 2 w (sumL ps) (ints (ps.map Prod.snd).flatten)]) := by
  refine ACalls.wf (by kernel_rfl) fun hs => acalls_of_awp [.tmp 2] Try.func19 (by kernel_rfl) rfl rfl (Nat.le_of_ble_eq_true rfl) (by kernel_rfl) ?_
  have hsnoc : ∀ j, (hj : j < ps.length) → ((ps.take (j + 1)).map Prod.snd).flatten = ((ps.take j).map Prod.snd).flatten ++ ps[j].2 := fun j hj => by
    rw [List.take_succ_eq_append_getElem hj, List.map_append, List.flatten_append]; simp
  have hle : ∀ j, j ≤ ps.length → ((ps.take j).map Prod.snd).flatten.length ≤ sumL ps := fun j hj => by
    unfold sumL
    conv => rhs; rw [← List.take_append_drop j ps]
    rw [List.map_append, List.flatten_append, List.length_append]
    omega
  try simp (disch := first | omega | (simp only [ints_length, List.length_replicate, List.length_set, List.length_map] <;> omega)) only [Sall,evalOp,init,binA_s,binE,binI,unE,convE,okNil,builtE,gv,TD.isAgg,resV,↓reduceIte,Nat.reduceEqDiff,reduceCtorEq,Nat.reduceAdd,Nat.reduceMul,Nat.reduceLeDiff,quietOp,blindOp,Int.reduceEq,Int.reduceLT,Int.reduceLE,Nat.reduceLT,tiA,tiXA, builtE]
  refine awp_loop (fun y t H' => ∃ j : Nat, y = m - j ∧ j ≤ m ∧ t 11 = .int .i64 j ∧ t 10 = .int .i64 m ∧ t 9 = .slice (some ⟨ui, 0, some 1⟩) m uc ∧ t 3 = .int .i64 ((ps.take j).map Prod.snd).flatten.length ∧ t 0 = .slice (some ⟨ui, 0, some 1⟩) m uc ∧ H' = H) m ?_ ?_
  · refine ⟨0, by omega, by omega, ?_⟩
    try simp (disch := first | omega | (simp only [ints_length, List.length_replicate, List.length_set, List.length_map] <;> omega)) only [Sall,evalOp,init,binA_s,binE,binI,unE,convE,okNil,builtE,gv,TD.isAgg,resV,↓reduceIte,Nat.reduceEqDiff,reduceCtorEq,Nat.reduceAdd,Nat.reduceMul,Nat.reduceLeDiff,quietOp,blindOp,Int.reduceEq,Int.reduceLT,Int.reduceLE,Nat.reduceLT,tiA,tiXA, Int.natCast_zero, List.take_zero, List.map_nil, List.flatten_nil, List.length_nil]
  · rintro y t H1 ⟨j, hy, hj, h11, h10, h9, h3, h0, rfl⟩
    try simp (disch := first | omega | (simp only [ints_length, List.length_replicate, List.length_set, List.length_map] <;> omega)) only [Sall,evalOp,init,binA_s,binE,binI,unE,convE,okNil,builtE,gv,TD.isAgg,resV,↓reduceIte,Nat.reduceEqDiff,reduceCtorEq,Nat.reduceAdd,Nat.reduceMul,Nat.reduceLeDiff,quietOp,blindOp,Int.reduceEq,Int.reduceLT,Int.reduceLE,Nat.reduceLT,tiA,tiXA, h11, h10]
    refine condC_dec (fun hh => ?_) (fun hh => ?_)
    · have hjm : j < ps.length := by omega
      have k1 : (ps.map Prod.fst)[j]? = some ps[j].1 := by rw [List.getElem?_map, List.getElem?_eq_getElem hjm]; rfl
      have hrj := hR ps[j] (List.getElem_mem hjm)
      have hrl := hrj.rd.len
      have ho := fun r => ok_one (r := r) hrj.rd.one
      have ho1 := hrj.rd.one
      have hsn := hsnoc j hjm
      have hl1 := hle (j + 1) (by omega)
      rw [hsn, List.length_append] at hl1
      have ng : ¬ (((((ps.take j).map Prod.snd).flatten.length : Nat) : Int) + ((ps[j].2.length : Nat) : Int) < 0) := by omega
      try simp (disch := first | omega | (simp only [ints_length, List.length_replicate, List.length_set, List.length_map] <;> omega)) only [Sall,evalOp,init,binA_s,binE,binI,unE,convE,okNil,builtE,gv,TD.isAgg,resV,↓reduceIte,Nat.reduceEqDiff,reduceCtorEq,Nat.reduceAdd,Nat.reduceMul,Nat.reduceLeDiff,quietOp,blindOp,Int.reduceEq,Int.reduceLT,Int.reduceLE,Nat.reduceLT,tiA,tiXA, h11, h10, h9, h3, h0, hrow, k1, ho, ho1, builtE, hrl, ng, decide_false, w64]
      refine ⟨⟨by omega, by omega⟩, m - (j + 1), by omega, j + 1, by omega, by omega, by omega, ?_⟩
      rw [hsn, List.length_append]
      omega
    · have hjm : j = m := by omega
      have htk : ps.take j = ps := List.take_of_length_le (by omega)
      rw [htk] at h3
      have h3 : t 3 = .int .i64 (sumL ps) := h3
      try simp (disch := first | omega | (simp only [ints_length, List.length_replicate, List.length_set, List.length_map] <;> omega)) only [Sall,evalOp,init,binA_s,binE,binI,unE,convE,okNil,builtE,gv,TD.isAgg,resV,↓reduceIte,Nat.reduceEqDiff,reduceCtorEq,Nat.reduceAdd,Nat.reduceMul,Nat.reduceLeDiff,quietOp,blindOp,Int.reduceEq,Int.reduceLT,Int.reduceLE,Nat.reduceLT,tiA,tiXA, h3, h0]
      refine ACalls.ex (g := fun i : Nat => .slice (some ⟨i, 0, some 1⟩) 0 0) (growI_c (sumL ps) hN H1) ?_
      intro wi H2 o1
      refine Holds.mp ?_
      try simp (disch := first | omega | (simp only [ints_length, List.length_replicate, List.length_set, List.length_map] <;> omega)) only [Sall,evalOp,init,binA_s,binE,binI,unE,convE,okNil,builtE,gv,TD.isAgg,resV,↓reduceIte,Nat.reduceEqDiff,reduceCtorEq,Nat.reduceAdd,Nat.reduceMul,Nat.reduceLeDiff,quietOp,blindOp,Int.reduceEq,Int.reduceLT,Int.reduceLE,Nat.reduceLT,tiA,tiXA, h0, builtE]
      obtain ⟨N, eN⟩ : ∃ N, N = sumL ps := ⟨_, rfl⟩
      rw [← eN] at o1 hle ⊢
      refine awp_loop (fun y t H' => ∃ (j : Nat) (F : List Int), y = m - j ∧ j ≤ m ∧ F = ((ps.take j).map Prod.snd).flatten ∧ t 27 = .int .i64 j ∧ t 26 = .int .i64 m ∧ t 25 = .slice (some ⟨ui, 0, some 1⟩) m uc ∧ t 6 = .slice (some ⟨wi, 0, some 1⟩) F.length F.length ∧ Ow H1 H' [.sl 1 2 (.slice (some ⟨wi, 0, some 1⟩) N N) N (ints (F ++ List.replicate (N - F.length) 0))]) m ?_ ?_
      · refine ⟨0, [], by omega, by omega, rfl, ?_⟩
        try simp (disch := first | omega | (simp only [ints_length, List.length_replicate, List.length_set, List.length_map] <;> omega)) only [Sall,evalOp,init,binA_s,binE,binI,unE,convE,okNil,builtE,gv,TD.isAgg,resV,↓reduceIte,Nat.reduceEqDiff,reduceCtorEq,Nat.reduceAdd,Nat.reduceMul,Nat.reduceLeDiff,quietOp,blindOp,Int.reduceEq,Int.reduceLT,Int.reduceLE,Nat.reduceLT,tiA,tiXA, Int.natCast_zero]
        exact o1
      · rintro y t H3 ⟨j, F, hy, hj, hF, h27, h26, h25, h6, o2⟩
        try simp (disch := first | omega | (simp only [ints_length, List.length_replicate, List.length_set, List.length_map] <;> omega)) only [Sall,evalOp,init,binA_s,binE,binI,unE,convE,okNil,builtE,gv,TD.isAgg,resV,↓reduceIte,Nat.reduceEqDiff,reduceCtorEq,Nat.reduceAdd,Nat.reduceMul,Nat.reduceLeDiff,quietOp,blindOp,Int.reduceEq,Int.reduceLT,Int.reduceLE,Nat.reduceLT,tiA,tiXA, h27, h26]
        refine condC_dec (fun hh2 => ?_) (fun hh2 => ?_)
        · have hjm : j < ps.length := by omega
          have k1 : (ps.map Prod.fst)[j]? = some ps[j].1 := by rw [List.getElem?_map, List.getElem?_eq_getElem hjm]; rfl
          have hrj := (hR ps[j] (List.getElem_mem hjm)).same (o2.old hs)
          have ho := fun r => ok_one (r := r) hrj.rd.one
          have ho1 := hrj.rd.one
          have hsn := hsnoc j hjm
          have hl1 := hle (j + 1) (by omega)
          rw [hsn, ← hF, List.length_append] at hl1
          have hrow' := o2.old hs _ _ hrow
          have hpj := hpos ps[j] (List.getElem_mem hjm)
          have hwr := (o2.getV 0 rfl).2.2
          generalize ps[j].2 = x at *
          generalize ps[j].1 = xv at *
          try simp (disch := first | omega | (simp only [ints_length, List.length_replicate, List.length_set, List.length_map] <;> omega)) only [Sall,evalOp,init,binA_s,binE,binI,unE,convE,okNil,builtE,gv,TD.isAgg,resV,↓reduceIte,Nat.reduceEqDiff,reduceCtorEq,Nat.reduceAdd,Nat.reduceMul,Nat.reduceLeDiff,quietOp,blindOp,Int.reduceEq,Int.reduceLT,Int.reduceLE,Nat.reduceLT,tiA,tiXA, h27, h26, h25, h6, hrow', k1, ho, ho1]
          (repeat refine And.intro (by omega) ?_)
          try simp (disch := first | omega | (simp only [ints_length, List.length_replicate, List.length_set, List.length_map] <;> omega)) only [Sall,evalOp,init,binA_s,binE,binI,unE,convE,okNil,builtE,gv,TD.isAgg,resV,↓reduceIte,Nat.reduceEqDiff,reduceCtorEq,Nat.reduceAdd,Nat.reduceMul,Nat.reduceLeDiff,quietOp,blindOp,Int.reduceEq,Int.reduceLT,Int.reduceLE,Nat.reduceLT,tiA,tiXA, h27, h26, h25, h6, hrow', k1, ho, ho1]
          refine hrj.rd.slC hpj ?_
          have hfl : F.length + x.length ≤ N := hl1
          have hx0 : ¬ x.length = 0 := by omega
          have esp : splice (ints (F ++ List.replicate (N - F.length) 0)) F.length (ints x) = ints (F ++ x ++ List.replicate (N - (F ++ x).length) 0) := by
            unfold splice
            rw [← ints_append F, List.take_left' (ints_length F), ints_length, ← List.drop_drop, List.drop_left' (ints_length F)]
            have e2 : (ints (List.replicate (N - F.length) 0)).drop x.length = ints (List.replicate (N - (F ++ x).length) 0) := by
              unfold ints
              rw [← List.map_drop, List.drop_replicate, List.length_append]
              congr 2
              omega
            rw [e2, ints_append, ints_append]
          unfold appE
          rw [if_neg hx0]
          have hlN : (ints (F ++ List.replicate (N - F.length) 0)).length = N := by rw [ints_length, List.length_append, List.length_replicate]; omega
          try simp (disch := first | omega | (simp only [ints_length, List.length_replicate, List.length_set, List.length_map] <;> omega)) only [Sall,evalOp,init,binA_s,binE,binI,unE,convE,okNil,builtE,gv,TD.isAgg,resV,↓reduceIte,Nat.reduceEqDiff,reduceCtorEq,Nat.reduceAdd,Nat.reduceMul,Nat.reduceLeDiff,quietOp,blindOp,Int.reduceEq,Int.reduceLT,Int.reduceLE,Nat.reduceLT,tiA,tiXA, hwr, hlN, hfl, esp]
          have hput := o2.put 0 rfl (vs' := ints (F ++ x ++ List.replicate (N - (F ++ x).length) 0)) (by rw [ints_length, hlN, List.length_append, List.length_append, List.length_replicate]; omega)
          refine ⟨⟨by omega, by omega⟩, .inr trivial, ?_⟩
          try simp (disch := first | omega | (simp only [ints_length, List.length_replicate, List.length_set, List.length_map] <;> omega)) only [Sall,evalOp,init,binA_s,binE,binI,unE,convE,okNil,builtE,gv,TD.isAgg,resV,↓reduceIte,Nat.reduceEqDiff,reduceCtorEq,Nat.reduceAdd,Nat.reduceMul,Nat.reduceLeDiff,quietOp,blindOp,Int.reduceEq,Int.reduceLT,Int.reduceLE,Nat.reduceLT,tiA,tiXA, h27, h26, h25, w64]
          refine ⟨m - (j + 1), by omega, j + 1, F ++ x, by omega, by omega, by rw [hF, hsn], rfl, ?_, ?_⟩
          · rw [List.length_append]
          · exact hput
        · have hjm : j = m := by omega
          have htk : ps.take j = ps := List.take_of_length_le (by omega)
          rw [htk] at hF
          have hFN : F.length = N := by rw [hF, eN]; rfl
          rw [hFN, Nat.sub_self, List.replicate_zero, List.append_nil] at o2
          rw [hFN] at h6
          try simp (disch := first | omega | (simp only [ints_length, List.length_replicate, List.length_set, List.length_map] <;> omega)) only [Sall,evalOp,init,binA_s,binE,binI,unE,convE,okNil,builtE,gv,TD.isAgg,resV,↓reduceIte,Nat.reduceEqDiff,reduceCtorEq,Nat.reduceAdd,Nat.reduceMul,Nat.reduceLeDiff,quietOp,blindOp,Int.reduceEq,Int.reduceLT,Int.reduceLE,Nat.reduceLT,tiA,tiXA, h6]
          rw [← hF]
          exact o2
end Go.Proofs.Ytollphjompimjaa.A
end

section
set_option maxRecDepth 100000
set_option maxHeartbeats 2000000
namespace Go.Proofs.Ytollphjompimjaa.A
open Go Go.Abs Go.RowKit
theorem tidy_c (n g c : Nat) (hg : 2 ≤ g) (hn : n = g * c) (hc : 1 ≤ c) (hn25 : n ≤ 25) (hgn : g ≤ n) (v y : Value) (l : List Int) (H : AH) (hone : v.oneCell' = true) (hy : Rs 1 H y n l) (ho : ordB n l = true) :
    ACalls Try.prog 18 [.agg #[.int .i64 n, .int .i64 g, v], y] H (fun w H' => Ow H H' [.sl 1 2 w n (ints (tidF g l n))]) := by
  refine ACalls.wf (by kernel_rfl) fun hs => acalls_of_awp [.tmp 4] Try.func18 (by kernel_rfl) rfl rfl (Nat.le_of_ble_eq_true rfl) (by kernel_rfl) ?_
  have hyo := hy.rd.one
  have o1 := ((golf_push hs n g v).pushSl (k := 1) (n := 0) (ty := 32) (vs := []) rfl).addSee (Q := RowsP []) (fun _ p hp => by simp at hp)
  have hc12 : c ≤ 12 := by
    have h1 : 2 * c ≤ g * c := Nat.mul_le_mul_right c hg
    omega
  have hlk : l.length = n := ((ordB_iff n l).1 ho).1
  try simp (disch := first | omega | (simp only [ints_length, List.length_replicate, List.length_set, List.length_map] <;> omega)) only [Sall,evalOp,init,binA_s,binE,binI,unE,convE,okNil,builtE,gv,TD.isAgg,resV,↓reduceIte,Nat.reduceEqDiff,reduceCtorEq,Nat.reduceAdd,Nat.reduceMul,Nat.reduceLeDiff,quietOp,blindOp,Int.reduceEq,Int.reduceLT,Int.reduceLE,Nat.reduceLT,tiA,tiXA, hone, hyo]
  (repeat refine And.intro (by omega) ?_)
  try simp (disch := first | omega | (simp only [ints_length, List.length_replicate, List.length_set, List.length_map] <;> omega)) only [Sall,evalOp,init,binA_s,binE,binI,unE,convE,okNil,builtE,gv,TD.isAgg,resV,↓reduceIte,Nat.reduceEqDiff,reduceCtorEq,Nat.reduceAdd,Nat.reduceMul,Nat.reduceLeDiff,quietOp,blindOp,Int.reduceEq,Int.reduceLT,Int.reduceLE,Nat.reduceLT,tiA,tiXA, hone, hyo]
  have o1 : Ow H ((H.push ⟨24, true, [.int .i64 n, .int .i64 g, v]⟩).push ⟨32, true, []⟩) [.row H.next ⟨24, true, [.int .i64 n, .int .i64 g, v]⟩, .sl 1 32 (.slice (some ⟨H.next + 1, 0, some 1⟩) 0 0) 0 [], .see (RowsP [])] := o1
  obtain ⟨pi, epi⟩ : ∃ pi, pi = H.next := ⟨_, rfl⟩
  rw [← epi] at o1 ⊢
  refine awp_loop (fun m t H' => ∃ (a : Nat) (u : Value) (ps : List (Value × List Int)), m = c - a ∧ a ≤ c ∧ ps.map Prod.snd = (List.range a).map (blkL g l) ∧ t 6 = .int .i64 ((a * g : Nat) : Int) ∧ t 5 = u ∧ t 1 = y ∧ t 2 = .pointer (some ⟨pi, 0, none⟩) ∧ Ow H H' [.row pi ⟨24, true, [.int .i64 n, .int .i64 g, v]⟩, .sl 1 32 u a (ps.map Prod.fst), .see (RowsP ps)]) c ?_ ?_
  · refine ⟨0, .slice (some ⟨pi + 1, 0, some 1⟩) 0 0, [], by omega, by omega, rfl, ?_⟩
    try simp (disch := first | omega | (simp only [ints_length, List.length_replicate, List.length_set, List.length_map] <;> omega)) only [Sall,evalOp,init,binA_s,binE,binI,unE,convE,okNil,builtE,gv,TD.isAgg,resV,↓reduceIte,Nat.reduceEqDiff,reduceCtorEq,Nat.reduceAdd,Nat.reduceMul,Nat.reduceLeDiff,quietOp,blindOp,Int.reduceEq,Int.reduceLT,Int.reduceLE,Nat.reduceLT,tiA,tiXA, Nat.zero_mul, Int.natCast_zero]
    exact o1
  · rintro m t H1 ⟨a, u, ps, hm, ha, hps, h6, h5, h1, h2, o2⟩
    have e1 := (o2.rowAt 0 rfl).1
    have hu := o2.one 1 rfl
    try simp (disch := first | omega | (simp only [ints_length, List.length_replicate, List.length_set, List.length_map] <;> omega)) only [Sall,evalOp,init,binA_s,binE,binI,unE,convE,okNil,builtE,gv,TD.isAgg,resV,↓reduceIte,Nat.reduceEqDiff,reduceCtorEq,Nat.reduceAdd,Nat.reduceMul,Nat.reduceLeDiff,quietOp,blindOp,Int.reduceEq,Int.reduceLT,Int.reduceLE,Nat.reduceLT,tiA,tiXA, h6, h2, e1]
    have hcn : (((a * g : Nat) : Int) < (n : Int)) ↔ a < c := by
      rw [hn, Nat.mul_comm g c]
      constructor
      · intro h
        have h : a * g < c * g := by omega
        exact Nat.lt_of_mul_lt_mul_right h
      · intro h
        have : a * g < c * g := Nat.mul_lt_mul_of_pos_right h (by omega)
        omega
    refine condC_dec (fun hh => ?_) (fun hh => ?_)
    · have hac : a < c := hcn.1 hh
      have hA : a * g + g ≤ n := by
        have h2 : (a + 1) * g ≤ c * g := Nat.mul_le_mul_right g hac
        rw [Nat.succ_mul, Nat.mul_comm c g, ← hn] at h2
        exact h2
      have wd : ∀ A : Nat, A ≤ 100 → IntKind.i64.wrap (A : Int) = A := fun A hA => w64 ⟨by omega, by omega⟩
      have wd3 := wd (a * g + g) (by omega)
      have ea : ((a * g : Nat) : Int) + (g : Int) = ((a * g + g : Nat) : Int) := by omega
      have hy1 := hy.same (o2.old hs)
      obtain ⟨ys, hcut, rys⟩ := hy1.cut (lo := some ((a * g : Nat) : Int)) (hi := some ((a * g + g : Nat) : Int)) (a := a * g) (b := a * g + g) rfl rfl (by omega) hA
      rw [Nat.mul_one, Nat.mul_one, Nat.add_sub_cancel_left] at rys
      have hyso := rys.rd.one
      have hkl : ((l.drop (a * g)).take g).length = g := by have := rys.rd.1; omega
      try simp (disch := first | omega | (simp only [ints_length, List.length_replicate, List.length_set, List.length_map] <;> omega)) only [Sall,evalOp,init,binA_s,binE,binI,unE,convE,okNil,builtE,gv,TD.isAgg,resV,↓reduceIte,Nat.reduceEqDiff,reduceCtorEq,Nat.reduceAdd,Nat.reduceMul,Nat.reduceLeDiff,quietOp,blindOp,Int.reduceEq,Int.reduceLT,Int.reduceLE,Nat.reduceLT,tiA,tiXA, h6, h5, h1, h2, e1, ea, wd3]
      refine hcut _ _ _ _ rfl ?_
      try simp (disch := first | omega | (simp only [ints_length, List.length_replicate, List.length_set, List.length_map] <;> omega)) only [Sall,evalOp,init,binA_s,binE,binI,unE,convE,okNil,builtE,gv,TD.isAgg,resV,↓reduceIte,Nat.reduceEqDiff,reduceCtorEq,Nat.reduceAdd,Nat.reduceMul,Nat.reduceLeDiff,quietOp,blindOp,Int.reduceEq,Int.reduceLT,Int.reduceLE,Nat.reduceLT,tiA,tiXA, hyso]
      refine (values_c ys H1 hyso).to ?_
      have o3 := o2.tmp ⟨32, true, [ys]⟩
      have e5 : (H1.push ⟨32, true, [ys]⟩).row H1.next = some ⟨32, true, [ys]⟩ := by rw [AH.push_row, if_pos rfl]
      have ry2 : Rd 1 (H1.push ⟨32, true, [ys]⟩) ys ((l.drop (a * g)).take g).length ((l.drop (a * g)).take g) := by
        rw [hkl]
        exact rys.rd.same fun i r hr => by have := o2.sc _ _ hr; rw [AH.push_row, if_neg (by omega)]; exact hr
      refine Holds.mp ?_
      try simp (disch := first | omega | (simp only [ints_length, List.length_replicate, List.length_set, List.length_map] <;> omega)) only [Sall,evalOp,init,binA_s,binE,binI,unE,convE,okNil,builtE,gv,TD.isAgg,resV,↓reduceIte,Nat.reduceEqDiff,reduceCtorEq,Nat.reduceAdd,Nat.reduceMul,Nat.reduceLeDiff,quietOp,blindOp,Int.reduceEq,Int.reduceLT,Int.reduceLE,Nat.reduceLT,tiA,tiXA, true_and]
      obtain ⟨b, eb⟩ : ∃ b, b = H1.next := ⟨_, rfl⟩
      rw [← eb] at e5 ⊢
      generalize H1.push ⟨32, true, [ys]⟩ = H2 at o3 ry2 e5 ⊢
      refine ACalls.mono (sorted_c b ys _ H2 e5 ry2 (by omega)).sc ?_
      rintro x H3 ⟨⟨up3, f3⟩, sc3⟩
      have o4 := o3.call (Ow.of_fr up3 sc3 f3)
      have hx := o4.one 3 rfl
      have zz : zeros 1 [.slice none 0 0] = [.slice none 0 0] := rfl
      have hq1 := cells_of_one hx
      have hq2 := noTuple_of_one hx
      have hq3 := fun r => ok_one (r := r) hx
      refine Holds.mp ?_
      try simp (disch := first | omega | (simp only [ints_length, List.length_replicate, List.length_set, List.length_map] <;> omega)) only [Sall,evalOp,init,binA_s,binE,binI,unE,convE,okNil,builtE,gv,TD.isAgg,resV,↓reduceIte,Nat.reduceEqDiff,reduceCtorEq,Nat.reduceAdd,Nat.reduceMul,Nat.reduceLeDiff,quietOp,blindOp,Int.reduceEq,Int.reduceLT,Int.reduceLE,Nat.reduceLT,tiA,tiXA, hx, h5, hu, zz, hq1, hq2, hq3, slCells]
      (repeat refine And.intro (by omega) ?_)
      try simp (disch := first | omega | (simp only [ints_length, List.length_replicate, List.length_set, List.length_map] <;> omega)) only [Sall,evalOp,init,binA_s,binE,binI,unE,convE,okNil,builtE,gv,TD.isAgg,resV,↓reduceIte,Nat.reduceEqDiff,reduceCtorEq,Nat.reduceAdd,Nat.reduceMul,Nat.reduceLeDiff,quietOp,blindOp,Int.reduceEq,Int.reduceLT,Int.reduceLE,Nat.reduceLT,tiA,tiXA, hx, h5, hu, zz, hq1, hq2, hq3, slCells]
      refine (o4.tmp ⟨32, true, [x]⟩).app 1 (c := 1) (ms := [x]) rfl rfl (by omega) rfl (by omega) (by decide) (by omega) ?_
      intro u' H4 n4 o5
      have o5 : Ow H H4 [.row pi ⟨24, true, [.int .i64 n, .int .i64 g, v]⟩, .sl 1 32 u' (a + 1) (ps.map Prod.fst ++ [x]), .see (RowsP ps), .sl 1 2 x ((l.drop (a * g)).take g).length (ints (sortedL ((l.drop (a * g)).take g)))] := o5
      have o6 := o5.addP 2 3 (x := x) (l := blkL g l a) rfl rfl (by omega) (fun H S hp => by
        have hq := sl_rs hp
        have e : (blkL g l a).length = ((l.drop (a * g)).take g).length := by unfold blkL; exact sortedL_length _
        rw [e]; exact hq)
      have o6 : Ow H H4 ([.row pi ⟨24, true, [.int .i64 n, .int .i64 g, v]⟩, .sl 1 32 u' (a + 1) (ps.map Prod.fst ++ [x]), .see (RowsP (ps ++ [(x, blkL g l a)]))] ++ [.no]) := o6
      have e1' := (o6.rowAt 0 rfl).1
      try simp (disch := first | omega | (simp only [ints_length, List.length_replicate, List.length_set, List.length_map] <;> omega)) only [Sall,evalOp,init,binA_s,binE,binI,unE,convE,okNil,builtE,gv,TD.isAgg,resV,↓reduceIte,Nat.reduceEqDiff,reduceCtorEq,Nat.reduceAdd,Nat.reduceMul,Nat.reduceLeDiff,quietOp,blindOp,Int.reduceEq,Int.reduceLT,Int.reduceLE,Nat.reduceLT,tiA,tiXA, h6, h1, h2, e1', ea, wd3]
      refine ⟨c - (a + 1), by omega, a + 1, u', ps ++ [(x, blkL g l a)], by omega, by omega, ?_, by rw [Nat.succ_mul], rfl, ?_⟩
      · rw [List.map_append, hps, List.range_succ, List.map_append]; rfl
      · rw [List.map_append]
        exact o6.left
    · have hac : a = c := by
        by_cases h : a < c
        · exact absurd (hcn.2 h) hh
        · omega
      rw [hac] at o2 hps
      try simp (disch := first | omega | (simp only [ints_length, List.length_replicate, List.length_set, List.length_map] <;> omega)) only [Sall,evalOp,init,binA_s,binE,binI,unE,convE,okNil,builtE,gv,TD.isAgg,resV,↓reduceIte,Nat.reduceEqDiff,reduceCtorEq,Nat.reduceAdd,Nat.reduceMul,Nat.reduceLeDiff,quietOp,blindOp,Int.reduceEq,Int.reduceLT,Int.reduceLE,Nat.reduceLT,tiA,tiXA, h5]
      have hpl : ps.length = c := by have := congrArg List.length hps; simpa using this
      have hpb : ps.map Prod.snd = blksL g c l := hps
      have hkd : ps.Pairwise fun p q => hdL p.2 ≠ hdL q.2 := by
        have h := blks_nodup (by omega) hn ho
        rw [← hpb, List.pairwise_map] at h
        exact h
      have hbl : ∀ p ∈ ps, p.2.length = g := fun p hp => by
        have h : p.2 ∈ blksL g c l := by rw [← hpb]; exact List.mem_map.2 ⟨p, hp, rfl⟩
        unfold blksL at h
        obtain ⟨t, ht, e⟩ := List.mem_map.1 h
        rw [← e]
        exact blk_len hn ho (List.mem_range.1 ht)
      have hne : ∀ p ∈ ps, 0 < p.2.length := fun p hp => by rw [hbl p hp]; omega
      obtain ⟨ui, _, hui, eu, hrow⟩ := o2.get 1 rfl (by omega)
      subst eu
      refine ACalls.mono (sortLL_c c hc12 ps hpl hkd hne ui c H1 hui (fun Hx hx => o2.seeStab 2 1 rfl rfl (by omega) hx.2.1) hrow) ?_
      rintro r H2 ⟨ps', hp', hst', hS, hrow'⟩
      have o3 := o2.rowNew 1 rfl (vs' := ps'.map Prod.fst) (by rw [List.length_map, List.length_map, hp'.length_eq]) hS.1 hS.2.2 hS.2.1 hrow'
      have hR0 : RowsP ps H2 := o3.sees 2 rfl
      have hR' : RowsP ps' H2 := fun p hp => hR0 p (hp'.subset hp)
      have hG := tid_sorted (by omega) hn ho (G := ps'.map Prod.snd) (by rw [← hpb]; exact hp'.map _) (by rw [List.pairwise_map]; exact hst')
      have hsum : sumL ps' = n := by
        unfold sumL
        rw [hG, tid_len (by omega) hn ho]
      refine Holds.mp ?_
      try simp (disch := first | omega | (simp only [ints_length, List.length_replicate, List.length_set, List.length_map] <;> omega)) only [Sall,evalOp,init,binA_s,binE,binI,unE,convE,okNil,builtE,gv,TD.isAgg,resV,↓reduceIte,Nat.reduceEqDiff,reduceCtorEq,Nat.reduceAdd,Nat.reduceMul,Nat.reduceLeDiff,quietOp,blindOp,Int.reduceEq,Int.reduceLT,Int.reduceLE,Nat.reduceLT,tiA,tiXA, h5]
      refine ACalls.mono (concatI_c c c ui ps' (by rw [hp'.length_eq, hpl]) (by omega) (by rw [hsum]; omega) (fun p hp => hne p (hp'.subset hp)) H2 hrow' hR') ?_
      intro w H3 o4
      have hw := o4.one 0 rfl
      refine Holds.mp ?_
      try simp (disch := first | omega | (simp only [ints_length, List.length_replicate, List.length_set, List.length_map] <;> omega)) only [Sall,evalOp,init,binA_s,binE,binI,unE,convE,okNil,builtE,gv,TD.isAgg,resV,↓reduceIte,Nat.reduceEqDiff,reduceCtorEq,Nat.reduceAdd,Nat.reduceMul,Nat.reduceLeDiff,quietOp,blindOp,Int.reduceEq,Int.reduceLT,Int.reduceLE,Nat.reduceLT,tiA,tiXA, hw]
      rw [hsum, hG] at o4
      exact (o3.call o4).only 3 rfl
end Go.Proofs.Ytollphjompimjaa.A
end

section
set_option maxRecDepth 100000
namespace Go.Abs
def lnF (k i a : Nat) : Nat := if i = k then a / k else (a % k + (k - 1) * i * (a / k)) % k
def grG (k i j : Nat) : Nat → List Int
  | 0 => []
  | a + 1 => grG k i j a ++ if lnF k i a = j then [(a : Int)] else []
theorem grG_succ (k i j a : Nat) : grG k i j (a + 1) = grG k i j a ++ if lnF k i a = j then [(a : Int)] else [] := rfl
theorem grG_len (k i j : Nat) : ∀ a, (grG k i j a).length ≤ a
  | 0 => by simp [grG]
  | a + 1 => by
    rw [grG_succ, List.length_append]
    have := grG_len k i j a
    split
    · simp; omega
    · simp; omega
theorem lnF_lt {k i a : Nat} (hk : 0 < k) (ha : a < k * k) : lnF k i a < k := by
  unfold lnF
  split
  · rw [Nat.div_lt_iff_lt_mul hk]; exact ha
  · exact Nat.mod_lt _ hk
def grO (k i : Nat) : List Int := ((List.range k).map fun j => grG k i j (k * k)).flatten
def rawB (g : Nat) (l : List Int) (t : Nat) : List Int := (l.drop (t * g)).take g
def tidR (g : Nat) (l : List Int) : Nat → List Int
  | 0 => []
  | a + 1 => if (tidR g l a).contains (a : Int) = true then tidR g l a else tidR g l a ++ rawB g l (ixOf l (a : Int) / g)
theorem tidR_succ (g : Nat) (l : List Int) (a : Nat) : tidR g l (a + 1) = if (tidR g l a).contains (a : Int) = true then tidR g l a else tidR g l a ++ rawB g l (ixOf l (a : Int) / g) := rfl
theorem tid_raw {g c : Nat} {l : List Int} (hl : l.length = g * c) (h : ∀ t, t < c → (rawB g l t).Pairwise fun x y => x ≤ y) : ∀ a, tidF g l a = tidR g l a
  | 0 => rfl
  | a + 1 => by
    have hb : ∀ t, blkL g l t = rawB g l t := fun t => by
      by_cases ht : t < c
      · exact sortedL_eq (List.Perm.refl _) (h t ht)
      · have e : rawB g l t = [] := by
          unfold rawB
          have h2 : c * g ≤ t * g := Nat.mul_le_mul_right g (by omega)
          rw [Nat.mul_comm c g, ← hl] at h2
          rw [List.drop_eq_nil_of_le h2, List.take_nil]
        unfold blkL
        have e2 : (l.drop (t * g)).take g = [] := e
        rw [e, e2]; simp [sortedL]
    rw [tidF_succ, tidR_succ, tid_raw hl h a]
    unfold grpL
    rw [hb]
def grOk (k i : Nat) : Bool := decide ((grO k i).length = k * k) && ((grO k i).all fun x => decide (0 ≤ x ∧ x < ((k * k : Nat) : Int))) && decide (grO k i).Nodup && ((List.range k).all fun t => decide ((rawB k (grO k i) t).Pairwise fun x y => x ≤ y)) && (tidR k (grO k i) (k * k) == grA k i (k * k)) && ((List.range k).all fun j => decide (0 < (grG k i j (k * k)).length))
theorem gr_all : (((List.range 3).all (grOk 2)) && ((List.range 4).all (grOk 3)) && ((List.range 6).all (grOk 5))) = true := by decide +kernel
theorem gr_facts {k i : Nat} (hk : k = 2 ∨ k = 3 ∨ k = 5) (hi : i < k + 1) : ordB (k * k) (grO k i) = true ∧ tidF k (grO k i) (k * k) = grA k i (k * k) ∧ ∀ j, j < k → 0 < (grG k i j (k * k)).length := by
  have h := gr_all
  rw [Bool.and_eq_true, Bool.and_eq_true, List.all_eq_true, List.all_eq_true, List.all_eq_true] at h
  have hok : grOk k i = true := by
    rcases hk with rfl | rfl | rfl
    · exact h.1.1 i (by simpa using hi)
    · exact h.1.2 i (by simpa using hi)
    · exact h.2 i (by simpa using hi)
  unfold grOk at hok
  simp only [Bool.and_eq_true, List.all_eq_true, decide_eq_true_iff, beq_iff_eq, List.mem_range] at hok
  obtain ⟨⟨⟨⟨⟨h1, h2⟩, h3⟩, h4⟩, h5⟩, h6⟩ := hok
  exact ⟨(ordB_iff _ _).2 ⟨h1, h2, h3⟩, by rw [tid_raw h1 h4]; exact h5, h6⟩
end Go.Abs
end

section
set_option maxRecDepth 100000
set_option maxHeartbeats 2000000
namespace Go.Proofs.Ytollphjompimjaa.A
open Go Go.Abs Go.RowKit
theorem getM {α : Type} (A : List α) (f : Nat → α) {k r b : Nat} (hb : A.length = b) (hr : r < k) : (A ++ (List.range k).map f)[b + r]? = some (f r) := by
  rw [List.getElem?_append_right (by omega), show b + r - A.length = r by omega]
  simp [hr]
theorem setM {α : Type} (A : List α) (f : Nat → α) (x : α) {k r b : Nat} (hb : A.length = b) : (A ++ (List.range k).map f).set (b + r) x = A ++ (List.range k).map (fun j => if j = r then x else f j) := by
  rw [List.set_append_right _ _ (by omega), show b + r - A.length = r by omega]
  congr 1
  refine List.ext_getElem? fun j => ?_
  rw [List.getElem?_set]
  by_cases hj : j < k
  · by_cases h : r = j
    · subst h
      simp [hj]
    · have h' : ¬ j = r := fun e => h e.symm
      simp [hj, h, h']
  · by_cases h : r = j
    · subst h
      simp [hj]
    · simp [hj, h]
theorem Ow.addNils {B H : AH} {A : List Th} (h : Ow B H A) (ty : TypeId) : ∀ k, Ow B H (A ++ (List.range k).map fun _ => .sl 1 ty (.slice none 0 0) 0 [])
  | 0 => by simpa using h
  | k + 1 => by
    have := (Ow.addNils h ty k).addNil 1 ty
    rw [List.range_succ, List.map_append, ← List.append_assoc]
    exact this
theorem condC_cutZ {P : Program} {A : Code} {Q : Exit → T → AH → Prop} {N : T → AH → Prop} {t : T} {H : AH} {b : Bool} (M : T → AH → Prop) (hf : b = false → M t H) (ht : b = true → awp P A (seqQ M Q) t H) (hN : ∀ t H, M t H → N t H) :
    condC (some (.bool b)) (awp P A (seqQ N Q) t H) (N t H) := by
  cases b with
  | false => exact hN _ _ (hf rfl)
  | true => exact awp_mono A _ _ t H (seqQ_mono hN fun _ _ _ h => h) (ht rfl)
def gridC (k : Int) : Int := if k = 2 ∨ k = 3 ∨ k = 5 then 0 else 2
def gridL (k : Int) : List (List Int) := if k = 2 ∨ k = 3 ∨ k = 5 then grdL k.toNat (k.toNat + 1) else []
def gridQ (k : Int) : Int := if k = 2 ∨ k = 3 ∨ k = 5 then k * k else 0
def gridG (k : Int) : Int := if k = 2 ∨ k = 3 ∨ k = 5 then k else 0
theorem specGridOf_c (k : Int) (H : AH) :
    ACalls Try.prog 5 [.int .i64 k] H (fun r H' => ∃ u, r = .tuple #[.agg #[.int .i64 (gridQ k), .int .i64 (gridG k), u], .int .i64 (gridC k)] ∧ Ow H H' [.sl2 (Value.int .i64) 32 2 u (gridL k)]) := by
  refine ACalls.wf (by kernel_rfl) fun hs => acalls_of_awp [.cell 2 24, .tmp 3] Try.func5 (by kernel_rfl) rfl rfl (Nat.le_of_ble_eq_true rfl) (by kernel_rfl) ?_
  have o1 := (Ow.refl hs).push ⟨24, true, [.int .i64 0, .int .i64 0, .slice none 0 0]⟩
  rw [awp_seq]
  refine awp_cutQ (fun t H' => t 0 = .int .i64 k ∧ t 2 = .pointer (some ⟨H.next, 0, none⟩) ∧ t 3 = .int .i64 0 ∧ H' = H.push ⟨24, true, [.int .i64 0, .int .i64 0, .slice none 0 0]⟩) ?_ ?_
  · try simp (disch := first | omega | (simp only [ints_length, List.length_replicate, List.length_set, List.length_map, List.length_range] <;> omega)) only [Sall,evalOp,init,binA_s,binE,binI,unE,convE,okNil,builtE,gv,TD.isAgg,resV,↓reduceIte,Nat.reduceEqDiff,reduceCtorEq,Nat.reduceAdd,Nat.reduceMul,Nat.reduceLeDiff,quietOp,blindOp,Int.reduceEq,Int.reduceLT,Int.reduceLE,Nat.reduceLT,tiA,tiXA, true_and]
  rintro t H1 ⟨h0, h2, h3, eH1⟩
  rw [← eH1] at o1
  clear eH1
  obtain ⟨c2, ec2⟩ : ∃ c2, c2 = H.next := ⟨_, rfl⟩
  rw [← ec2] at o1 h2
  have o1 : Ow H H1 [.row c2 ⟨24, true, [.int .i64 0, .int .i64 0, .slice none 0 0]⟩] := o1
  have g1 := (o1.rowAt 0 rfl).1
  by_cases hk : k = 2 ∨ k = 3 ∨ k = 5
  · obtain ⟨kN, rfl⟩ : ∃ kN : Nat, k = kN := ⟨k.toNat, by omega⟩
    unfold gridC gridL gridQ gridG
    rw [if_pos hk, if_pos hk, if_pos hk, if_pos hk, Int.toNat_natCast]
    refine awp_cut (fun t H' => t 0 = .int .i64 kN ∧ t 2 = .pointer (some ⟨c2, 0, none⟩) ∧ H' = H1) ?_ ?_
    · rcases hk with h | h | h
      · try simp (disch := first | omega | (simp only [ints_length, List.length_replicate, List.length_set, List.length_map, List.length_range] <;> omega)) only [Sall,evalOp,init,binA_s,binE,binI,unE,convE,okNil,builtE,gv,TD.isAgg,resV,↓reduceIte,Nat.reduceEqDiff,reduceCtorEq,Nat.reduceAdd,Nat.reduceMul,Nat.reduceLeDiff,quietOp,blindOp,Int.reduceEq,Int.reduceLT,Int.reduceLE,Nat.reduceLT,tiA,tiXA, h0, h2, h3, h, bne_self_eq_false, Bool.false_and]
      · have e1 : ((3 : Int) != 2) = true := rfl
        try simp (disch := first | omega | (simp only [ints_length, List.length_replicate, List.length_set, List.length_map, List.length_range] <;> omega)) only [Sall,evalOp,init,binA_s,binE,binI,unE,convE,okNil,builtE,gv,TD.isAgg,resV,↓reduceIte,Nat.reduceEqDiff,reduceCtorEq,Nat.reduceAdd,Nat.reduceMul,Nat.reduceLeDiff,quietOp,blindOp,Int.reduceEq,Int.reduceLT,Int.reduceLE,Nat.reduceLT,tiA,tiXA, h0, h2, h3, h, bne_self_eq_false, Bool.false_and, e1]
      · have e1 : ((5 : Int) != 2) = true := rfl
        have e2 : ((5 : Int) != 3) = true := rfl
        try simp (disch := first | omega | (simp only [ints_length, List.length_replicate, List.length_set, List.length_map, List.length_range] <;> omega)) only [Sall,evalOp,init,binA_s,binE,binI,unE,convE,okNil,builtE,gv,TD.isAgg,resV,↓reduceIte,Nat.reduceEqDiff,reduceCtorEq,Nat.reduceAdd,Nat.reduceMul,Nat.reduceLeDiff,quietOp,blindOp,Int.reduceEq,Int.reduceLT,Int.reduceLE,Nat.reduceLT,tiA,tiXA, h0, h2, h3, h, bne_self_eq_false, Bool.false_and, e1, e2]
    rintro t H1' ⟨h0, h2, rfl⟩
    try simp (disch := first | omega | (simp only [ints_length, List.length_replicate, List.length_set, List.length_map, List.length_range] <;> omega)) only [Sall,evalOp,init,binA_s,binE,binI,unE,convE,okNil,builtE,gv,TD.isAgg,resV,↓reduceIte,Nat.reduceEqDiff,reduceCtorEq,Nat.reduceAdd,Nat.reduceMul,Nat.reduceLeDiff,quietOp,blindOp,Int.reduceEq,Int.reduceLT,Int.reduceLE,Nat.reduceLT,tiA,tiXA, h0]
    refine (l08Grid_c kN (by omega) _).ex ?_
    rintro u H2 o2
    have hu := (o2.rd2 0 rfl).one
    have o3 := o1.call o2
    have g2 := (o3.rowAt 0 rfl).1
    refine Holds.mp ?_
    try simp (disch := first | omega | (simp only [ints_length, List.length_replicate, List.length_set, List.length_map, List.length_range] <;> omega)) only [Sall,evalOp,init,binA_s,binE,binI,unE,convE,okNil,builtE,gv,TD.isAgg,resV,↓reduceIte,Nat.reduceEqDiff,reduceCtorEq,Nat.reduceAdd,Nat.reduceMul,Nat.reduceLeDiff,quietOp,blindOp,Int.reduceEq,Int.reduceLT,Int.reduceLE,Nat.reduceLT,tiA,tiXA, h0, h2, hu, g2]
    refine ⟨u, ?_, (o3.putRow 0 rfl (cs' := [.int .i64 ((kN * kN : Nat) : Int), .int .i64 kN, u])).only 1 rfl⟩
    rw [Int.natCast_mul]
  · unfold gridC gridL gridQ gridG
    rw [if_neg hk, if_neg hk, if_neg hk, if_neg hk]
    have e1 : (k != 2) = true := bne_iff_ne.2 (by omega)
    have e2 : (k != 3) = true := bne_iff_ne.2 (by omega)
    have e3 : (k != 5) = true := bne_iff_ne.2 (by omega)
    try simp (disch := first | omega | (simp only [ints_length, List.length_replicate, List.length_set, List.length_map, List.length_range] <;> omega)) only [Sall,evalOp,init,binA_s,binE,binI,unE,convE,okNil,builtE,gv,TD.isAgg,resV,↓reduceIte,Nat.reduceEqDiff,reduceCtorEq,Nat.reduceAdd,Nat.reduceMul,Nat.reduceLeDiff,quietOp,blindOp,Int.reduceEq,Int.reduceLT,Int.reduceLE,Nat.reduceLT,tiA,tiXA, h0, h2, h3, e1, e2, e3, g1]
    exact ⟨_, rfl, (Ow.left (L := []) (o1.putRow 0 rfl (cs' := [.int .i64 0, .int .i64 0, .slice none 0 0]))).addNil2⟩
theorem GridOf_c (k : Int) (H : AH) :
    ACalls Try.prog 6 [.int .i64 k] H (fun r H' => ∃ u, r = .tuple #[.agg #[.int .i64 (gridQ k), .int .i64 (gridG k), u], .int .i64 (gridC k)] ∧ Ow H H' [.sl2 (Value.int .i64) 32 2 u (gridL k)]) := by
  refine ACalls.wf (by kernel_rfl) fun hs => acalls_of_awp [.cell 2 24, .tmp 3] Try.func6 (by kernel_rfl) rfl rfl (Nat.le_of_ble_eq_true rfl) (by kernel_rfl) ?_
  have o1 := (Ow.refl hs).push ⟨24, true, [.int .i64 0, .int .i64 0, .slice none 0 0]⟩
  rw [awp_seq]
  refine awp_cutQ (fun t H' => t 0 = .int .i64 k ∧ t 2 = .pointer (some ⟨H.next, 0, none⟩) ∧ t 3 = .int .i64 0 ∧ H' = H.push ⟨24, true, [.int .i64 0, .int .i64 0, .slice none 0 0]⟩) ?_ ?_
  · try simp (disch := first | omega | (simp only [ints_length, List.length_replicate, List.length_set, List.length_map, List.length_range] <;> omega)) only [Sall,evalOp,init,binA_s,binE,binI,unE,convE,okNil,builtE,gv,TD.isAgg,resV,↓reduceIte,Nat.reduceEqDiff,reduceCtorEq,Nat.reduceAdd,Nat.reduceMul,Nat.reduceLeDiff,quietOp,blindOp,Int.reduceEq,Int.reduceLT,Int.reduceLE,Nat.reduceLT,tiA,tiXA, true_and]
  rintro t H1 ⟨h0, h2, h3, eH1⟩
  rw [← eH1] at o1
  clear eH1
  obtain ⟨c2, ec2⟩ : ∃ c2, c2 = H.next := ⟨_, rfl⟩
  rw [← ec2] at o1 h2
  have o1 : Ow H H1 [.row c2 ⟨24, true, [.int .i64 0, .int .i64 0, .slice none 0 0]⟩] := o1
  have g1 := (o1.rowAt 0 rfl).1
  by_cases hk : k = 2 ∨ k = 3 ∨ k = 5
  · obtain ⟨kN, rfl⟩ : ∃ kN : Nat, k = kN := ⟨k.toNat, by omega⟩
    unfold gridC gridL gridQ gridG
    rw [if_pos hk, if_pos hk, if_pos hk, if_pos hk, Int.toNat_natCast]
    refine awp_cut (fun t H' => t 0 = .int .i64 kN ∧ t 2 = .pointer (some ⟨c2, 0, none⟩) ∧ H' = H1) ?_ ?_
    · rcases hk with h | h | h
      · try simp (disch := first | omega | (simp only [ints_length, List.length_replicate, List.length_set, List.length_map, List.length_range] <;> omega)) only [Sall,evalOp,init,binA_s,binE,binI,unE,convE,okNil,builtE,gv,TD.isAgg,resV,↓reduceIte,Nat.reduceEqDiff,reduceCtorEq,Nat.reduceAdd,Nat.reduceMul,Nat.reduceLeDiff,quietOp,blindOp,Int.reduceEq,Int.reduceLT,Int.reduceLE,Nat.reduceLT,tiA,tiXA, h0, h2, h3, h, bne_self_eq_false, Bool.false_and]
      · have e1 : ((3 : Int) != 2) = true := rfl
        try simp (disch := first | omega | (simp only [ints_length, List.length_replicate, List.length_set, List.length_map, List.length_range] <;> omega)) only [Sall,evalOp,init,binA_s,binE,binI,unE,convE,okNil,builtE,gv,TD.isAgg,resV,↓reduceIte,Nat.reduceEqDiff,reduceCtorEq,Nat.reduceAdd,Nat.reduceMul,Nat.reduceLeDiff,quietOp,blindOp,Int.reduceEq,Int.reduceLT,Int.reduceLE,Nat.reduceLT,tiA,tiXA, h0, h2, h3, h, bne_self_eq_false, Bool.false_and, e1]
      · have e1 : ((5 : Int) != 2) = true := rfl
        have e2 : ((5 : Int) != 3) = true := rfl
        try simp (disch := first | omega | (simp only [ints_length, List.length_replicate, List.length_set, List.length_map, List.length_range] <;> omega)) only [Sall,evalOp,init,binA_s,binE,binI,unE,convE,okNil,builtE,gv,TD.isAgg,resV,↓reduceIte,Nat.reduceEqDiff,reduceCtorEq,Nat.reduceAdd,Nat.reduceMul,Nat.reduceLeDiff,quietOp,blindOp,Int.reduceEq,Int.reduceLT,Int.reduceLE,Nat.reduceLT,tiA,tiXA, h0, h2, h3, h, bne_self_eq_false, Bool.false_and, e1, e2]
    rintro t H1' ⟨h0, h2, rfl⟩
    have hkN : kN = 2 ∨ kN = 3 ∨ kN = 5 := by omega
    generalize kN = k at *
    obtain ⟨n, en⟩ : ∃ n, n = k * k := ⟨_, rfl⟩
    have hn : 4 ≤ n ∧ n ≤ 25 := by rcases hkN with rfl | rfl | rfl <;> omega
    have ekk : (k : Int) * (k : Int) = (n : Int) := by rw [en]; exact (Int.natCast_mul _ _).symm
    rw [ekk]
    have wn : IntKind.i64.wrap (n : Int) = n := w64 ⟨by omega, by omega⟩
    have wd : ∀ A : Int, -10000 ≤ A ∧ A ≤ 10000 → IntKind.i64.wrap A = A := fun A hA => w64 ⟨by omega, by omega⟩
    have z1 : zeros 1 [.slice none 0 0] = [.slice none 0 0] := rfl
    have wk1 : IntKind.i64.wrap ((k : Int) + 1) = (k : Int) + 1 := wd _ (by omega)
    try simp (disch := first | omega | (simp only [ints_length, List.length_replicate, List.length_set, List.length_map, List.length_range] <;> omega)) only [Sall,evalOp,init,binA_s,binE,binI,unE,convE,okNil,builtE,gv,TD.isAgg,resV,↓reduceIte,Nat.reduceEqDiff,reduceCtorEq,Nat.reduceAdd,Nat.reduceMul,Nat.reduceLeDiff,quietOp,blindOp,Int.reduceEq,Int.reduceLT,Int.reduceLE,Nat.reduceLT,tiA,tiXA, h0, ekk, wn, wk1]
    have o2 := (o1.addNil2 (ty := 32) (ty' := 2) |>.push ⟨24, true, [.int .i64 0, .int .i64 0, .slice none 0 0]⟩).putRow 2 rfl (cs' := [.int .i64 n, .int .i64 k, .slice none 0 0])
    have o2 : Ow H _ [.row c2 ⟨24, true, [.int .i64 0, .int .i64 0, .slice none 0 0]⟩, .sl2 (Value.int .i64) 32 2 (.slice none 0 0) (grdL k 0), .row H1'.next ⟨24, true, [.int .i64 n, .int .i64 k, .slice none 0 0]⟩] := o2
    refine awp_loop (fun m t H' => ∃ (i : Nat) (w : Value) (ri : Nat), m = k + 1 - i ∧ i ≤ k + 1 ∧ t 27 = .int .i64 i ∧ t 26 = .int .i64 ((k : Int) + 1) ∧ t 0 = .int .i64 k ∧ t 2 = .pointer (some ⟨c2, 0, none⟩) ∧ t 4 = .pointer (some ⟨ri, 0, none⟩) ∧ Ow H H' [.row c2 ⟨24, true, [.int .i64 0, .int .i64 0, .slice none 0 0]⟩, .sl2 (Value.int .i64) 32 2 w (grdL k i), .row ri ⟨24, true, [.int .i64 n, .int .i64 k, w]⟩]) (k + 1) ?_ ?_
    · refine ⟨0, .slice none 0 0, H1'.next, by omega, by omega, ?_⟩
      try simp (disch := first | omega | (simp only [ints_length, List.length_replicate, List.length_set, List.length_map, List.length_range] <;> omega)) only [Sall,evalOp,init,binA_s,binE,binI,unE,convE,okNil,builtE,gv,TD.isAgg,resV,↓reduceIte,Nat.reduceEqDiff,reduceCtorEq,Nat.reduceAdd,Nat.reduceMul,Nat.reduceLeDiff,quietOp,blindOp,Int.reduceEq,Int.reduceLT,Int.reduceLE,Nat.reduceLT,tiA,tiXA, Int.natCast_zero, h2, h0]
      exact o2
    · rintro m t H1 ⟨i, w, ri, hm, hi, h27, h26, h0, h2, h4, o3⟩
      try simp (disch := first | omega | (simp only [ints_length, List.length_replicate, List.length_set, List.length_map, List.length_range] <;> omega)) only [Sall,evalOp,init,binA_s,binE,binI,unE,convE,okNil,builtE,gv,TD.isAgg,resV,↓reduceIte,Nat.reduceEqDiff,reduceCtorEq,Nat.reduceAdd,Nat.reduceMul,Nat.reduceLeDiff,quietOp,blindOp,Int.reduceEq,Int.reduceLT,Int.reduceLE,Nat.reduceLT,tiA,tiXA, h27, h26]
      refine condC_dec (fun hh => ?_) (fun hh => ?_)
      · have hik : i < k + 1 := by omega
        obtain ⟨hf1, hf2, hf3⟩ := gr_facts hkN hik
        rw [← en] at hf1 hf2 hf3
        try simp (disch := first | omega | (simp only [ints_length, List.length_replicate, List.length_set, List.length_map, List.length_range] <;> omega)) only [Sall,evalOp,init,binA_s,binE,binI,unE,convE,okNil,builtE,gv,TD.isAgg,resV,↓reduceIte,Nat.reduceEqDiff,reduceCtorEq,Nat.reduceAdd,Nat.reduceMul,Nat.reduceLeDiff,quietOp,blindOp,Int.reduceEq,Int.reduceLT,Int.reduceLE,Nat.reduceLT,tiA,tiXA, h27, h26, h0, h2, h4, zeros_nil]
        refine ⟨⟨by omega, by omega, by omega⟩, ?_⟩
        have o4 := o3.pushSl (k := 1) (n := k) (ty := 32) (vs := (List.range k).map fun _ => .slice none 0 0) (by simp)
        have o4 := Ow.addNils o4 2 k
        have er : List.replicate k (Value.slice none 0 0) = (List.range k).map fun _ => Value.slice none 0 0 := by
          refine List.ext_getElem (by simp) fun j _ _ => by simp
        rw [er]
        refine awp_loop (fun m' t H' => ∃ (a : Nat) (vs : Nat → Value) (gi : Nat), m' = n - a ∧ a ≤ n ∧ t 35 = .int .i64 a ∧ t 34 = .int .i64 n ∧ t 5 = .int .i64 i ∧ t 6 = .slice (some ⟨gi, 0, some 1⟩) k k ∧ t 27 = .int .i64 i ∧ t 26 = .int .i64 ((k : Int) + 1) ∧ t 0 = .int .i64 k ∧ t 2 = .pointer (some ⟨c2, 0, none⟩) ∧ t 4 = .pointer (some ⟨ri, 0, none⟩) ∧ Ow H H' ([.row c2 ⟨24, true, [.int .i64 0, .int .i64 0, .slice none 0 0]⟩, .sl2 (Value.int .i64) 32 2 w (grdL k i), .row ri ⟨24, true, [.int .i64 n, .int .i64 k, w]⟩, .sl 1 32 (.slice (some ⟨gi, 0, some 1⟩) k k) k ((List.range k).map vs)] ++ (List.range k).map fun j => Th.sl 1 2 (vs j) (grG k i j a).length (ints (grG k i j a)))) n ?_ ?_
        · refine ⟨0, fun _ => .slice none 0 0, H1.next, by omega, by omega, ?_⟩
          try simp (disch := first | omega | (simp only [ints_length, List.length_replicate, List.length_set, List.length_map, List.length_range] <;> omega)) only [Sall,evalOp,init,binA_s,binE,binI,unE,convE,okNil,builtE,gv,TD.isAgg,resV,↓reduceIte,Nat.reduceEqDiff,reduceCtorEq,Nat.reduceAdd,Nat.reduceMul,Nat.reduceLeDiff,quietOp,blindOp,Int.reduceEq,Int.reduceLT,Int.reduceLE,Nat.reduceLT,tiA,tiXA, Int.natCast_zero, h27, h26, h0, h2, h4, ekk, wn]
          exact o4
        · rintro m' t H2 ⟨a, vs, gi, hm', ha, h35, h34, h5, h6, h27, h26, h0, h2, h4, o5⟩
          try simp (disch := first | omega | (simp only [ints_length, List.length_replicate, List.length_set, List.length_map, List.length_range] <;> omega)) only [Sall,evalOp,init,binA_s,binE,binI,unE,convE,okNil,builtE,gv,TD.isAgg,resV,↓reduceIte,Nat.reduceEqDiff,reduceCtorEq,Nat.reduceAdd,Nat.reduceMul,Nat.reduceLeDiff,quietOp,blindOp,Int.reduceEq,Int.reduceLT,Int.reduceLE,Nat.reduceLT,tiA,tiXA, h35, h34]
          refine condC_dec (fun hh2 => ?_) (fun hh2 => ?_)
          · have han : a < n := by omega
            have hlt := lnF_lt (k := k) (i := i) (a := a) (by omega) (by omega)
            obtain ⟨d1, ed1⟩ : ∃ d1, d1 = a / k := ⟨_, rfl⟩
            obtain ⟨m1, em1⟩ : ∃ m1, m1 = a % k := ⟨_, rfl⟩
            obtain ⟨p1, ep1⟩ : ∃ p1, p1 = (k - 1) * i := ⟨_, rfl⟩
            obtain ⟨p2, ep2⟩ : ∃ p2, p2 = p1 * d1 := ⟨_, rfl⟩
            obtain ⟨s1, es1⟩ : ∃ s1, s1 = m1 + p2 := ⟨_, rfl⟩
            obtain ⟨r1, er1⟩ : ∃ r1, r1 = s1 % k := ⟨_, rfl⟩
            have eln : lnF k i a = if i = k then d1 else r1 := by unfold lnF; rw [er1, es1, ep2, ep1, em1, ed1]
            have b1 : d1 ≤ 25 := by have := Nat.div_le_self a k; omega
            have b2 : p1 ≤ 100 := by rw [ep1]; exact Nat.le_trans (Nat.mul_le_mul (show k - 1 ≤ 5 by omega) (show i ≤ 6 by omega)) (by omega)
            have b3 : p2 ≤ 2500 := by rw [ep2]; exact Nat.mul_le_mul b2 b1
            have b4 : m1 ≤ 25 := by have := Nat.mod_le a k; omega
            have b5 : r1 ≤ 2600 := by have := Nat.mod_le s1 k; omega
            have x1 : Int.tdiv (a : Int) (k : Int) = (d1 : Int) := by rw [ed1]; rfl
            have x2 : Int.tmod (a : Int) (k : Int) = (m1 : Int) := by rw [em1]; rfl
            have x3 : (k : Int) - 1 = ((k - 1 : Nat) : Int) := by omega
            have x4 : ((k - 1 : Nat) : Int) * (i : Int) = (p1 : Int) := by rw [ep1]; exact (Int.natCast_mul _ _).symm
            have x5 : (p1 : Int) * (d1 : Int) = (p2 : Int) := by rw [ep2]; exact (Int.natCast_mul _ _).symm
            have x6 : (m1 : Int) + (p2 : Int) = (s1 : Int) := by omega
            have x7 : Int.tmod (s1 : Int) (k : Int) = (r1 : Int) := by rw [er1]; rfl
            have hk0 : ¬ (k : Int) = 0 := by omega
            have y0 := wd ((k - 1 : Nat) : Int) (by omega)
            have y1 := wd (d1 : Int) (by omega)
            have y2 := wd (m1 : Int) (by omega)
            have y4 := wd (p1 : Int) (by omega)
            have y5 := wd (p2 : Int) (by omega)
            have y6 := wd (s1 : Int) (by omega)
            have y7 := wd (r1 : Int) (by omega)
            have y8 := wd ((a : Int) + 1) (by omega)
            clear ed1 em1 ep1 ep2 es1 er1
            try simp (disch := first | omega | (simp only [ints_length, List.length_replicate, List.length_set, List.length_map, List.length_range] <;> omega)) only [Sall,evalOp,init,binA_s,binE,binI,unE,convE,okNil,builtE,gv,TD.isAgg,resV,↓reduceIte,Nat.reduceEqDiff,reduceCtorEq,Nat.reduceAdd,Nat.reduceMul,Nat.reduceLeDiff,quietOp,blindOp,Int.reduceEq,Int.reduceLT,Int.reduceLE,Nat.reduceLT,tiA,tiXA, true_and]
            refine draw_id (by kernel_rfl) (by kernel_rfl) ?_
            try simp (disch := first | omega | (simp only [ints_length, List.length_replicate, List.length_set, List.length_map, List.length_range] <;> omega)) only [Sall,evalOp,init,binA_s,binE,binI,unE,convE,okNil,builtE,gv,TD.isAgg,resV,↓reduceIte,Nat.reduceEqDiff,reduceCtorEq,Nat.reduceAdd,Nat.reduceMul,Nat.reduceLeDiff,quietOp,blindOp,Int.reduceEq,Int.reduceLT,Int.reduceLE,Nat.reduceLT,tiA,tiXA, h35, h34, h5, h6, h27, h26, h0, h2, h4, x1, x2, x3, x4, x5, x6, x7, hk0, y0, y1, y2, y4, y5, y6, y7]
            refine condC_cutZ (fun t H' => H' = H2 ∧ t 8 = .int .i64 ((lnF k i a : Nat) : Int) ∧ t 7 = .int .i64 a ∧ t 35 = .int .i64 a ∧ t 34 = .int .i64 n ∧ t 5 = .int .i64 i ∧ t 6 = .slice (some ⟨gi, 0, some 1⟩) k k ∧ t 27 = .int .i64 i ∧ t 26 = .int .i64 ((k : Int) + 1) ∧ t 0 = .int .i64 k ∧ t 2 = .pointer (some ⟨c2, 0, none⟩) ∧ t 4 = .pointer (some ⟨ri, 0, none⟩)) (fun hb => ?_) (fun hb => ?_) ?_
            · have hik2 : ¬ i = k := fun e => by rw [e, beq_self_eq_true] at hb; exact absurd hb (by decide)
              rw [if_neg hik2] at eln
              rw [eln]
              refine ⟨rfl, ?_⟩
              try simp (disch := first | omega | (simp only [ints_length, List.length_replicate, List.length_set, List.length_map, List.length_range] <;> omega)) only [Sall,evalOp,init,binA_s,binE,binI,unE,convE,okNil,builtE,gv,TD.isAgg,resV,↓reduceIte,Nat.reduceEqDiff,reduceCtorEq,Nat.reduceAdd,Nat.reduceMul,Nat.reduceLeDiff,quietOp,blindOp,Int.reduceEq,Int.reduceLT,Int.reduceLE,Nat.reduceLT,tiA,tiXA, h35, h34, h5, h6, h27, h26, h0, h2, h4]
            · have hik2 : i = k := by have := beq_iff_eq.1 hb; omega
              rw [if_pos hik2] at eln
              rw [eln]
              try simp (disch := first | omega | (simp only [ints_length, List.length_replicate, List.length_set, List.length_map, List.length_range] <;> omega)) only [Sall,evalOp,init,binA_s,binE,binI,unE,convE,okNil,builtE,gv,TD.isAgg,resV,↓reduceIte,Nat.reduceEqDiff,reduceCtorEq,Nat.reduceAdd,Nat.reduceMul,Nat.reduceLeDiff,quietOp,blindOp,Int.reduceEq,Int.reduceLT,Int.reduceLE,Nat.reduceLT,tiA,tiXA, h35, h34, h5, h6, h27, h26, h0, h2, h4, x1, y1, hk0]
            rintro t H2' ⟨rfl, h8, h7, h35, h34, h5, h6, h27, h26, h0, h2, h4⟩
            generalize er : lnF k i a = r at *
            have hgr := (o5.getV 3 rfl).2.2
            have hth : ∀ r, r < k → _ := fun r hr => getM [Th.row c2 ⟨24, true, [.int .i64 0, .int .i64 0, .slice none 0 0]⟩, .sl2 (Value.int .i64) 32 2 w (grdL k i), .row ri ⟨24, true, [.int .i64 n, .int .i64 k, w]⟩, .sl 1 32 (.slice (some ⟨gi, 0, some 1⟩) k k) k ((List.range k).map vs)] (fun j => Th.sl 1 2 (vs j) (grG k i j a).length (ints (grG k i j a))) (b := 4) rfl hr
            have hvr : ((List.range k).map vs)[r]? = some (vs r) := by rw [List.getElem?_map, List.getElem?_range hlt]; rfl
            have hu := o5.one (4 + r) (hth r hlt)
            have hgl := grG_len k i r a
            have zz : zeros 1 [.int .i64 0] = [.int .i64 0] := rfl
            try simp (disch := first | omega | (simp only [ints_length, List.length_replicate, List.length_set, List.length_map, List.length_range] <;> omega)) only [Sall,evalOp,init,binA_s,binE,binI,unE,convE,okNil,builtE,gv,TD.isAgg,resV,↓reduceIte,Nat.reduceEqDiff,reduceCtorEq,Nat.reduceAdd,Nat.reduceMul,Nat.reduceLeDiff,quietOp,blindOp,Int.reduceEq,Int.reduceLT,Int.reduceLE,Nat.reduceLT,tiA,tiXA, h35, h34, h5, h6, h27, h26, h0, h2, h4, h8, h7, hgr, hvr, hu, zz, slCells]
            (repeat refine And.intro (by omega) ?_)
            try simp (disch := first | omega | (simp only [ints_length, List.length_replicate, List.length_set, List.length_map, List.length_range] <;> omega)) only [Sall,evalOp,init,binA_s,binE,binI,unE,convE,okNil,builtE,gv,TD.isAgg,resV,↓reduceIte,Nat.reduceEqDiff,reduceCtorEq,Nat.reduceAdd,Nat.reduceMul,Nat.reduceLeDiff,quietOp,blindOp,Int.reduceEq,Int.reduceLT,Int.reduceLE,Nat.reduceLT,tiA,tiXA, h35, h34, h5, h6, h27, h26, h0, h2, h4, h8, h7, hgr, hvr, hu, zz, slCells]
            refine (o5.tmp ⟨2, true, [.int .i64 a]⟩).app (4 + r) (c := 1) (ms := ints [(a : Int)]) (hth r hlt) rfl (by omega) rfl (by omega) (by decide) (by omega) ?_
            intro v' H3 n3 o6
            rw [setM (b := 4) _ _ _ rfl, ints_append] at o6
            have hgr3 := (o6.getV 3 rfl).2.2
            have hput := o6.put 3 rfl (vs' := ((List.range k).map vs).set r v') (by simp)
            have es : ((List.range k).map vs).set r v' = (List.range k).map fun j => if j = r then v' else vs j := by
              have := setM [] vs v' (k := k) (r := r) (b := 0) rfl
              rw [Nat.zero_add] at this
              exact this
            rw [es] at hput
            have hm6 := getM [Th.row c2 ⟨24, true, [.int .i64 0, .int .i64 0, .slice none 0 0]⟩, .sl2 (Value.int .i64) 32 2 w (grdL k i), .row ri ⟨24, true, [.int .i64 n, .int .i64 k, w]⟩, .sl 1 32 (.slice (some ⟨gi, 0, some 1⟩) k k) k ((List.range k).map vs)] (fun j => if j = r then Th.sl 1 2 v' ((grG k i r a).length + 1) (ints (grG k i r a ++ [(a : Int)])) else Th.sl 1 2 (vs j) (grG k i j a).length (ints (grG k i j a))) (b := 4) rfl hlt
            simp only [if_pos] at hm6
            have hv' := o6.one (4 + r) hm6
            have hq1 := cells_of_one hv'
            have hq2 := noTuple_of_one hv'
            have hq3 := fun r => ok_one (r := r) hv'
            try simp (disch := first | omega | (simp only [ints_length, List.length_replicate, List.length_set, List.length_map, List.length_range] <;> omega)) only [Sall,evalOp,init,binA_s,binE,binI,unE,convE,okNil,builtE,gv,TD.isAgg,resV,↓reduceIte,Nat.reduceEqDiff,reduceCtorEq,Nat.reduceAdd,Nat.reduceMul,Nat.reduceLeDiff,quietOp,blindOp,Int.reduceEq,Int.reduceLT,Int.reduceLE,Nat.reduceLT,tiA,tiXA, h35, h34, h5, h6, h27, h26, h0, h2, h4, h8, h7, hgr3, hvr, hv', hq1, hq2, hq3]
            refine ⟨⟨by omega, by omega⟩, by simp only [List.length_map, List.length_range]; omega, n - (a + 1), by omega, a + 1, fun j => if j = r then v' else vs j, gi, by omega, by omega, by rw [y8, Int.natCast_add]; rfl, rfl, ?_⟩
            rw [es]
            have eM : (List.range k).map (fun j => Th.sl 1 2 (if j = r then v' else vs j) (grG k i j (a + 1)).length (ints (grG k i j (a + 1)))) = (List.range k).map (fun j => if j = r then Th.sl 1 2 v' ((grG k i r a).length + 1) (ints (grG k i r a ++ [(a : Int)])) else Th.sl 1 2 (vs j) (grG k i j a).length (ints (grG k i j a))) := by
              refine List.map_congr_left fun j _ => ?_
              rw [grG_succ, er]
              by_cases hj : j = r
              · rw [if_pos hj, if_pos hj.symm, if_pos hj, hj, List.length_append]; rfl
              · rw [if_neg hj, if_neg (fun e => hj e.symm), if_neg hj, List.append_nil]
            rw [eM]
            exact hput
          · have hae : a = n := by omega
            rw [hae] at o5
            have hgr := (o5.getV 3 rfl).2.2
            have hrow := hgr
            have hR : RowsP ((List.range k).map fun j => (vs j, grG k i j n)) H2 := by
              intro p hp
              obtain ⟨j, hj, rfl⟩ := List.mem_map.1 hp
              have hj := List.mem_range.1 hj
              exact o5.rs (4 + j) (getM [Th.row c2 ⟨24, true, [.int .i64 0, .int .i64 0, .slice none 0 0]⟩, .sl2 (Value.int .i64) 32 2 w (grdL k i), .row ri ⟨24, true, [.int .i64 n, .int .i64 k, w]⟩, .sl 1 32 (.slice (some ⟨gi, 0, some 1⟩) k k) k ((List.range k).map vs)] (fun j => Th.sl 1 2 (vs j) (grG k i j n).length (ints (grG k i j n))) (b := 4) rfl hj)
            have o6 := o5.left
            clear o5
            generalize eps : (List.range k).map (fun j => (vs j, grG k i j n)) = ps at hR
            have ef : ps.map Prod.fst = (List.range k).map vs := by rw [← eps, List.map_map]; rfl
            have ed : (ps.map Prod.snd).flatten = grO k i := by rw [← eps, List.map_map, en]; rfl
            have epl : ps.length = k := by rw [← eps]; simp
            have hpos : ∀ p ∈ ps, 0 < p.2.length := by
              intro p hp
              rw [← eps] at hp
              obtain ⟨j, hj, rfl⟩ := List.mem_map.1 hp
              exact hf3 j (List.mem_range.1 hj)
            have hsum : sumL ps = n := by
              unfold sumL
              rw [ed]
              exact ((ordB_iff n _).1 hf1).1
            clear eps
            rw [← ef] at hrow
            have g3 := (o6.rowAt 2 rfl).1
            have hw := (o6.rd2 1 rfl).one
            try simp (disch := first | omega | (simp only [ints_length, List.length_replicate, List.length_set, List.length_map, List.length_range] <;> omega)) only [Sall,evalOp,init,binA_s,binE,binI,unE,convE,okNil,builtE,gv,TD.isAgg,resV,↓reduceIte,Nat.reduceEqDiff,reduceCtorEq,Nat.reduceAdd,Nat.reduceMul,Nat.reduceLeDiff,quietOp,blindOp,Int.reduceEq,Int.reduceLT,Int.reduceLE,Nat.reduceLT,tiA,tiXA, h35, h34, h5, h6, h27, h26, h0, h2, h4]
            refine draw_id (by kernel_rfl) (by kernel_rfl) ?_
            try simp (disch := first | omega | (simp only [ints_length, List.length_replicate, List.length_set, List.length_map, List.length_range] <;> omega)) only [Sall,evalOp,init,binA_s,binE,binI,unE,convE,okNil,builtE,gv,TD.isAgg,resV,↓reduceIte,Nat.reduceEqDiff,reduceCtorEq,Nat.reduceAdd,Nat.reduceMul,Nat.reduceLeDiff,quietOp,blindOp,Int.reduceEq,Int.reduceLT,Int.reduceLE,Nat.reduceLT,tiA,tiXA, h5, h6, h27, h26, h0, h2, h4, g3, hw]
            refine ACalls.mono (concatI_c k k gi ps epl (by omega) (by omega) hpos H2 hrow hR) ?_
            intro x H3 ox
            rw [hsum, ed] at ox
            have hx := ox.one 0 rfl
            have hxs := ox.rs 0 rfl
            refine ⟨.inr (.inr (ox.up.le o6.sc)), ?_⟩
            have o7 := (o6.call ox)
            have g3' := (o7.rowAt 2 rfl).1
            refine Holds.mp ?_
            try simp (disch := first | omega | (simp only [ints_length, List.length_replicate, List.length_set, List.length_map, List.length_range] <;> omega)) only [Sall,evalOp,init,binA_s,binE,binI,unE,convE,okNil,builtE,gv,TD.isAgg,resV,↓reduceIte,Nat.reduceEqDiff,reduceCtorEq,Nat.reduceAdd,Nat.reduceMul,Nat.reduceLeDiff,quietOp,blindOp,Int.reduceEq,Int.reduceLT,Int.reduceLE,Nat.reduceLT,tiA,tiXA, h5, h6, h27, h26, h0, h2, h4, hx, hw]
            refine ACalls.mono (tidy_c n k k (by omega) en (by omega) (by omega) (by rcases hkN with rfl | rfl | rfl <;> omega) w x (grO k i) H3 hw hxs hf1) ?_
            intro y H4 oy
            rw [hf2] at oy
            have hy := oy.one 0 rfl
            refine ⟨.inr (.inr (oy.up.le o7.sc)), ?_⟩
            have o8 := o7.call oy
            have hq1 := cells_of_one hy
            have hq2 := noTuple_of_one hy
            have hq3 := fun r => ok_one (r := r) hy
            have gl := grdL_length k i
            refine Holds.mp ?_
            try simp (disch := first | omega | (simp only [ints_length, List.length_replicate, List.length_set, List.length_map, List.length_range] <;> omega)) only [Sall,evalOp,init,binA_s,binE,binI,unE,convE,okNil,builtE,gv,TD.isAgg,resV,↓reduceIte,Nat.reduceEqDiff,reduceCtorEq,Nat.reduceAdd,Nat.reduceMul,Nat.reduceLeDiff,quietOp,blindOp,Int.reduceEq,Int.reduceLT,Int.reduceLE,Nat.reduceLT,tiA,tiXA, h5, h6, h27, h26, h0, h2, h4, hy, hw, z1, hq1, hq2, hq3, slCells]
            refine ⟨.inr (.inr (o8.sc.le _)), ?_⟩
            refine (o8.tmp ⟨32, true, [y]⟩).app2 (l := grA k i n) 1 5 rfl rfl (by omega) rfl (by decide) (by omega) ?_
            intro v' H5 n5 o9
            have g5 := (o9.rowAt 2 rfl).1
            have hv' := (o9.rd2 1 rfl).one
            have p5 := o9.putRow 2 rfl (cs' := [.int .i64 n, .int .i64 k, v'])
            have y9 := wd ((i : Int) + 1) (by omega)
            refine ⟨.inr (.inl (by kernel_rfl)), ?_⟩
            try simp (disch := first | omega | (simp only [ints_length, List.length_replicate, List.length_set, List.length_map, List.length_range] <;> omega)) only [Sall,evalOp,init,binA_s,binE,binI,unE,convE,okNil,builtE,gv,TD.isAgg,resV,↓reduceIte,Nat.reduceEqDiff,reduceCtorEq,Nat.reduceAdd,Nat.reduceMul,Nat.reduceLeDiff,quietOp,blindOp,Int.reduceEq,Int.reduceLT,Int.reduceLE,Nat.reduceLT,tiA,tiXA, h5, h6, h27, h26, h0, h2, h4, hy, hw, g5, hv']
            refine ⟨.inr (.inl (by kernel_rfl)), k + 1 - (i + 1), by omega, i + 1, v', ri, by omega, by omega, by rw [y9, Int.natCast_add]; rfl, rfl, ?_⟩
            rw [grdL_succ, ← en]
            exact Ow.left (L := [.row c2 ⟨24, true, [.int .i64 0, .int .i64 0, .slice none 0 0]⟩, .sl2 (Value.int .i64) 32 2 v' (grdL k i ++ [grA k i n]), .row ri ⟨24, true, [.int .i64 n, .int .i64 k, v']⟩]) p5
      · have hie : i = k + 1 := by omega
        rw [hie] at o3
        have g3 := (o3.rowAt 2 rfl).1
        have g2 := (o3.rowAt 0 rfl).1
        have hw := (o3.rd2 1 rfl).one
        try simp (disch := first | omega | (simp only [ints_length, List.length_replicate, List.length_set, List.length_map, List.length_range] <;> omega)) only [Sall,evalOp,init,binA_s,binE,binI,unE,convE,okNil,builtE,gv,TD.isAgg,resV,↓reduceIte,Nat.reduceEqDiff,reduceCtorEq,Nat.reduceAdd,Nat.reduceMul,Nat.reduceLeDiff,quietOp,blindOp,Int.reduceEq,Int.reduceLT,Int.reduceLE,Nat.reduceLT,tiA,tiXA, h2, h4, g3, g2, hw]
        exact ⟨w, rfl, (o3.putRow 0 rfl (cs' := [.int .i64 n, .int .i64 k, w])).only 1 rfl⟩
  · unfold gridC gridL gridQ gridG
    rw [if_neg hk, if_neg hk, if_neg hk, if_neg hk]
    have e1 : (k != 2) = true := bne_iff_ne.2 (by omega)
    have e2 : (k != 3) = true := bne_iff_ne.2 (by omega)
    have e3 : (k != 5) = true := bne_iff_ne.2 (by omega)
    try simp (disch := first | omega | (simp only [ints_length, List.length_replicate, List.length_set, List.length_map, List.length_range] <;> omega)) only [Sall,evalOp,init,binA_s,binE,binI,unE,convE,okNil,builtE,gv,TD.isAgg,resV,↓reduceIte,Nat.reduceEqDiff,reduceCtorEq,Nat.reduceAdd,Nat.reduceMul,Nat.reduceLeDiff,quietOp,blindOp,Int.reduceEq,Int.reduceLT,Int.reduceLE,Nat.reduceLT,tiA,tiXA, h0, h2, h3, e1, e2, e3, g1]
    exact ⟨_, rfl, (Ow.left (L := []) (o1.putRow 0 rfl (cs' := [.int .i64 0, .int .i64 0, .slice none 0 0]))).addNil2⟩
end Go.Proofs.Ytollphjompimjaa.A
end

section
set_option maxRecDepth 100000
namespace Go.Proofs.Ytollphjompimjaa.A
open Go Go.Abs Go.RowKit
theorem eqGolf_c (va vb : Value) (q p : Int) (ll : List (List Int)) (hn : ll.length ≤ 4294967296) (hn2 : ∀ l ∈ ll, l.length ≤ 4294967296) (H : AH) (ha : Rd2 1 H va ll) (hb : Rd2 1 H vb ll) (h1 : va.oneCell' = true) (h2 : vb.oneCell' = true) :
    ACalls Try.prog 7 [.agg #[.int .i64 q, .int .i64 p, va], .agg #[.int .i64 q, .int .i64 p, vb]] H (is (.bool true) H) := by
  refine ACalls.wf (by kernel_rfl) fun hs => acalls_up rfl (acalls_of_awp [.tmp 4] Try.func7 (by kernel_rfl) rfl rfl (Nat.le_of_ble_eq_true rfl) (by kernel_rfl) ?_)
  try simp (disch := first | omega | (simp only [ints_length, List.length_replicate] <;> omega)) only [Sall,evalOp,init,binA_s,binE,binI,unE,convE,okNil,builtE,gv,TD.isAgg,resV,↓reduceIte,Nat.reduceEqDiff,reduceCtorEq,Nat.reduceAdd,Nat.reduceMul,Nat.reduceLeDiff,quietOp,blindOp,Int.reduceEq,Int.reduceLT,Int.reduceLE,Nat.reduceLT,tiA,tiXA, bne_self_eq_false]
  have up : Up H.next H ((H.push ⟨24, true, [.int .i64 q, .int .i64 p, va]⟩).push ⟨24, true, [.int .i64 q, .int .i64 p, vb]⟩) := ((Up.refl _ H).push (Nat.le_refl _) _).push (Nat.le_succ _) _
  refine (eqInt64SS_c va vb ll hn hn2 _ (ha.same (up.le hs).row) (hb.same (up.le hs).row)).to ?_
  try simp (disch := first | omega | (simp only [ints_length, List.length_replicate] <;> omega)) only [Sall,evalOp,init,binA_s,binE,binI,unE,convE,okNil,builtE,gv,TD.isAgg,resV,↓reduceIte,Nat.reduceEqDiff,reduceCtorEq,Nat.reduceAdd,Nat.reduceMul,Nat.reduceLeDiff,quietOp,blindOp,Int.reduceEq,Int.reduceLT,Int.reduceLE,Nat.reduceLT,tiA,tiXA, Bool.not_true]
  exact up
theorem heldGolf_c (v : Value) (q p : Int) (ll : List (List Int)) (k0 : Int) (hk0 : 0 ≤ k0 ∧ k0 ≤ 268435456) (hn : ll.length ≤ 4194304) (ht0 : tot ll ≤ 4194304) (H : AH) (hv : Rd2 1 H v (seqLL k0 ll)) :
    ACalls Try.prog 9 [.agg #[.int .i64 q, .int .i64 p, v], .int .i64 k0] H (is (.int .i64 (k0 + tot ll)) H) := by
  refine ACalls.wf (by kernel_rfl) fun hs => acalls_up rfl (acalls_of_awp [.tmp 4] Try.func9 (by kernel_rfl) rfl rfl (Nat.le_of_ble_eq_true rfl) (by kernel_rfl) ?_)
  have hone := hv.one
  have up : Up H.next H (H.push ⟨24, true, [.int .i64 q, .int .i64 p, v]⟩) := (Up.refl _ H).push (Nat.le_refl _) _
  try simp (disch := first | omega | (simp only [ints_length, List.length_replicate] <;> omega)) only [Sall,evalOp,init,binA_s,binE,binI,unE,convE,okNil,builtE,gv,TD.isAgg,resV,↓reduceIte,Nat.reduceEqDiff,reduceCtorEq,Nat.reduceAdd,Nat.reduceMul,Nat.reduceLeDiff,quietOp,blindOp,Int.reduceEq,Int.reduceLT,Int.reduceLE,Nat.reduceLT,tiA,tiXA, hone]
  refine (heldInt64SS_c v ll k0 hk0 hn ht0 _ (hv.same (up.le hs).row)).to ?_
  have h : ¬ k0 + (tot ll : Int) < 0 := by omega
  refine Holds.mp ?_
  try simp (disch := first | omega | (simp only [ints_length, List.length_replicate] <;> omega)) only [Sall,evalOp,init,binA_s,binE,binI,unE,convE,okNil,builtE,gv,TD.isAgg,resV,↓reduceIte,Nat.reduceEqDiff,reduceCtorEq,Nat.reduceAdd,Nat.reduceMul,Nat.reduceLeDiff,quietOp,blindOp,Int.reduceEq,Int.reduceLT,Int.reduceLE,Nat.reduceLT,tiA,tiXA, h, decide_false]
  exact up
end Go.Proofs.Ytollphjompimjaa.A
end

section
set_option maxRecDepth 100000
namespace Go.Proofs.Ytollphjompimjaa.A
open Go Go.Abs Go.RowKit
theorem markInt64SSo_c (ty ty' : Nat) (S : Nat → Prop) (v : Value) (ll : List (List Int)) (k0 : Int) (hk0 : 0 ≤ k0 ∧ k0 ≤ 268435456) (hn : ll.length ≤ 4194304) (ht0 : tot ll ≤ 4194304) (H : AH) (hv : (Th.sl2 (Value.int .i64) ty ty' v ll).p H S) :
    ACalls Try.prog 21 [v, .int .i64 k0] H (fun r H' => r = .int .i64 (k0 + tot ll) ∧ H'.next = H.next ∧ (∀ i, ¬S i → H'.row i = H.row i) ∧ (Th.sl2 (Value.int .i64) ty ty' v (seqLL k0 ll)).p H' S) := by
  refine acalls_of_awp [.tmp 4] Try.func21 (by kernel_rfl) rfl rfl (Nat.le_of_ble_eq_true rfl) (by kernel_rfl) ?_
  try simp (disch := first | omega | (simp only [ints_length, List.length_replicate] <;> omega)) only [Sall,evalOp,init,binA_s,binE,binI,unE,convE,okNil,builtE,gv,TD.isAgg,resV,↓reduceIte,Nat.reduceEqDiff,reduceCtorEq,Nat.reduceAdd,Nat.reduceMul,Nat.reduceLeDiff,quietOp,blindOp,Int.reduceEq,Int.reduceLT,Int.reduceLE,Nat.reduceLT,tiA, true_and]
  refine Holds.mp ?_
  rcases hv with ⟨rfl, rfl⟩ | ⟨i, vs, o, g1, g2, rfl, hr, hvl, hall⟩
  · rw [holds_def]
    refine awp_loop (fun x t H' => t 5 = .int .i64 0 ∧ t 0 = .slice none 0 0 ∧ t 1 = .int .i64 k0 ∧ H' = H) 0 ?_ ?_
    · try simp (disch := first | omega | (simp only [ints_length, List.length_replicate] <;> omega)) only [Sall,evalOp,init,binA_s,binE,binI,unE,convE,okNil,builtE,gv,TD.isAgg,resV,↓reduceIte,Nat.reduceEqDiff,reduceCtorEq,Nat.reduceAdd,Nat.reduceMul,Nat.reduceLeDiff,quietOp,blindOp,Int.reduceEq,Int.reduceLT,Int.reduceLE,Nat.reduceLT,tiA, true_and]
    · rintro x t H' ⟨h5, h0, h1, rfl⟩
      try simp (disch := first | omega | (simp only [ints_length, List.length_replicate] <;> omega)) only [Sall,evalOp,init,binA_s,binE,binI,unE,convE,okNil,builtE,gv,TD.isAgg,resV,↓reduceIte,Nat.reduceEqDiff,reduceCtorEq,Nat.reduceAdd,Nat.reduceMul,Nat.reduceLeDiff,quietOp,blindOp,Int.reduceEq,Int.reduceLT,Int.reduceLE,Nat.reduceLT,tiA, h5, h0, h1, builtE, Int.lt_irrefl, decide_false]
      exact ⟨by simp [tot], .inl ⟨rfl, rfl⟩⟩
  · rw [holds_def]
    refine awp_loop (fun x t H' => ∃ a : Nat, x = ll.length - a ∧ a ≤ ll.length ∧ t 5 = .int .i64 a ∧ t 0 = .slice (some ⟨i, 0, some 1⟩) ll.length ll.length ∧ t 1 = .int .i64 (k0 + tot (ll.take a)) ∧ H'.next = H.next ∧ (∀ i, ¬S i → H'.row i = H.row i) ∧ H'.row i = some ⟨ty, true, vs⟩ ∧
        ∀ j, j < ll.length → ∃ x, vs[j]? = some x ∧ (Th.sl 1 ty' x (ll.getD j []).length (ints (if j < a then seqL (k0 + tot (ll.take j)) (ll.getD j []).length else ll.getD j []))).p H' (fun z => S z ∧ o z = j + 1)) ll.length ?_ ?_
    · refine ⟨0, by omega, by omega, ?_⟩
      try simp (disch := first | omega | (simp only [ints_length, List.length_replicate] <;> omega)) only [Sall,evalOp,init,binA_s,binE,binI,unE,convE,okNil,builtE,gv,TD.isAgg,resV,↓reduceIte,Nat.reduceEqDiff,reduceCtorEq,Nat.reduceAdd,Nat.reduceMul,Nat.reduceLeDiff,quietOp,blindOp,Int.reduceEq,Int.reduceLT,Int.reduceLE,Nat.reduceLT,tiA, Int.natCast_zero]
      refine ⟨by simp [tot], hr, fun j hj => ?_⟩
      rw [if_neg (by omega)]; exact hall j hj
    · rintro x t H' ⟨a, hm, h14, h5, h0, h1, hnx, hsm, hr', hal⟩
      try simp (disch := first | omega | (simp only [ints_length, List.length_replicate] <;> omega)) only [Sall,evalOp,init,binA_s,binE,binI,unE,convE,okNil,builtE,gv,TD.isAgg,resV,↓reduceIte,Nat.reduceEqDiff,reduceCtorEq,Nat.reduceAdd,Nat.reduceMul,Nat.reduceLeDiff,quietOp,blindOp,Int.reduceEq,Int.reduceLT,Int.reduceLE,Nat.reduceLT,tiA, h5, h0, builtE]
      refine condC_dec (fun h => ?_) (fun h => ?_)
      · obtain ⟨y, hy, hp⟩ := hal a (by omega)
        rw [if_neg (by omega)] at hp
        have ht := tot_take_succ ll a (by omega)
        have ht2 := tot_take_le ll (a + 1)
        obtain ⟨lo, hi, hin, hf⟩ : ∃ lo hi, (∀ z, lo ≤ z → z < hi → S z ∧ o z = a + 1) ∧ Fr 1 ty' lo hi H' y (ll.getD a []).length (ll.getD a []) := by
          rcases hp.2 with ⟨e1, e2⟩ | ⟨q, q1, q2, q3⟩
          · exact ⟨0, 0, fun z _ hz => by omega, (Nat.mul_one _).symm, .inl ⟨e1, e2⟩⟩
          · exact ⟨q, q + 1, fun z z1 z2 => by rw [show z = q by omega]; exact q1, (Nat.mul_one _).symm, .inr ⟨q, Nat.le_refl _, Nat.lt_succ_self _, q2, q3⟩⟩
        have hii : ¬(lo ≤ i ∧ i < hi) := fun ⟨z1, z2⟩ => by have := (hin i z1 z2).2; omega
        try simp (disch := first | omega | (simp only [ints_length, List.length_replicate] <;> omega)) only [Sall,evalOp,init,binA_s,binE,binI,unE,convE,okNil,builtE,gv,TD.isAgg,resV,↓reduceIte,Nat.reduceEqDiff,reduceCtorEq,Nat.reduceAdd,Nat.reduceMul,Nat.reduceLeDiff,quietOp,blindOp,Int.reduceEq,Int.reduceLT,Int.reduceLE,Nat.reduceLT,tiA, h5, h0, h1, hr', hy]
        refine ⟨⟨by omega, by omega⟩, (markInt64S_c ty' lo hi y _ _ _ (by omega) (by omega) H' hf).fin ?_⟩
        rintro H'' ⟨hnx2, hsm2, hf2⟩
        try simp (disch := first | omega | (simp only [ints_length, List.length_replicate] <;> omega)) only [Sall,evalOp,init,binA_s,binE,binI,unE,convE,okNil,builtE,gv,TD.isAgg,resV,↓reduceIte,Nat.reduceEqDiff,reduceCtorEq,Nat.reduceAdd,Nat.reduceMul,Nat.reduceLeDiff,quietOp,blindOp,Int.reduceEq,Int.reduceLT,Int.reduceLE,Nat.reduceLT,tiA, h5, h0, w64]
        refine ⟨ll.length - (a + 1), by omega, a + 1, rfl, by omega, by omega, by omega, by rw [hnx2, hnx], fun z hz => ?_, ?_, fun j hj => ?_⟩
        · rw [hsm2 z (fun ⟨z1, z2⟩ => hz (hin z z1 z2).1)]; exact hsm z hz
        · rw [hsm2 i hii]; exact hr'
        · by_cases hja : j = a
          · subst hja
            refine ⟨y, hy, ?_⟩
            rw [if_pos (by omega)]
            refine ⟨by rw [ints_length, seqL_length, Nat.mul_one], ?_⟩
            rcases hf2.2 with hf3 | ⟨q, q1, q2, q3, q4⟩
            · exact .inl hf3
            · exact .inr ⟨q, hin q q1 q2, q3, q4⟩
          · obtain ⟨y', hy', hf'⟩ := hal j hj
            refine ⟨y', hy', ?_⟩
            have e : (if j < a + 1 then seqL (k0 + ↑(tot (ll.take j))) (ll.getD j []).length else ll.getD j []) = (if j < a then seqL (k0 + ↑(tot (ll.take j))) (ll.getD j []).length else ll.getD j []) := by
              by_cases h1 : j < a
              · rw [if_pos (by omega), if_pos h1]
              · rw [if_neg (by omega), if_neg h1]
            rw [e]
            refine sl_at hf' (fun z hz => hz) fun z r hz hzr => ?_
            rw [hsm2 z (fun ⟨z1, z2⟩ => by have := (hin z z1 z2).2; omega)]
            exact hzr
      · have ha : a = ll.length := by omega
        subst ha
        try simp (disch := first | omega | (simp only [ints_length, List.length_replicate] <;> omega)) only [Sall,evalOp,init,binA_s,binE,binI,unE,convE,okNil,builtE,gv,TD.isAgg,resV,↓reduceIte,Nat.reduceEqDiff,reduceCtorEq,Nat.reduceAdd,Nat.reduceMul,Nat.reduceLeDiff,quietOp,blindOp,Int.reduceEq,Int.reduceLT,Int.reduceLE,Nat.reduceLT,tiA, h1]
        rw [List.take_length]
        refine ⟨rfl, hnx, hsm, .inr ⟨i, vs, o, g1, g2, by rw [seqLL_length], hr', by rw [seqLL_length]; exact hvl, fun j hj => ?_⟩⟩
        rw [seqLL_length] at hj
        obtain ⟨x, hx, hp⟩ := hal j hj
        rw [if_pos hj] at hp
        refine ⟨x, hx, ?_⟩
        rw [seqLL_getD _ _ _ hj, seqL_length]
        exact hp
theorem markGolfO_c (ty ty' lo hi : Nat) (S : Nat → Prop) (v : Value) (q p : Int) (ll : List (List Int)) (k0 : Int) (hk0 : 0 ≤ k0 ∧ k0 ≤ 268435456) (hn : ll.length ≤ 4194304) (ht0 : tot ll ≤ 4194304) (H : AH) (hS : ∀ i, S i → lo ≤ i ∧ i < hi) (hv : (Th.sl2 (Value.int .i64) ty ty' v ll).p H S) (hh : hi ≤ H.next) :
    ACalls Try.prog 8 [.agg #[.int .i64 q, .int .i64 p, v], .int .i64 k0] H (fun r H' => r = .int .i64 (k0 + tot ll) ∧ H.next ≤ H'.next ∧ (∀ i, ¬(lo ≤ i ∧ i < hi) → i < H.next → H'.row i = H.row i) ∧ Rd2 1 H' v (seqLL k0 ll)) := by
  refine acalls_of_awp [.tmp 4] Try.func8 (by kernel_rfl) rfl rfl (Nat.le_of_ble_eq_true rfl) (by kernel_rfl) ?_
  try simp (disch := first | omega | (simp only [ints_length, List.length_replicate] <;> omega)) only [Sall,evalOp,init,binA_s,binE,binI,unE,convE,okNil,builtE,gv,TD.isAgg,resV,↓reduceIte,Nat.reduceEqDiff,reduceCtorEq,Nat.reduceAdd,Nat.reduceMul,Nat.reduceLeDiff,quietOp,blindOp,Int.reduceEq,Int.reduceLT,Int.reduceLE,Nat.reduceLT,tiA,tiXA, true_and]
  have hv' := (Th.sl2 (Value.int .i64) ty ty' v ll).loc H (H.push ⟨24, true, [.int .i64 q, .int .i64 p, v]⟩) S S (fun _ h => h) (fun i r hi hr => by rw [AH.push_row, if_neg (by have := hS i hi; omega)]; exact hr) hv
  refine (markInt64SSo_c ty ty' S v ll k0 hk0 hn ht0 _ hv').fin ?_
  rintro H' ⟨h1, h2, h3⟩
  try simp (disch := first | omega | (simp only [ints_length, List.length_replicate] <;> omega)) only [Sall,evalOp,init,binA_s,binE,binI,unE,convE,okNil,builtE,gv,TD.isAgg,resV,↓reduceIte,Nat.reduceEqDiff,reduceCtorEq,Nat.reduceAdd,Nat.reduceMul,Nat.reduceLeDiff,quietOp,blindOp,Int.reduceEq,Int.reduceLT,Int.reduceLE,Nat.reduceLT,tiA,tiXA, true_and]
  rw [AH.push_next] at h1
  refine ⟨by omega, fun i hi' hi2 => ?_, sl2_rd2 h3⟩
  rw [h2 i (fun h => hi' (hS i h)), AH.push_row, if_neg (by omega)]
end Go.Proofs.Ytollphjompimjaa.A
end

section
set_option maxRecDepth 100000
set_option maxHeartbeats 2000000
namespace Go.Proofs.Ytollphjompimjaa.A
open Go Go.Abs Go.RowKit
theorem gridL_ok (k : Int) : (gridL k).length ≤ 100 ∧ tot (gridL k) ≤ 10000 ∧ ∀ l ∈ gridL k, l.length ≤ 10000 := by
  have h : (gridL k).length ≤ 100 ∧ tot (gridL k) ≤ 10000 := by
    by_cases hk : k = 2 ∨ k = 3 ∨ k = 5
    · rcases hk with rfl | rfl | rfl <;> decide +kernel
    · unfold gridL
      rw [if_neg hk]
      decide
  exact ⟨h.1, h.2, fun l hl => by have := tot_mem hl; omega⟩
theorem GridOfG_c (k : Int) (H : AH) :
    ACalls Try.prog 6 [.int .i64 k] H (fun r H' => ∃ u, r = .tuple #[.agg #[.int .i64 (gridQ k), .int .i64 (gridG k), u], .int .i64 (gridC k)] ∧ Ow H H' [.sl2 (Value.int .i64) 32 2 u (gridL k)]) := GridOf_c k H
theorem specGridOfG_c (k : Int) (H : AH) :
    ACalls Try.prog 5 [.int .i64 k] H (fun r H' => ∃ u, r = .tuple #[.agg #[.int .i64 (gridQ k), .int .i64 (gridG k), u], .int .i64 (gridC k)] ∧ Ow H H' [.sl2 (Value.int .i64) 32 2 u (gridL k)]) := specGridOf_c k H
theorem box_up {H : AH} (hs : Sc H) (ty : TypeId) (z cs : List Value) : ∃ K, K = (H.push ⟨ty, true, z⟩).setCells H.next cs ∧ Sc K ∧ Up H.next H K ∧ K.row H.next = some ⟨ty, true, cs⟩ ∧ K.next = H.next + 1 :=
  ⟨_, rfl, (hs.push _).set _ _, ((Up.refl _ _).push (Nat.le_refl _) _).set (Nat.le_refl _) _, by rw [AH.setCells_row, if_pos rfl, AH.push_row, if_pos rfl]; rfl, rfl⟩
theorem law_GridOf_c (a0 : Int) (H : AH) (b0 : -9223372036854775808 ≤ a0 ∧ a0 ≤ 9223372036854775807) :
    ACalls Try.prog 3 [.int .i64 a0] H (fun v _ => v = .bool true ∧ True) := by
  refine ACalls.wf (by kernel_rfl) fun hs => acalls_of_awp [.tmp 2] Try.func3 (by kernel_rfl) rfl rfl (Nat.le_of_ble_eq_true rfl) (by kernel_rfl) ?_
  obtain ⟨l1, l2, l3⟩ := gridL_ok a0
  try simp (disch := first | omega | (simp only [ints_length, List.length_replicate] <;> omega)) only [Sall,evalOp,init,binA_s,binE,binI,unE,convE,okNil,builtE,gv,TD.isAgg,resV,↓reduceIte,Nat.reduceEqDiff,reduceCtorEq,Nat.reduceAdd,Nat.reduceMul,Nat.reduceLeDiff,quietOp,blindOp,Int.reduceEq,Int.reduceLT,Int.reduceLE,Nat.reduceLT,tiA,tiXA, true_and]
  refine (specGridOfG_c a0 H).ex ?_
  rintro w0 H1 ow
  have hw := (ow.rd2 0 rfl).one
  refine Holds.mp ?_
  try simp (disch := first | omega | (simp only [ints_length, List.length_replicate] <;> omega)) only [Sall,evalOp,init,binA_s,binE,binI,unE,convE,okNil,builtE,gv,TD.isAgg,resV,↓reduceIte,Nat.reduceEqDiff,reduceCtorEq,Nat.reduceAdd,Nat.reduceMul,Nat.reduceLeDiff,quietOp,blindOp,Int.reduceEq,Int.reduceLT,Int.reduceLE,Nat.reduceLT,tiA,tiXA, hw]
  obtain ⟨H2, eH2, sc2, U2, e3, n2⟩ := box_up ow.sc 24 [.int .i64 0, .int .i64 0, .slice none 0 0] [.int .i64 (gridQ a0), .int .i64 (gridG a0), w0]
  rw [← eH2]
  have rw2 := (ow.rd2 0 rfl).same (U2.le ow.sc).row
  clear eH2
  refine (GridOfG_c a0 H2).ex ?_
  rintro g0 H3 og
  have hg := (og.rd2 0 rfl).one
  obtain ⟨S, hS, hp⟩ := og.at (k := 0) rfl
  generalize eL : gridL a0 = ll at *
  generalize eQ : gridQ a0 = q0 at *
  generalize eG : gridG a0 = p0 at *
  generalize eC : gridC a0 = c0 at *
  refine Holds.mp ?_
  try simp (disch := first | omega | (simp only [ints_length, List.length_replicate] <;> omega)) only [Sall,evalOp,init,binA_s,binE,binI,unE,convE,okNil,builtE,gv,TD.isAgg,resV,↓reduceIte,Nat.reduceEqDiff,reduceCtorEq,Nat.reduceAdd,Nat.reduceMul,Nat.reduceLeDiff,quietOp,blindOp,Int.reduceEq,Int.reduceLT,Int.reduceLE,Nat.reduceLT,tiA,tiXA, hg]
  obtain ⟨H4, eH4, sc4, U4, e5, n4⟩ := box_up og.sc 24 [.int .i64 0, .int .i64 0, .slice none 0 0] [.int .i64 q0, .int .i64 p0, g0]
  have rg4 := (og.rd2 0 rfl).same (U4.le og.sc).row
  have hp4 := (Th.sl2 (Value.int .i64) 32 2 g0 ll).loc H3 H4 S S (fun _ h => h) (fun i r hi hr => by rw [U4.row _ (hS i hi).2]; exact hr) hp
  have n3 := og.next
  have rw3 := rw2.same (og.old sc2)
  have rw4 := rw3.same (U4.le og.sc).row
  have e33 : H3.row H1.next = _ := og.old sc2 _ _ e3
  have e34 : H4.row H1.next = _ := (U4.le og.sc).row _ _ e33
  have ng : ¬ H1.next = H3.next := by omega
  rw [← eH4]
  clear eH4
  try simp (disch := first | omega | (simp only [ints_length, List.length_replicate] <;> omega)) only [Sall,evalOp,init,binA_s,binE,binI,unE,convE,okNil,builtE,gv,TD.isAgg,resV,↓reduceIte,Nat.reduceEqDiff,reduceCtorEq,Nat.reduceAdd,Nat.reduceMul,Nat.reduceLeDiff,quietOp,blindOp,Int.reduceEq,Int.reduceLT,Int.reduceLE,Nat.reduceLT,tiA,tiXA, ng, e33, hw, hg]
  refine (eqGolf_c g0 w0 q0 p0 ll (by omega) (fun y hy => by have := l3 y hy; omega) H4 rg4 rw4 rg4.one rw4.one).to ?_
  refine Holds.mp ?_
  try simp (disch := first | omega | (simp only [ints_length, List.length_replicate] <;> omega)) only [Sall,evalOp,init,binA_s,binE,binI,unE,convE,okNil,builtE,gv,TD.isAgg,resV,↓reduceIte,Nat.reduceEqDiff,reduceCtorEq,Nat.reduceAdd,Nat.reduceMul,Nat.reduceLeDiff,quietOp,blindOp,Int.reduceEq,Int.reduceLT,Int.reduceLE,Nat.reduceLT,tiA,tiXA, Bool.not_true, bne_self_eq_false, e5, hg]
  refine (markGolfO_c 32 2 H2.next H3.next S g0 q0 p0 ll _ (by omega) (by omega) (by omega) H4 hS hp4 (by omega)).fin ?_
  rintro H5 ⟨n5, sm5, rk5⟩
  have n23 : H1.next + 1 ≤ H2.next := by omega
  have e55 : H5.row H3.next = _ := (sm5 _ (by omega) (by omega)).trans e5
  have e35 : H5.row H1.next = _ := (sm5 _ (by omega) (by omega)).trans e34
  have rw5 : Rd2 1 H5 w0 ll := by
    obtain ⟨S', hS', hp'⟩ := ow.at (k := 0) rfl
    refine sl2_rd2 (S := S') ((Th.sl2 (Value.int .i64) 32 2 w0 ll).loc H1 H5 S' S' (fun _ h => h) (fun i r hi hr => ?_) hp')
    have h1 := (hS' i hi).2
    have h2 : H2.row i = some r := by rw [U2.row _ h1]; exact hr
    have h3 : H3.row i = some r := og.old sc2 _ _ h2
    have h4 : H4.row i = some r := (U4.le og.sc).row _ _ h3
    rw [sm5 i (by omega) (by omega)]
    exact h4
  refine Holds.mp ?_
  try simp (disch := first | omega | (simp only [ints_length, List.length_replicate] <;> omega)) only [Sall,evalOp,init,binA_s,binE,binI,unE,convE,okNil,builtE,gv,TD.isAgg,resV,↓reduceIte,Nat.reduceEqDiff,reduceCtorEq,Nat.reduceAdd,Nat.reduceMul,Nat.reduceLeDiff,quietOp,blindOp,Int.reduceEq,Int.reduceLT,Int.reduceLE,Nat.reduceLT,tiA,tiXA, e55, hg, Bool.not_true, bne_self_eq_false]
  refine (heldGolf_c g0 q0 p0 ll _ (by omega) (by omega) (by omega) H5 rk5).to ?_
  have hz : ¬ (1 : Int) + (tot ll : Int) < 0 := by omega
  refine Holds.mp ?_
  try simp (disch := first | omega | (simp only [ints_length, List.length_replicate] <;> omega)) only [Sall,evalOp,init,binA_s,binE,binI,unE,convE,okNil,builtE,gv,TD.isAgg,resV,↓reduceIte,Nat.reduceEqDiff,reduceCtorEq,Nat.reduceAdd,Nat.reduceMul,Nat.reduceLeDiff,quietOp,blindOp,Int.reduceEq,Int.reduceLT,Int.reduceLE,Nat.reduceLT,tiA,tiXA, hz, decide_false, bne_self_eq_false, hg]
  have cG := GridOfG_c a0 H5
  rw [eL, eQ, eG, eC] at cG
  refine ACalls.wf (by kernel_rfl) fun sc5 => cG.ex ?_
  rintro h0 H6 oh
  have hh := (oh.rd2 0 rfl).one
  refine Holds.mp ?_
  try simp (disch := first | omega | (simp only [ints_length, List.length_replicate] <;> omega)) only [Sall,evalOp,init,binA_s,binE,binI,unE,convE,okNil,builtE,gv,TD.isAgg,resV,↓reduceIte,Nat.reduceEqDiff,reduceCtorEq,Nat.reduceAdd,Nat.reduceMul,Nat.reduceLeDiff,quietOp,blindOp,Int.reduceEq,Int.reduceLT,Int.reduceLE,Nat.reduceLT,tiA,tiXA, hh]
  obtain ⟨H7, eH7, sc7, U7, e7, n7⟩ := box_up oh.sc 24 [.int .i64 0, .int .i64 0, .slice none 0 0] [.int .i64 q0, .int .i64 p0, h0]
  have n6 := oh.next
  have rw7 := (rw5.same (oh.old sc5)).same (U7.le oh.sc).row
  have rh7 := (oh.rd2 0 rfl).same (U7.le oh.sc).row
  have rk7 := (rk5.same (oh.old sc5)).same (U7.le oh.sc).row
  have e36 : H6.row H1.next = _ := oh.old sc5 _ _ e35
  have e56 : H6.row H3.next = _ := oh.old sc5 _ _ e55
  have e37 : H7.row H1.next = _ := (U7.le oh.sc).row _ _ e36
  have e57 : H7.row H3.next = _ := (U7.le oh.sc).row _ _ e56
  have ng1 : ¬ H1.next = H6.next := by omega
  have ng2 : ¬ H3.next = H6.next := by omega
  rw [← eH7]
  clear eH7
  try simp (disch := first | omega | (simp only [ints_length, List.length_replicate] <;> omega)) only [Sall,evalOp,init,binA_s,binE,binI,unE,convE,okNil,builtE,gv,TD.isAgg,resV,↓reduceIte,Nat.reduceEqDiff,reduceCtorEq,Nat.reduceAdd,Nat.reduceMul,Nat.reduceLeDiff,quietOp,blindOp,Int.reduceEq,Int.reduceLT,Int.reduceLE,Nat.reduceLT,tiA,tiXA, ng1, ng2, e36, hh, hw]
  refine (eqGolf_c h0 w0 q0 p0 ll (by omega) (fun y hy => by have := l3 y hy; omega) H7 rh7 rw7 rh7.one rw7.one).to ?_
  refine Holds.mp ?_
  try simp (disch := first | omega | (simp only [ints_length, List.length_replicate] <;> omega)) only [Sall,evalOp,init,binA_s,binE,binI,unE,convE,okNil,builtE,gv,TD.isAgg,resV,↓reduceIte,Nat.reduceEqDiff,reduceCtorEq,Nat.reduceAdd,Nat.reduceMul,Nat.reduceLeDiff,quietOp,blindOp,Int.reduceEq,Int.reduceLT,Int.reduceLE,Nat.reduceLT,tiA,tiXA, Bool.not_true, bne_self_eq_false, e57, hg]
  refine (heldGolf_c g0 q0 p0 ll _ (by omega) (by omega) (by omega) H7 rk7).to ?_
  refine Holds.mp ?_
  try simp (disch := first | omega | (simp only [ints_length, List.length_replicate] <;> omega)) only [Sall,evalOp,init,binA_s,binE,binI,unE,convE,okNil,builtE,gv,TD.isAgg,resV,↓reduceIte,Nat.reduceEqDiff,reduceCtorEq,Nat.reduceAdd,Nat.reduceMul,Nat.reduceLeDiff,quietOp,blindOp,Int.reduceEq,Int.reduceLT,Int.reduceLE,Nat.reduceLT,tiA,tiXA, hz, decide_false, bne_self_eq_false, hg]
end Go.Proofs.Ytollphjompimjaa.A
end

section
set_option maxRecDepth 100000
namespace Go.Proofs.Ytollphjompimjaa.A
open Go Go.Abs Go.RowKit
section
variable {K : Type} {enc : TypeId × Value → K} {W : World} {base b0 : Nat} {spare : Nat → Bool} {held : Bool}
theorem uInt : Try.prog.underlying 2 = some (.int .i64) := by kernel_rfl
end
end Go.Proofs.Ytollphjompimjaa.A
end

section
set_option maxRecDepth 100000
namespace Go.Proofs.Ytollphjompimjaa.A
open Go Go.Abs Go.RowKit
section
variable {K : Type} {enc : TypeId × Value → K} {W : World} {b0 : Nat} {spare : Nat → Bool} {held : Bool} {v : Value} {d : DataW K} {p : List MemPlace}
theorem open_I (h : DataW.Trod enc Try.prog W 0 spare held 2 v d p) (hok : Value.okWide Try.prog W .any b0 2 v) : ∃ a, v = .int .i64 a ∧ -9223372036854775808 ≤ a ∧ a ≤ 9223372036854775807 := by
  obtain ⟨fuel, h⟩ := h
  obtain ⟨a, ha, hx⟩ := DataW.trod_int uInt h
  unfold Value.okWide at hok
  rw [uInt] at hok
  have h2 : Cell.okWide Try.prog W .any b0 2 v := hok
  unfold Cell.okWide at h2
  rw [uInt] at h2
  have h3 : Cell.ok Try.prog W .any b0 2 v := h2
  unfold Cell.ok at h3
  rw [uInt] at h3
  cases v with
  | int k n =>
    obtain ⟨rfl, h4, h5⟩ := h3
    exact ⟨n, rfl, h4, h5⟩
  | _ => exact False.elim h3
end
end Go.Proofs.Ytollphjompimjaa.A
end
