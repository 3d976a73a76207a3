/- Contracts: sums over the meetings; codes of results. -/
import Derived.Test.YtbmpkihggipciaaC7
set_option linter.unusedSimpArgs false
set_option linter.unusedVariables false
set_option maxRecDepth 100000
--LEN ints_length, List.length_replicate
namespace Go.Proofs.Ytbmpkihggipciaa.A
open Go Go.Abs Go.RowKit

theorem zeros_int1 (n : Nat) : zeros n [.int .i64 0] = ints (List.replicate n 0) := by
  have h := zeros_ints n 1
  rw [Nat.mul_one] at h; exact h

theorem points1_c (b own : Int) (H : AH) : ACalls Try.prog 162 [.int .i64 b, .int .i64 own] H (is (.int .i64 own) H) := by
  refine acalls_of_awp [.tmp 4] Try.func162 (by kernel_rfl) rfl rfl (Nat.le_of_ble_eq_true rfl) (by kernel_rfl) ?_
  try simp (disch := first | omega | (simp only [ints_length, List.length_replicate]; done) | (simp only [ints_length, List.length_replicate]; omega)) only [Sall,evalOp,init,binE,binI,unE,convE,okNil,builtE,gv,TD.isAgg,resV,↓reduceIte,Nat.reduceEqDiff,reduceCtorEq,Nat.reduceAdd,Nat.reduceMul,Nat.reduceLeDiff,quietOp,blindOp,Int.reduceEq,Int.reduceLT,Int.reduceLE,Nat.reduceLT,ti2,ti3,ti4,ti79,ti80,ti28,ti25,ti31,ti22,ti33,ti24,ti67,ti111,ti145,ti136,ti137,ti117,ti100, is]

theorem second1_c (b own : Int) (pp : Nat) (pv : Value) (m : Nat) (pts : List Int) (H : AH) (hp : H.row pp = some ⟨28, true, [pv]⟩) (hv : Rd 1 H pv m pts) (hb : 0 ≤ b ∧ b < m) :
    ACalls Try.prog 180 [.int .i64 b, .int .i64 own, .pointer (some ⟨pp, 0, none⟩)] H (is (.int .i64 (pts.getD b.toNat 0)) H) := by
  refine acalls_of_awp [.tmp 5] Try.func180 (by kernel_rfl) rfl rfl (Nat.le_of_ble_eq_true rfl) (by kernel_rfl) ?_
  obtain ⟨i, o, u, c, r, rfl, hr, hc, hs, _⟩ := hv.get (by omega)
  have h1 := hs b.toNat (by omega)
  try simp (disch := first | omega | (simp only [ints_length, List.length_replicate]; done) | (simp only [ints_length, List.length_replicate]; omega)) only [Sall,evalOp,init,binE,binI,unE,convE,okNil,builtE,gv,TD.isAgg,resV,↓reduceIte,Nat.reduceEqDiff,reduceCtorEq,Nat.reduceAdd,Nat.reduceMul,Nat.reduceLeDiff,quietOp,blindOp,Int.reduceEq,Int.reduceLT,Int.reduceLE,Nat.reduceLT,ti2,ti3,ti4,ti79,ti80,ti28,ti25,ti31,ti22,ti33,ti24,ti67,ti111,ti145,ti136,ti137,ti117,ti100, hp, hr, h1, is]
  exact hb

theorem summed1_c (rd a b own z : Int) (g2 : FuncId) (cap2 : List Value) (oi fi i n : Nat) (outl : List Int) (H : AH) (ho : H.row oi = some ⟨28, true, [.slice (some ⟨i, 0, some 1⟩) n n]⟩)
    (hi : H.row i = some ⟨2, true, ints outl⟩) (hf : H.row fi = some ⟨111, true, [.func (.func g2) #[] cap2.toArray]⟩) (hl : outl.length = n) (ha : 0 ≤ a ∧ a < n)
    (hc : ACalls Try.prog g2 (.int .i64 b :: .int .i64 own :: cap2) H (is (.int .i64 z) H)) :
    ACalls Try.prog 164 [.int .i64 rd, .int .i64 a, .int .i64 b, .int .i64 own, .pointer (some ⟨oi, 0, none⟩), .pointer (some ⟨fi, 0, none⟩)] H (fun _ H' => H' = H.setCells i (ints (addAt outl a z))) := by
  refine acalls_of_awp [] Try.func164 (by kernel_rfl) rfl rfl (Nat.le_of_ble_eq_true rfl) (by kernel_rfl) ?_
  refine draw_id (by kernel_rfl) (by kernel_rfl) ?_
  have hc' : ACalls Try.prog g2 ([.int .i64 b, .int .i64 own] ++ cap2) H (is (.int .i64 z) H) := hc
  try simp (disch := first | omega | (simp only [ints_length, List.length_replicate]; done) | (simp only [ints_length, List.length_replicate]; omega)) only [Sall,evalOp,init,binE,binI,unE,convE,okNil,builtE,gv,TD.isAgg,resV,↓reduceIte,Nat.reduceEqDiff,reduceCtorEq,Nat.reduceAdd,Nat.reduceMul,Nat.reduceLeDiff,quietOp,blindOp,Int.reduceEq,Int.reduceLT,Int.reduceLE,Nat.reduceLT,ti2,ti3,ti4,ti79,ti80,ti28,ti25,ti31,ti22,ti33,ti24,ti67,ti111,ti145,ti136,ti137,ti117,ti100, ho, hi, hf, ints_get?]
  refine ⟨by omega, hc'.to ?_⟩
  refine ⟨.inr (.inr (LE.refl _)), ?_⟩
  try simp (disch := first | omega | (simp only [ints_length, List.length_replicate]; done) | (simp only [ints_length, List.length_replicate]; omega)) only [Sall,evalOp,init,binE,binI,unE,convE,okNil,builtE,gv,TD.isAgg,resV,↓reduceIte,Nat.reduceEqDiff,reduceCtorEq,Nat.reduceAdd,Nat.reduceMul,Nat.reduceLeDiff,quietOp,blindOp,Int.reduceEq,Int.reduceLT,Int.reduceLE,Nat.reduceLT,ti2,ti3,ti4,ti79,ti80,ti28,ti25,ti31,ti22,ti33,ti24,ti67,ti111,ti145,ti136,ti137,ti117,ti100, ho, hi, hf, ints_set]
  refine ⟨by omega, by omega, .inr (.inl (by kernel_rfl)), ?_⟩
  rfl

theorem summed_c (n : Nat) (v : Value) (k : Nat) (l : List Int) (x : Value) (ll : List (List Int)) (g : FuncId) (cap : List Value) (f : Int → Int → Int) (H : AH)
    (hb : schedB n k l = true) (hres : resB n k l ll = true) (hl : ll.length ≤ 4294967296) (hv : Rd 14 H v k l) (hx : Rd2 1 H x ll)
    (hc : ∀ (H' : AH) (b own : Int), Up H.next H H' → (0 ≤ b ∧ b < n) → (0 ≤ own ∧ own ≤ 2) → ACalls Try.prog g (.int .i64 b :: .int .i64 own :: cap) H' (is (.int .i64 (f b own)) H')) :
    ACalls Try.prog 121 [.agg #[.int .i64 n, v], x, .func (.func g) #[] cap.toArray] H (fun u H' => Up H.next H H' ∧ Fr 1 2 H.next H'.next H' u n (sumsF n f (meets n l ll ll.length))) := by
  refine ACalls.wf (by kernel_rfl) fun hs => acalls_of_awp [.tmp 6] Try.func121 (by kernel_rfl) rfl rfl (Nat.le_of_ble_eq_true rfl) (by kernel_rfl) ?_
  obtain ⟨hn, hk40, hrounds⟩ := schedB_at hb
  have hone := hv.one
  have ne0 : ¬ H.next = H.next + 1 + 2 := by omega
  try simp (disch := first | omega | (simp only [ints_length, List.length_replicate]; done) | (simp only [ints_length, List.length_replicate]; omega)) only [Sall,evalOp,init,binE,binI,unE,convE,okNil,builtE,gv,TD.isAgg,resV,↓reduceIte,Nat.reduceEqDiff,reduceCtorEq,Nat.reduceAdd,Nat.reduceMul,Nat.reduceLeDiff,quietOp,blindOp,Int.reduceEq,Int.reduceLT,Int.reduceLE,Nat.reduceLT,ti2,ti3,ti4,ti79,ti80,ti28,ti25,ti31,ti22,ti33,ti24,ti67,ti111,ti145,ti136,ti137,ti117,ti100, hone, zeros_int1, ne0]
  refine ⟨by omega, ?_⟩
  obtain ⟨Hg, eg⟩ : ∃ Hg, Hg = ((((H.push ⟨33, true, [.int .i64 n, v]⟩).push ⟨111, true, [.func (.func g) #[] cap.toArray]⟩).push ⟨2, true, ints (List.replicate n 0)⟩).push ⟨28, true, [.slice none 0 0]⟩).setCells (H.next + 1 + 2) [.slice (some ⟨H.next + 2, 0, some 1⟩) n n] := ⟨_, rfl⟩
  have up0 : Up H.next H Hg := by rw [eg]; exact (((((Up.refl _ H).push (by omega) _).push (by simp only [AH.push_next]; omega) _).push (by simp only [AH.push_next]; omega) _).push (by simp only [AH.push_next]; omega) _).set (by omega) _
  have ng : Hg.next = H.next + 4 := by rw [eg]; rfl
  have g0 : Hg.row H.next = some ⟨33, true, [.int .i64 n, v]⟩ := by rw [eg]; simp [AH.setCells_row, AH.push_row, AH.push_next] <;> (repeat rw [if_neg (by omega)])
  have g1 : Hg.row (H.next + 1) = some ⟨111, true, [.func (.func g) #[] cap.toArray]⟩ := by rw [eg]; simp [AH.setCells_row, AH.push_row, AH.push_next] <;> (repeat rw [if_neg (by omega)])
  have g2 : Hg.row (H.next + 2) = some ⟨2, true, ints (List.replicate n 0)⟩ := by rw [eg]; simp [AH.setCells_row, AH.push_row, AH.push_next] <;> (repeat rw [if_neg (by omega)])
  have g3 : Hg.row (H.next + 3) = some ⟨28, true, [.slice (some ⟨H.next + 2, 0, some 1⟩) n n]⟩ := by rw [eg]; simp [AH.setCells_row, AH.push_row, AH.push_next] <;> (repeat rw [if_neg (by omega)])
  rw [← eg]
  clear eg
  try simp (disch := first | omega | (simp only [ints_length, List.length_replicate]; done) | (simp only [ints_length, List.length_replicate]; omega)) only [Sall,evalOp,init,binE,binI,unE,convE,okNil,builtE,gv,TD.isAgg,resV,↓reduceIte,Nat.reduceEqDiff,reduceCtorEq,Nat.reduceAdd,Nat.reduceMul,Nat.reduceLeDiff,quietOp,blindOp,Int.reduceEq,Int.reduceLT,Int.reduceLE,Nat.reduceLT,ti2,ti3,ti4,ti79,ti80,ti28,ti25,ti31,ti22,ti33,ti24,ti67,ti111,ti145,ti136,ti137,ti117,ti100, g0, List.mem_cons, List.not_mem_nil, or_false, forall_eq_or_imp, forall_eq, Array.size_empty]
  refine (games_c n v k l x ll 164 [.pointer (some ⟨H.next + 3, 0, none⟩), .pointer (some ⟨H.next + 1, 0, none⟩)]
    (fun es H1 => Up H.next H H1 ∧ H.next + 4 ≤ H1.next ∧ H1.row (H.next + 1) = some ⟨111, true, [.func (.func g) #[] cap.toArray]⟩ ∧ H1.row (H.next + 2) = some ⟨2, true, ints (sumsF n f es)⟩ ∧ H1.row (H.next + 3) = some ⟨28, true, [.slice (some ⟨H.next + 2, 0, some 1⟩) n n]⟩)
    H Hg hb hres ⟨up0, by omega, g1, by rw [sumsF_nil]; exact g2, g3⟩ hl hv hx (fun es H' hS i r hr => by rw [hS.1.row i (hs _ _ hr), hr]) ?_ ?_).mono ?_
  · rintro es H1 H2 ⟨u1, m1, k1, k2, k3⟩ hn2 hr2
    exact ⟨⟨by have := u1.next; omega, fun i hi => by rw [hr2 i (by omega), u1.row i hi]⟩, by omega, by rw [hr2 _ (by omega), k1], by rw [hr2 _ (by omega), k2], by rw [hr2 _ (by omega), k3]⟩
  · rintro es rd p q o H1 ⟨u1, m1, k1, k2, k3⟩ hn1 hrd hp hq ho
    have hc1 := hc H1 q o u1 hq ho
    have hlen := sumsF_length n f es
    refine (summed1_c rd p q o _ g cap (H.next + 3) (H.next + 1) (H.next + 2) n _ H1 k3 k2 k1 hlen hp hc1).mono ?_
    rintro _ H2 rfl
    refine ⟨⟨u1.set (by omega) _, by rw [AH.setCells_next]; omega, ?_, ?_, ?_⟩, by rw [AH.setCells_next]; omega, fun i hi1 hi2 => ?_⟩
    · rw [AH.setCells_row, if_neg (by omega), k1]
    · rw [AH.setCells_row, if_pos rfl, k2, sumsF_append]; rfl
    · rw [AH.setCells_row, if_neg (by omega), k3]
    · rw [AH.setCells_row, if_neg (by omega)]
  · rintro _ H2 ⟨⟨u1, m1, k1, k2, k3⟩, hn2⟩
    refine Holds.mp ?_
    try simp (disch := first | omega | (simp only [ints_length, List.length_replicate]; done) | (simp only [ints_length, List.length_replicate]; omega)) only [Sall,evalOp,init,binE,binI,unE,convE,okNil,builtE,gv,TD.isAgg,resV,↓reduceIte,Nat.reduceEqDiff,reduceCtorEq,Nat.reduceAdd,Nat.reduceMul,Nat.reduceLeDiff,quietOp,blindOp,Int.reduceEq,Int.reduceLT,Int.reduceLE,Nat.reduceLT,ti2,ti3,ti4,ti79,ti80,ti28,ti25,ti31,ti22,ti33,ti24,ti67,ti111,ti145,ti136,ti137,ti117,ti100, k3]
    refine ⟨u1, sumsF_length n f _ |>.trans (Nat.mul_one n).symm, .inr ⟨H.next + 2, by omega, by omega, rfl, k2⟩⟩

theorem points_c (n : Nat) (v : Value) (k : Nat) (l : List Int) (x : Value) (ll : List (List Int)) (H : AH) (hb : schedB n k l = true) (hres : resB n k l ll = true) (hl : ll.length ≤ 4294967296) (hv : Rd 14 H v k l) (hx : Rd2 1 H x ll) :
    ACalls Try.prog 120 [.agg #[.int .i64 n, v], x] H (fun u H' => Up H.next H H' ∧ Fr 1 2 H.next H'.next H' u n (sumsF n (fun _ o => o) (meets n l ll ll.length))) := by
  refine ACalls.wf (by kernel_rfl) fun hs => acalls_of_awp [.tmp 4] Try.func120 (by kernel_rfl) rfl rfl (Nat.le_of_ble_eq_true rfl) (by kernel_rfl) ?_
  have hone := hv.one
  have up : Up H.next H (H.push ⟨33, true, [.int .i64 n, v]⟩) := (Up.refl _ H).push (Nat.le_refl _) _
  have hv1 := hv.same (up.le hs).row
  have hx1 := hx.same (up.le hs).row
  try simp (disch := first | omega | (simp only [ints_length, List.length_replicate]; done) | (simp only [ints_length, List.length_replicate]; omega)) only [Sall,evalOp,init,binE,binI,unE,convE,okNil,builtE,gv,TD.isAgg,resV,↓reduceIte,Nat.reduceEqDiff,reduceCtorEq,Nat.reduceAdd,Nat.reduceMul,Nat.reduceLeDiff,quietOp,blindOp,Int.reduceEq,Int.reduceLT,Int.reduceLE,Nat.reduceLT,ti2,ti3,ti4,ti79,ti80,ti28,ti25,ti31,ti22,ti33,ti24,ti67,ti111,ti145,ti136,ti137,ti117,ti100, hone]
  refine (summed_c n v k l x ll 162 [] (fun _ o => o) _ hb hres hl hv1 hx1 fun H' b own _ _ _ => points1_c b own H').mono ?_
  rintro u H' ⟨up2, hf⟩
  refine Holds.mp ?_
  try simp (disch := first | omega | (simp only [ints_length, List.length_replicate]; done) | (simp only [ints_length, List.length_replicate]; omega)) only [Sall,evalOp,init,binE,binI,unE,convE,okNil,builtE,gv,TD.isAgg,resV,↓reduceIte,Nat.reduceEqDiff,reduceCtorEq,Nat.reduceAdd,Nat.reduceMul,Nat.reduceLeDiff,quietOp,blindOp,Int.reduceEq,Int.reduceLT,Int.reduceLE,Nat.reduceLT,ti2,ti3,ti4,ti79,ti80,ti28,ti25,ti31,ti22,ti33,ti24,ti67,ti111,ti145,ti136,ti137,ti117,ti100, true_and]
  exact ⟨up.trans up2 (Nat.le_succ _), hf.wide (Nat.le_succ _) (Nat.le_refl _)⟩
end Go.Proofs.Ytbmpkihggipciaa.A
