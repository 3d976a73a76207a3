/- Contracts: rounds in another order, the best order, on both sides. -/
import Derived.Test.YtbmpkihggipciaaC17
import Derived.Test.YtbmpkihggipciaaC21
import Derived.Test.YtbmpkihggipciaaPl15
import Derived.Test.YtbmpkihggipciaaAbs20
set_option linter.unusedSimpArgs false
set_option linter.unusedVariables false
set_option maxRecDepth 100000
set_option maxHeartbeats 2000000
--LEN ints_length, List.length_replicate, List.length_set
namespace Go.Proofs.Ytbmpkihggipciaa.A
open Go Go.Abs Go.RowKit

theorem cloneNilR_c (H : AH) : ACalls Try.prog 127 [.slice none 0 0] H (is (.slice none 0 0) H) := by
  refine acalls_of_awp [.tmp 2] Try.func127 (by kernel_rfl) rfl rfl (Nat.le_of_ble_eq_true rfl) (by kernel_rfl) ?_
  try simp (disch := first | omega | (simp only [ints_length, List.length_replicate, List.length_set]; done) | (simp only [ints_length, List.length_replicate, List.length_set]; omega)) only [Sall,evalOp,init,binE,binI,unE,convE,okNil,builtE,gv,TD.isAgg,resV,↓reduceIte,Nat.reduceEqDiff,reduceCtorEq,Nat.reduceAdd,Nat.reduceMul,Nat.reduceLeDiff,quietOp,blindOp,Int.reduceEq,Int.reduceLT,Int.reduceLE,Nat.reduceLT,ti2,ti3,ti4,ti79,ti80,ti28,ti25,ti31,ti22,ti33,ti24,ti67,ti111,ti100, binE, Option.isNone_none, is]

theorem with0_c (q : Int) (v : Value) (H : AH) (hone : v.oneCell' = true) : ACalls Try.prog 74 [.agg #[.int .i64 q, v], .slice none 0 0] H (is (.agg #[.int .i64 q, .slice none 0 0]) H) := by
  refine acalls_up (by simp [flat, Abs.scal]) (acalls_of_awp [.cell 4 33] Try.func74 (by kernel_rfl) rfl rfl (Nat.le_of_ble_eq_true rfl) (by kernel_rfl) ?_)
  try simp (disch := first | omega | (simp only [ints_length, List.length_replicate, List.length_set]; done) | (simp only [ints_length, List.length_replicate, List.length_set]; omega)) only [Sall,evalOp,init,binE,binI,unE,convE,okNil,builtE,gv,TD.isAgg,resV,↓reduceIte,Nat.reduceEqDiff,reduceCtorEq,Nat.reduceAdd,Nat.reduceMul,Nat.reduceLeDiff,quietOp,blindOp,Int.reduceEq,Int.reduceLT,Int.reduceLE,Nat.reduceLT,ti2,ti3,ti4,ti79,ti80,ti28,ti25,ti31,ti22,ti33,ti24,ti67,ti111,ti100, hone]
  refine draw_id (by kernel_rfl) (by kernel_rfl) ?_
  try simp (disch := first | omega | (simp only [ints_length, List.length_replicate, List.length_set]; done) | (simp only [ints_length, List.length_replicate, List.length_set]; omega)) only [Sall,evalOp,init,binE,binI,unE,convE,okNil,builtE,gv,TD.isAgg,resV,↓reduceIte,Nat.reduceEqDiff,reduceCtorEq,Nat.reduceAdd,Nat.reduceMul,Nat.reduceLeDiff,quietOp,blindOp,Int.reduceEq,Int.reduceLT,Int.reduceLE,Nat.reduceLT,ti2,ti3,ti4,ti79,ti80,ti28,ti25,ti31,ti22,ti33,ti24,ti67,ti111,ti100, hone]
  refine (cloneNilR_c _).to ?_
  try simp (disch := first | omega | (simp only [ints_length, List.length_replicate, List.length_set]; done) | (simp only [ints_length, List.length_replicate, List.length_set]; omega)) only [Sall,evalOp,init,binE,binI,unE,convE,okNil,builtE,gv,TD.isAgg,resV,↓reduceIte,Nat.reduceEqDiff,reduceCtorEq,Nat.reduceAdd,Nat.reduceMul,Nat.reduceLeDiff,quietOp,blindOp,Int.reduceEq,Int.reduceLT,Int.reduceLE,Nat.reduceLT,ti2,ti3,ti4,ti79,ti80,ti28,ti25,ti31,ti22,ti33,ti24,ti67,ti111,ti100, hone]
  refine ⟨.inr (.inr (LE.refl _)), .inr (.inl (by kernel_rfl)), ?_⟩
  exact (((Up.refl _ H).push (by omega) _).push (Nat.le_succ _) _).set (by omega) _

theorem l01Reordered_c (n : Nat) (v : Value) (k : Nat) (l : List Int) (w : Value) (y : List Int) (H : AH) (hv : Rd 14 H v k l) (hw : Rd 1 H w y.length y) (hy : ∀ x ∈ y, 0 ≤ x ∧ x < (k : Int)) (hyl : y.length ≤ 40) (hk : k ≤ 4294967296) :
    ACalls Try.prog 67 [.agg #[.int .i64 n, v], w] H (FrS n y.length (reoL l y) H) := by
  refine ACalls.wf (by kernel_rfl) fun hs => acalls_of_awp [.cell 4 33] Try.func67 (by kernel_rfl) rfl rfl (Nat.le_of_ble_eq_true rfl) (by kernel_rfl) ?_
  have hone := hv.one
  try simp (disch := first | omega | (simp only [ints_length, List.length_replicate, List.length_set]; done) | (simp only [ints_length, List.length_replicate, List.length_set]; omega)) only [Sall,evalOp,init,binE,binI,unE,convE,okNil,builtE,gv,TD.isAgg,resV,↓reduceIte,Nat.reduceEqDiff,reduceCtorEq,Nat.reduceAdd,Nat.reduceMul,Nat.reduceLeDiff,quietOp,blindOp,Int.reduceEq,Int.reduceLT,Int.reduceLE,Nat.reduceLT,ti2,ti3,ti4,ti79,ti80,ti28,ti25,ti31,ti22,ti33,ti24,ti67,ti111,ti100, hone, zeros_zero]
  refine awp_loop (fun m t H' => ∃ (c : Nat) (u : Value) (lo hi : Nat), m = y.length - c ∧ c ≤ y.length ∧ t 6 = .int .i64 c ∧ t 1 = w ∧ t 2 = .pointer (some ⟨H.next, 0, none⟩) ∧ t 4 = .pointer (some ⟨H.next + 1, 0, none⟩) ∧ t 5 = .pointer (some ⟨H.next + 3, 0, none⟩) ∧
    Up H.next H H' ∧ H'.row H.next = some ⟨33, true, [.int .i64 n, v]⟩ ∧ H'.row (H.next + 1) = some ⟨33, true, [.int .i64 0, .slice none 0 0]⟩ ∧ H'.row (H.next + 3) = some ⟨33, true, [.int .i64 n, u]⟩ ∧ Fr 14 80 lo hi H' u c (reoL l (y.take c)) ∧ H.next + 1 < lo ∧ hi ≤ H'.next ∧ (hi ≤ H.next + 3 ∨ H.next + 3 < lo) ∧ H.next + 4 ≤ H'.next ∧ Sc H') y.length ?_ ?_
  · refine ⟨0, .slice (some ⟨H.next + 2, 0, some 14⟩) 0 0, H.next + 2, H.next + 3, by omega, by omega, ?_⟩
    try simp (disch := first | omega | (simp only [ints_length, List.length_replicate, List.length_set]; done) | (simp only [ints_length, List.length_replicate, List.length_set]; omega)) only [Sall,evalOp,init,binE,binI,unE,convE,okNil,builtE,gv,TD.isAgg,resV,↓reduceIte,Nat.reduceEqDiff,reduceCtorEq,Nat.reduceAdd,Nat.reduceMul,Nat.reduceLeDiff,quietOp,blindOp,Int.reduceEq,Int.reduceLT,Int.reduceLE,Nat.reduceLT,ti2,ti3,ti4,ti79,ti80,ti28,ti25,ti31,ti22,ti33,ti24,ti67,ti111,ti100, Int.natCast_zero, List.take_zero]
    refine ⟨((((((Up.refl _ H).push (by omega) _).push (Nat.le_succ _) _).push (Nat.le_succ_of_le (Nat.le_succ _)) _).push (Nat.le_succ_of_le (Nat.le_succ_of_le (Nat.le_succ _))) _).set (by omega) _), by rw [if_neg (by omega), if_neg (by omega)], ⟨by simp [reoL], .inr ⟨H.next + 2, by omega, by omega, rfl, ?_⟩⟩, by omega, by omega, ((((Sc.push hs _).push _).push _).push _).set _ _⟩
    simp [AH.push_row, AH.setCells_row, AH.push_next, reoL, ints]
  · rintro m t H' ⟨c, u, lo, hi, hm, hcn, h6, h1, h2, h4, h5, hup, hr0, hr1, hr3, hfr, hlo, hhi, hdj, hnx, hsc⟩
    have hup1 := hup.next
    have hw' : Rd 1 H' w y.length y := hw.same (hup.le hs).row
    try simp (disch := first | omega | (simp only [ints_length, List.length_replicate, List.length_set]; done) | (simp only [ints_length, List.length_replicate, List.length_set]; omega)) only [Sall,evalOp,init,binE,binI,unE,convE,okNil,builtE,gv,TD.isAgg,resV,↓reduceIte,Nat.reduceEqDiff,reduceCtorEq,Nat.reduceAdd,Nat.reduceMul,Nat.reduceLeDiff,quietOp,blindOp,Int.reduceEq,Int.reduceLT,Int.reduceLE,Nat.reduceLT,ti2,ti3,ti4,ti79,ti80,ti28,ti25,ti31,ti22,ti33,ti24,ti67,ti111,ti100, h6, h1, builtE, hw'.len]
    refine condC_dec (fun h => ?_) (fun h => ?_)
    · have hv' : Rd 14 H' v k l := hv.same (hup.le hs).row
      obtain ⟨i, o, uu, cc, r, rfl, hr, hc', hg, _⟩ := hw'.get (by omega)
      have g1 := hg c (by omega)
      have hx := hy (y.getD c 0) (by rw [List.getD_eq_getElem?_getD, List.getElem?_eq_getElem (by omega)]; exact List.getElem_mem _)
      have htk : y.take (c + 1) = y.take c ++ [y.getD c 0] := by rw [List.take_add_one, List.getElem?_eq_getElem (by omega), List.getD_eq_getElem?_getD, List.getElem?_eq_getElem (by omega)]; rfl
      revert g1 hx htk
      generalize y.getD c 0 = x0
      intro g1 hx htk
      obtain ⟨x, rfl⟩ : ∃ x : Nat, x0 = x := ⟨x0.toNat, by omega⟩
      obtain ⟨i2, o2, u2, c2, r2, rfl, hr2, hc2, _, hg2⟩ := hv'.get (by omega)
      have hrl : (rnd l x).length = 14 := rnd_length l x k hv.1 (by omega)
      have hrl2 : ((l.drop (x * 14)).take 14).length = 14 := hrl
      have hsg := hg2 (x * 14) 14 (by omega)
      have hrd : ints ((l.drop (x * 14)).take 14) = ints (rnd l x) := rfl
      have hre := reoL_snoc l (y.take c) (x : Int)
      rw [Int.toNat_natCast] at hre
      refine draw_id (by kernel_rfl) (by kernel_rfl) ?_
      try simp (disch := first | omega | (simp only [ints_length, List.length_replicate, List.length_set]; done) | (simp only [ints_length, List.length_replicate, List.length_set]; omega)) only [Sall,evalOp,init,binE,binI,unE,convE,okNil,builtE,gv,TD.isAgg,resV,↓reduceIte,Nat.reduceEqDiff,reduceCtorEq,Nat.reduceAdd,Nat.reduceMul,Nat.reduceLeDiff,quietOp,blindOp,Int.reduceEq,Int.reduceLT,Int.reduceLE,Nat.reduceLT,ti2,ti3,ti4,ti79,ti80,ti28,ti25,ti31,ti22,ti33,ti24,ti67,ti111,ti100, h6, h1, h2, h4, h5, hr0, hr3, hr, g1, hr2, hsg, hrd, hrl, hrl2, ints_length, slCells, zeros_one]
      (repeat refine And.intro (by omega) ?_)
      refine ⟨.inr (.inr (hsc.le _)), ?_⟩
      obtain ⟨H2, e2⟩ : ∃ H2, H2 = H'.push ⟨80, true, ints (rnd l x)⟩ := ⟨_, rfl⟩
      have n2 : H2.next = H'.next + 1 := by rw [e2]; rfl
      have s2 : ∀ i, i < H'.next → H2.row i = H'.row i := fun i hi => by rw [e2, AH.push_row, if_neg (by omega)]
      have sc2 : Sc H2 := by rw [e2]; exact hsc.push _
      rw [← e2]
      clear e2
      refine appE_frS (k := 14) (lo := lo) (hi := hi) (l := reoL l (y.take c)) (m := rnd l x) (hfr.same fun i _ hi => s2 i (by omega)) rfl (by omega) hrl (by omega) (by decide) (by omega) (by omega) sc2 ?_
      intro v' H3 n3 s3 sc3 f3
      have hr33 : H3.row (H.next + 3) = some ⟨33, true, [.int .i64 n, u]⟩ := by rw [s3 _ (by omega) (by omega), s2 _ (by omega), hr3]
      have o3 := f3.rd.one
      refine ⟨.inr (.inl (by kernel_rfl)), ?_⟩
      try simp (disch := first | omega | (simp only [ints_length, List.length_replicate, List.length_set]; done) | (simp only [ints_length, List.length_replicate, List.length_set]; omega)) only [Sall,evalOp,init,binE,binI,unE,convE,okNil,builtE,gv,TD.isAgg,resV,↓reduceIte,Nat.reduceEqDiff,reduceCtorEq,Nat.reduceAdd,Nat.reduceMul,Nat.reduceLeDiff,quietOp,blindOp,Int.reduceEq,Int.reduceLT,Int.reduceLE,Nat.reduceLT,ti2,ti3,ti4,ti79,ti80,ti28,ti25,ti31,ti22,ti33,ti24,ti67,ti111,ti100, h6, h1, h2, h4, h5, hr33, o3, w64, List.set_cons_succ, List.set_cons_zero]
      refine ⟨.inr (.inl (by kernel_rfl)), y.length - (c + 1), by omega, c + 1, v', H2.next, H2.next + 1, rfl, by omega, rfl, Up.set ⟨by omega, fun i hi => by rw [s3 i (by omega) (by omega), s2 i (by omega), hup.row i hi]⟩ (by omega) _, ?_⟩
      have q0 : H3.row H.next = H'.row H.next := by rw [s3 _ (by omega) (by omega), s2 _ (by omega)]
      have q1 : H3.row (H.next + 1) = H'.row (H.next + 1) := by rw [s3 _ (by omega) (by omega), s2 _ (by omega)]
      refine ⟨by rw [q0, hr0], by rw [q1, hr1], rfl, ?_, by omega, by omega, by omega, by omega, sc3.set _ _⟩
      rw [htk, hre]
      exact f3.same fun i hi _ => by rw [AH.setCells_row, if_neg (by omega)]
    · have hc : c = y.length := by omega
      subst hc
      rw [List.take_length] at hfr
      try simp (disch := first | omega | (simp only [ints_length, List.length_replicate, List.length_set]; done) | (simp only [ints_length, List.length_replicate, List.length_set]; omega)) only [Sall,evalOp,init,binE,binI,unE,convE,okNil,builtE,gv,TD.isAgg,resV,↓reduceIte,Nat.reduceEqDiff,reduceCtorEq,Nat.reduceAdd,Nat.reduceMul,Nat.reduceLeDiff,quietOp,blindOp,Int.reduceEq,Int.reduceLT,Int.reduceLE,Nat.reduceLT,ti2,ti3,ti4,ti79,ti80,ti28,ti25,ti31,ti22,ti33,ti24,ti67,ti111,ti100, h4, h5, hr1, hr3]
      refine ⟨u, rfl, hup.set (by omega) _, ?_⟩
      exact (hfr.same (H' := H'.setCells (H.next + 1) [.int .i64 n, u]) fun i hi _ => by rw [AH.setCells_row, if_neg (by omega)]).wide (by omega) (by rw [AH.setCells_next]; omega)
/-- What is known while orders are looked at: the least cost, and the order that has it. -/
def BoS (n : Nat) (l : List Int) (mc fc : Nat) (Hc : AH) (es : List (List Int)) (H : AH) : Prop :=
  Hc.next ≤ H.next ∧ (∀ i, i < Hc.next → ¬ i = fc → ¬ i = mc → H.row i = Hc.row i) ∧ H.row mc = some ⟨2, true, [.int .i64 (boFold n l es).2]⟩ ∧ ∃ fv, H.row fc = some ⟨28, true, [fv]⟩ ∧
    ((es = [] ∧ fv = .slice none 0 0) ∨ ∃ fi, Hc.next ≤ fi ∧ fi < H.next ∧ fv = .slice (some ⟨fi, 0, some 1⟩) (boFold n l es).1.length (boFold n l es).1.length ∧ H.row fi = some ⟨2, true, ints (boFold n l es).1⟩)

theorem boClosure_c (n : Nat) (v : Value) (k : Nat) (l : List Int) (hb : schedB n k l = true) (hk : 1 ≤ k ∧ k ≤ 7) (sc mc fc : Nat) (Hc : AH) (hv : ∀ H', (∀ i, i < Hc.next → ¬ i = fc → ¬ i = mc → H'.row i = Hc.row i) → Rd 14 H' v k l) (hsc : Hc.row sc = some ⟨33, true, [.int .i64 n, v]⟩) (hscn : sc < Hc.next) (hne : ¬ sc = mc ∧ ¬ sc = fc ∧ ¬ mc = fc) (hmc : mc < Hc.next) (hfc : fc < Hc.next) (es : List (List Int)) (y : List Int) (w : Value) (H : AH) (hS : BoS n l mc fc Hc es H)
    (hy : ∀ x ∈ y, 0 ≤ x ∧ x < (k : Int)) (hyl : y.length = k) (hw : Cp H w y) :
    ACalls Try.prog 73 [w, .pointer (some ⟨sc, 0, none⟩), .pointer (some ⟨mc, 0, none⟩), .pointer (some ⟨fc, 0, none⟩)] H (fun r H' => r = .bool true ∧ BoS n l mc fc Hc (es ++ [y]) H' ∧ H.next ≤ H'.next ∧ ∀ i, i < H.next → ¬ i = fc → ¬ i = mc → H'.row i = H.row i) := by
  refine ACalls.wf (by kernel_rfl) fun hs => acalls_of_awp [.tmp 5] Try.func73 (by kernel_rfl) rfl rfl (Nat.le_of_ble_eq_true rfl) (by kernel_rfl) ?_
  obtain ⟨hnx, hrow, hm, fv, hfv, hcase⟩ := hS
  have hvH := hv H hrow
  have hone := hvH.one
  have hll := hvH.1
  have hsc' : H.row sc = some ⟨33, true, [.int .i64 n, v]⟩ := by rw [hrow _ hscn hne.2.1 hne.1]; exact hsc
  try simp (disch := first | omega | (simp only [ints_length, List.length_replicate, List.length_set]; done) | (simp only [ints_length, List.length_replicate, List.length_set]; omega)) only [Sall,evalOp,init,binE,binI,unE,convE,okNil,builtE,gv,TD.isAgg,resV,↓reduceIte,Nat.reduceEqDiff,reduceCtorEq,Nat.reduceAdd,Nat.reduceMul,Nat.reduceLeDiff,quietOp,blindOp,Int.reduceEq,Int.reduceLT,Int.reduceLE,Nat.reduceLT,ti2,ti3,ti4,ti79,ti80,ti28,ti25,ti31,ti22,ti33,ti24,ti67,ti111,ti100, hsc']
  refine (with0_c n v H hone).to ?_
  try simp (disch := first | omega | (simp only [ints_length, List.length_replicate, List.length_set]; done) | (simp only [ints_length, List.length_replicate, List.length_set]; omega)) only [Sall,evalOp,init,binE,binI,unE,convE,okNil,builtE,gv,TD.isAgg,resV,↓reduceIte,Nat.reduceEqDiff,reduceCtorEq,Nat.reduceAdd,Nat.reduceMul,Nat.reduceLeDiff,quietOp,blindOp,Int.reduceEq,Int.reduceLT,Int.reduceLE,Nat.reduceLT,ti2,ti3,ti4,ti79,ti80,ti28,ti25,ti31,ti22,ti33,ti24,ti67,ti111,ti100, hone, push_setCells, builtE, hw.1.len]
  obtain ⟨H1, e1⟩ : ∃ H1, H1 = H.push ⟨33, true, [.int .i64 n, .slice none 0 0]⟩ := ⟨_, rfl⟩
  have n1 : H1.next = H.next + 1 := by rw [e1]; rfl
  have s1 : ∀ i, i < H.next → H1.row i = H.row i := fun i hi => by rw [e1, AH.push_row, if_neg (by omega)]
  have r1 : H1.row H.next = some ⟨33, true, [.int .i64 n, .slice none 0 0]⟩ := by rw [e1, AH.push_row, if_pos rfl]
  have sc1 : Sc H1 := by rw [e1]; exact Sc.push hs _
  rw [← e1]
  clear e1
  refine awp_loop (fun m t H' => ∃ (c : Nat) (u : Value) (lo hi : Nat), m = y.length - c ∧ c ≤ y.length ∧ t 14 = .int .i64 c ∧ t 13 = .int .i64 y.length ∧ t 12 = w ∧ t 0 = w ∧ t 1 = .pointer (some ⟨sc, 0, none⟩) ∧ t 2 = .pointer (some ⟨mc, 0, none⟩) ∧ t 3 = .pointer (some ⟨fc, 0, none⟩) ∧ t 6 = .pointer (some ⟨H.next, 0, none⟩) ∧
    Up H.next H H' ∧ H.next < H'.next ∧ H'.row H.next = some ⟨33, true, [.int .i64 n, u]⟩ ∧ Fr 14 80 lo hi H' u c (reoL l (y.take c)) ∧ H.next < lo ∧ lo ≤ hi ∧ hi ≤ H'.next ∧ Sc H') y.length ?_ ?_
  · refine ⟨0, .slice none 0 0, H.next + 1, H.next + 1, by omega, by omega, ?_⟩
    try simp (disch := first | omega | (simp only [ints_length, List.length_replicate, List.length_set]; done) | (simp only [ints_length, List.length_replicate, List.length_set]; omega)) only [Sall,evalOp,init,binE,binI,unE,convE,okNil,builtE,gv,TD.isAgg,resV,↓reduceIte,Nat.reduceEqDiff,reduceCtorEq,Nat.reduceAdd,Nat.reduceMul,Nat.reduceLeDiff,quietOp,blindOp,Int.reduceEq,Int.reduceLT,Int.reduceLE,Nat.reduceLT,ti2,ti3,ti4,ti79,ti80,ti28,ti25,ti31,ti22,ti33,ti24,ti67,ti111,ti100, Int.natCast_zero, List.take_zero]
    exact ⟨⟨by omega, s1⟩, by omega, r1, ⟨by simp [reoL], .inl ⟨rfl, rfl⟩⟩, by omega, by omega, sc1⟩
  · rintro m t H' ⟨c, u, lo, hi, hm', hcn, h14, h13, h12, h0, h1, h2, h3, h6, hup, hnx1, hr6, hfr, hlo, hlh, hhi, hsc1⟩
    have hup1 := hup.next
    try simp (disch := first | omega | (simp only [ints_length, List.length_replicate, List.length_set]; done) | (simp only [ints_length, List.length_replicate, List.length_set]; omega)) only [Sall,evalOp,init,binE,binI,unE,convE,okNil,builtE,gv,TD.isAgg,resV,↓reduceIte,Nat.reduceEqDiff,reduceCtorEq,Nat.reduceAdd,Nat.reduceMul,Nat.reduceLeDiff,quietOp,blindOp,Int.reduceEq,Int.reduceLT,Int.reduceLE,Nat.reduceLT,ti2,ti3,ti4,ti79,ti80,ti28,ti25,ti31,ti22,ti33,ti24,ti67,ti111,ti100, h14, h13]
    refine condC_dec (fun h => ?_) (fun h => ?_)
    · have hw' : Rd 1 H' w y.length y := hw.1.same (hup.le hs).row
      have hv' : Rd 14 H' v k l := hvH.same (hup.le hs).row
      have hsc2 : H'.row sc = some ⟨33, true, [.int .i64 n, v]⟩ := by rw [hup.row _ (by omega)]; exact hsc'
      obtain ⟨i, o, uu, cc, r, rfl, hr, hc', hg, _⟩ := hw'.get (by omega)
      have g1 := hg c (by omega)
      have hx := hy (y.getD c 0) (by rw [List.getD_eq_getElem?_getD, List.getElem?_eq_getElem (by omega)]; exact List.getElem_mem _)
      have htk : y.take (c + 1) = y.take c ++ [y.getD c 0] := by rw [List.take_add_one, List.getElem?_eq_getElem (by omega), List.getD_eq_getElem?_getD, List.getElem?_eq_getElem (by omega)]; rfl
      revert g1 hx htk
      generalize y.getD c 0 = x0
      intro g1 hx htk
      obtain ⟨x, rfl⟩ : ∃ x : Nat, x0 = x := ⟨x0.toNat, by omega⟩
      obtain ⟨i2, o2, u2, c2, r2, rfl, hr2, hc2, _, hg2⟩ := hv'.get (by omega)
      have hrl : (rnd l x).length = 14 := rnd_length l x k hll (by omega)
      have hrl2 : ((l.drop (x * 14)).take 14).length = 14 := hrl
      have hsg := hg2 (x * 14) 14 (by omega)
      have hrd : ints ((l.drop (x * 14)).take 14) = ints (rnd l x) := rfl
      have hre := reoL_snoc l (y.take c) (x : Int)
      rw [Int.toNat_natCast] at hre
      try simp (disch := first | omega | (simp only [ints_length, List.length_replicate, List.length_set]; done) | (simp only [ints_length, List.length_replicate, List.length_set]; omega)) only [Sall,evalOp,init,binE,binI,unE,convE,okNil,builtE,gv,TD.isAgg,resV,↓reduceIte,Nat.reduceEqDiff,reduceCtorEq,Nat.reduceAdd,Nat.reduceMul,Nat.reduceLeDiff,quietOp,blindOp,Int.reduceEq,Int.reduceLT,Int.reduceLE,Nat.reduceLT,ti2,ti3,ti4,ti79,ti80,ti28,ti25,ti31,ti22,ti33,ti24,ti67,ti111,ti100, h14, h13, h12, h0, h1, h2, h3, h6, hr, g1]
      (repeat refine And.intro (by omega) ?_)
      refine draw_id (by kernel_rfl) (by kernel_rfl) ?_
      try simp (disch := first | omega | (simp only [ints_length, List.length_replicate, List.length_set]; done) | (simp only [ints_length, List.length_replicate, List.length_set]; omega)) only [Sall,evalOp,init,binE,binI,unE,convE,okNil,builtE,gv,TD.isAgg,resV,↓reduceIte,Nat.reduceEqDiff,reduceCtorEq,Nat.reduceAdd,Nat.reduceMul,Nat.reduceLeDiff,quietOp,blindOp,Int.reduceEq,Int.reduceLT,Int.reduceLE,Nat.reduceLT,ti2,ti3,ti4,ti79,ti80,ti28,ti25,ti31,ti22,ti33,ti24,ti67,ti111,ti100, h14, h13, h12, h0, h1, h2, h3, h6, hsc2, hr6, hr, g1, hr2, hsg, hrd, hrl, hrl2, ints_length, slCells, zeros_one]
      (repeat refine And.intro (by omega) ?_)
      refine ⟨.inr (.inr (hsc1.le _)), ?_⟩
      obtain ⟨H2, e2⟩ : ∃ H2, H2 = H'.push ⟨80, true, ints (rnd l x)⟩ := ⟨_, rfl⟩
      have n2 : H2.next = H'.next + 1 := by rw [e2]; rfl
      have s2 : ∀ i, i < H'.next → H2.row i = H'.row i := fun i hi => by rw [e2, AH.push_row, if_neg (by omega)]
      have sc2 : Sc H2 := by rw [e2]; exact hsc1.push _
      rw [← e2]
      clear e2
      refine appE_frS (k := 14) (lo := lo) (hi := hi) (l := reoL l (y.take c)) (m := rnd l x) (hfr.same fun i _ hi => s2 i (by omega)) rfl (by omega) hrl (by omega) (by decide) (by omega) (by omega) sc2 ?_
      intro v' H3 n3 s3 sc3 f3
      have hr33 : H3.row H.next = some ⟨33, true, [.int .i64 n, u]⟩ := by rw [s3 _ (by omega) (by omega), s2 _ (by omega), hr6]
      have o3 := f3.rd.one
      refine ⟨.inr (.inl (by kernel_rfl)), ?_⟩
      try simp (disch := first | omega | (simp only [ints_length, List.length_replicate, List.length_set]; done) | (simp only [ints_length, List.length_replicate, List.length_set]; omega)) only [Sall,evalOp,init,binE,binI,unE,convE,okNil,builtE,gv,TD.isAgg,resV,↓reduceIte,Nat.reduceEqDiff,reduceCtorEq,Nat.reduceAdd,Nat.reduceMul,Nat.reduceLeDiff,quietOp,blindOp,Int.reduceEq,Int.reduceLT,Int.reduceLE,Nat.reduceLT,ti2,ti3,ti4,ti79,ti80,ti28,ti25,ti31,ti22,ti33,ti24,ti67,ti111,ti100, h14, h13, h12, h0, h1, h2, h3, h6, hr33, o3, w64, List.set_cons_succ, List.set_cons_zero]
      refine ⟨.inr (.inl (by kernel_rfl)), y.length - (c + 1), by omega, c + 1, v', H2.next, H2.next + 1, rfl, by omega, rfl, Up.set ⟨by omega, fun i hi => by rw [s3 i (by omega) (by omega), s2 i (by omega), hup.row i hi]⟩ (by omega) _, by omega, rfl, ?_, by omega, by omega, by omega, sc3.set _ _⟩
      rw [htk, hre]
      exact f3.same fun i hi _ => by rw [AH.setCells_row, if_neg (by omega)]
    · have hc : c = y.length := by omega
      subst hc
      rw [List.take_length] at hfr
      have hok := reoL_ok hb hll hy (by omega)
      have hou := hfr.rd.one
      try simp (disch := first | omega | (simp only [ints_length, List.length_replicate, List.length_set]; done) | (simp only [ints_length, List.length_replicate, List.length_set]; omega)) only [Sall,evalOp,init,binE,binI,unE,convE,okNil,builtE,gv,TD.isAgg,resV,↓reduceIte,Nat.reduceEqDiff,reduceCtorEq,Nat.reduceAdd,Nat.reduceMul,Nat.reduceLeDiff,quietOp,blindOp,Int.reduceEq,Int.reduceLT,Int.reduceLE,Nat.reduceLT,ti2,ti3,ti4,ti79,ti80,ti28,ti25,ti31,ti22,ti33,ti24,ti67,ti111,ti100, h6, hr6, hou]
      refine (cost_c n u y.length (reoL l y) H' hok hfr.rd (by omega)).to ?_
      have hcO : costM (carM n y.length (reoL l y) y.length) n = costO n l y := rfl
      rw [hcO]
      have hm2 : H'.row mc = some ⟨2, true, [.int .i64 (boFold n l es).2]⟩ := by rw [hup.row _ (by omega)]; exact hm
      have hf2 : H'.row fc = some ⟨28, true, [fv]⟩ := by rw [hup.row _ (by omega)]; exact hfv
      have hcp : Cp H' w y := ⟨hw.1.same (hup.le hs).row, fun h0 => by omega⟩
      have hsnoc := boFold_snoc n l es y
      have yes : ∀ (H'' : AH), ((boFold n l es).2 < 0 ∨ costO n l y < (boFold n l es).2) → H'.next ≤ H''.next → (∀ i, i < H'.next → ¬ i = fc → ¬ i = mc → H''.row i = H'.row i) → H''.row mc = some ⟨2, true, [.int .i64 (costO n l y)]⟩ →
          (∃ fi, H'.next ≤ fi ∧ fi < H''.next ∧ H''.row fc = some ⟨28, true, [.slice (some ⟨fi, 0, some 1⟩) y.length y.length]⟩ ∧ H''.row fi = some ⟨2, true, ints y⟩) →
          BoS n l mc fc Hc (es ++ [y]) H'' ∧ H.next ≤ H''.next ∧ ∀ i, i < H.next → ¬ i = fc → ¬ i = mc → H''.row i = H.row i := by
        rintro H'' hyes a1 a2 a3 ⟨fi, b1, b2, b3, b4⟩
        have e : boFold n l (es ++ [y]) = (y, costO n l y) := by rw [hsnoc]; unfold boStep; rw [if_pos hyes]
        refine ⟨⟨by omega, fun i hi h1 h2 => by rw [a2 i (by omega) h1 h2, hup.row i (by omega), hrow i hi h1 h2], by rw [e]; exact a3, _, b3, .inr ⟨fi, by omega, b2, by rw [e], by rw [e]; exact b4⟩⟩, by omega, fun i hi h1 h2 => by rw [a2 i (by omega) h1 h2, hup.row i hi]⟩
      have clone : ∀ (Q : Value → AH → Prop), (∀ fi H'', H'.next ≤ fi → fi < H''.next → (∀ i, i < H'.next → H''.row i = H'.row i) → H'.next ≤ H''.next → H''.row fi = some ⟨2, true, ints y⟩ → Q (.slice (some ⟨fi, 0, some 1⟩) y.length y.length) H'') → ACalls Try.prog 76 [w] H' Q := by
        intro Q hQ
        refine (cloneI_c w y H' hcp (by omega)).mono ?_
        rintro x H3 ⟨up3, hf3⟩
        obtain ⟨fi, q1, q2, rfl, q3⟩ := hf3.get (by omega)
        exact hQ fi H3 q1 q2 (fun i hi => up3.row i hi) up3.next q3
      have nfm : ¬ fc = mc := fun e => hne.2.2 e.symm
      by_cases q1 : (boFold n l es).2 < 0
      · try simp (disch := first | omega | (simp only [ints_length, List.length_replicate, List.length_set]; done) | (simp only [ints_length, List.length_replicate, List.length_set]; omega)) only [Sall,evalOp,init,binE,binI,unE,convE,okNil,builtE,gv,TD.isAgg,resV,↓reduceIte,Nat.reduceEqDiff,reduceCtorEq,Nat.reduceAdd,Nat.reduceMul,Nat.reduceLeDiff,quietOp,blindOp,Int.reduceEq,Int.reduceLT,Int.reduceLE,Nat.reduceLT,ti2,ti3,ti4,ti79,ti80,ti28,ti25,ti31,ti22,ti33,ti24,ti67,ti111,ti100, h0, h1, h2, h3, hm2, q1, decide_true]
        refine clone _ ?_
        intro fi H'' b1 b2 b3 b4 b5
        have hm3 : H''.row mc = some ⟨2, true, [.int .i64 (boFold n l es).2]⟩ := by rw [b3 _ (by omega)]; exact hm2
        have hf3 : H''.row fc = some ⟨28, true, [fv]⟩ := by rw [b3 _ (by omega)]; exact hf2
        refine Holds.mp ?_
        try simp (disch := first | omega | (simp only [ints_length, List.length_replicate, List.length_set]; done) | (simp only [ints_length, List.length_replicate, List.length_set]; omega)) only [Sall,evalOp,init,binE,binI,unE,convE,okNil,builtE,gv,TD.isAgg,resV,↓reduceIte,Nat.reduceEqDiff,reduceCtorEq,Nat.reduceAdd,Nat.reduceMul,Nat.reduceLeDiff,quietOp,blindOp,Int.reduceEq,Int.reduceLT,Int.reduceLE,Nat.reduceLT,ti2,ti3,ti4,ti79,ti80,ti28,ti25,ti31,ti22,ti33,ti24,ti67,ti111,ti100, h2, h3, hm3, hf3, hne.2.2, nfm]
        obtain ⟨y1, _, _⟩ := yes ((H''.setCells fc [.slice (some ⟨fi, 0, some 1⟩) y.length y.length]).setCells mc [.int .i64 (costO n l y)]) (.inl q1) (by simp only [AH.setCells_next]; omega) (fun i hi h1 h2 => by rw [AH.setCells_row, if_neg h2, AH.setCells_row, if_neg h1, b3 i hi]) (by rw [AH.setCells_row, if_pos rfl, AH.setCells_row, if_neg hne.2.2, hm3]; rfl)
          ⟨fi, b1, by simp only [AH.setCells_next]; omega, by rw [AH.setCells_row, if_neg nfm, AH.setCells_row, if_pos rfl, hf3]; rfl, by rw [AH.setCells_row, if_neg (by omega), AH.setCells_row, if_neg (by omega)]; exact b5⟩
        exact ⟨y1, by omega, fun i hi h1 h2 => by rw [if_neg h2, if_neg h1, b3 i (by omega), hup.row i hi]⟩
      · by_cases q2 : costO n l y < (boFold n l es).2
        · try simp (disch := first | omega | (simp only [ints_length, List.length_replicate, List.length_set]; done) | (simp only [ints_length, List.length_replicate, List.length_set]; omega)) only [Sall,evalOp,init,binE,binI,unE,convE,okNil,builtE,gv,TD.isAgg,resV,↓reduceIte,Nat.reduceEqDiff,reduceCtorEq,Nat.reduceAdd,Nat.reduceMul,Nat.reduceLeDiff,quietOp,blindOp,Int.reduceEq,Int.reduceLT,Int.reduceLE,Nat.reduceLT,ti2,ti3,ti4,ti79,ti80,ti28,ti25,ti31,ti22,ti33,ti24,ti67,ti111,ti100, h0, h1, h2, h3, hm2, q1, q2, decide_true, decide_false]
          refine clone _ ?_
          intro fi H'' b1 b2 b3 b4 b5
          have hm3 : H''.row mc = some ⟨2, true, [.int .i64 (boFold n l es).2]⟩ := by rw [b3 _ (by omega)]; exact hm2
          have hf3 : H''.row fc = some ⟨28, true, [fv]⟩ := by rw [b3 _ (by omega)]; exact hf2
          refine Holds.mp ?_
          try simp (disch := first | omega | (simp only [ints_length, List.length_replicate, List.length_set]; done) | (simp only [ints_length, List.length_replicate, List.length_set]; omega)) only [Sall,evalOp,init,binE,binI,unE,convE,okNil,builtE,gv,TD.isAgg,resV,↓reduceIte,Nat.reduceEqDiff,reduceCtorEq,Nat.reduceAdd,Nat.reduceMul,Nat.reduceLeDiff,quietOp,blindOp,Int.reduceEq,Int.reduceLT,Int.reduceLE,Nat.reduceLT,ti2,ti3,ti4,ti79,ti80,ti28,ti25,ti31,ti22,ti33,ti24,ti67,ti111,ti100, h2, h3, hm3, hf3, hne.2.2, nfm]
          obtain ⟨y1, _, _⟩ := yes ((H''.setCells fc [.slice (some ⟨fi, 0, some 1⟩) y.length y.length]).setCells mc [.int .i64 (costO n l y)]) (.inr q2) (by simp only [AH.setCells_next]; omega) (fun i hi h1 h2 => by rw [AH.setCells_row, if_neg h2, AH.setCells_row, if_neg h1, b3 i hi]) (by rw [AH.setCells_row, if_pos rfl, AH.setCells_row, if_neg hne.2.2, hm3]; rfl)
            ⟨fi, b1, by simp only [AH.setCells_next]; omega, by rw [AH.setCells_row, if_neg nfm, AH.setCells_row, if_pos rfl, hf3]; rfl, by rw [AH.setCells_row, if_neg (by omega), AH.setCells_row, if_neg (by omega)]; exact b5⟩
          exact ⟨y1, by omega, fun i hi h1 h2 => by rw [if_neg h2, if_neg h1, b3 i (by omega), hup.row i hi]⟩
        · try simp (disch := first | omega | (simp only [ints_length, List.length_replicate, List.length_set]; done) | (simp only [ints_length, List.length_replicate, List.length_set]; omega)) only [Sall,evalOp,init,binE,binI,unE,convE,okNil,builtE,gv,TD.isAgg,resV,↓reduceIte,Nat.reduceEqDiff,reduceCtorEq,Nat.reduceAdd,Nat.reduceMul,Nat.reduceLeDiff,quietOp,blindOp,Int.reduceEq,Int.reduceLT,Int.reduceLE,Nat.reduceLT,ti2,ti3,ti4,ti79,ti80,ti28,ti25,ti31,ti22,ti33,ti24,ti67,ti111,ti100, h0, h1, h2, h3, hm2, q1, q2, decide_false]
          have e : boFold n l (es ++ [y]) = boFold n l es := by rw [hsnoc]; unfold boStep; rw [if_neg (by omega)]
          refine ⟨⟨by omega, fun i hi h1 h2 => by rw [hup.row i (by omega), hrow i hi h1 h2], by rw [e]; exact hm2, fv, hf2, ?_⟩, by omega, fun i hi _ _ => hup.row i hi⟩
          rcases hcase with ⟨rfl, hnil⟩ | ⟨fi, c1, c2, c3, c4⟩
          · exact absurd (show (boFold n l []).2 < 0 by rw [boFold_nil]; decide) q1
          · right; rw [e]; exact ⟨fi, c1, by omega, c3, by rw [hup.row fi (by omega)]; exact c4⟩
theorem BestOrder_c (q : Int) (v : Value) (k : Nat) (l : List Int) (H : AH) (hv : Rd 14 H v k l) (hk : k ≤ 4294967296) :
    ACalls Try.prog 29 [.agg #[.int .i64 q, v]] H (fun r H' => ∃ u, r = .tuple #[u, .int .i64 (boN q k l), .int .i64 (boC q k l)] ∧ Up H.next H H' ∧ Fr 1 2 H.next H'.next H' u (boR q k l).length (boR q k l)) := by
  refine ACalls.wf (by kernel_rfl) fun hs => acalls_of_awp [.tmp 2, .tmp 3, .tmp 4] Try.func29 (by kernel_rfl) rfl rfl (Nat.le_of_ble_eq_true rfl) (by kernel_rfl) ?_
  have hone := hv.one
  have up : Up H.next H (H.push ⟨33, true, [.int .i64 q, v]⟩) := (Up.refl _ H).push (Nat.le_refl _) _
  have e1 : (H.push ⟨33, true, [.int .i64 q, v]⟩).row H.next = some ⟨33, true, [.int .i64 q, v]⟩ := by rw [AH.push_row, if_pos rfl]
  have n1 : (H.push ⟨33, true, [.int .i64 q, v]⟩).next = H.next + 1 := rfl
  have sc1 : Sc (H.push ⟨33, true, [.int .i64 q, v]⟩) := Sc.push hs _
  try simp (disch := first | omega | (simp only [ints_length, List.length_replicate, List.length_set]; done) | (simp only [ints_length, List.length_replicate, List.length_set]; omega)) only [Sall,evalOp,init,binE,binI,unE,convE,okNil,builtE,gv,TD.isAgg,resV,↓reduceIte,Nat.reduceEqDiff,reduceCtorEq,Nat.reduceAdd,Nat.reduceMul,Nat.reduceLeDiff,quietOp,blindOp,Int.reduceEq,Int.reduceLT,Int.reduceLE,Nat.reduceLT,ti2,ti3,ti4,ti79,ti80,ti28,ti25,ti31,ti22,ti33,ti24,ti67,ti111,ti100, hone]
  revert up e1 n1 sc1
  generalize H.push ⟨33, true, [.int .i64 q, v]⟩ = H1
  intro up e1 n1 sc1
  have hv1 := hv.same (up.le hs).row
  refine (carryCode_c q v k l H1 hv1 hk).to ?_
  by_cases hok : codeC q k l = 0
  · obtain ⟨hb, hk1⟩ := codeC_rounds hok
    obtain ⟨h2, _, _⟩ := schedB_at hb
    obtain ⟨n, rfl⟩ : ∃ n : Nat, q = n := ⟨q.toNat, by omega⟩
    have e0 : ((0 : Int) == 0) = true := rfl
    have e00 : ((0 : Int) != 0) = false := rfl
    have e3 : ((3 : Int) != 0) = true := rfl
    rw [hok]
    by_cases h7 : 7 < k
    · have hbo : boC n k l = 3 := by unfold boC; rw [if_pos hok, if_pos h7]
      have h7' : (7 : Int) < (k : Int) := by omega
      unfold boR boN
      rw [hbo, if_neg (by decide), if_neg (by decide)]
      try simp (disch := first | omega | (simp only [ints_length, List.length_replicate, List.length_set]; done) | (simp only [ints_length, List.length_replicate, List.length_set]; omega)) only [Sall,evalOp,init,binE,binI,unE,convE,okNil,builtE,gv,TD.isAgg,resV,↓reduceIte,Nat.reduceEqDiff,reduceCtorEq,Nat.reduceAdd,Nat.reduceMul,Nat.reduceLeDiff,quietOp,blindOp,Int.reduceEq,Int.reduceLT,Int.reduceLE,Nat.reduceLT,ti2,ti3,ti4,ti79,ti80,ti28,ti25,ti31,ti22,ti33,ti24,ti67,ti111,ti100, e0, e1, builtE, hv1.len, h7', decide_true, e3]
      exact ⟨_, rfl, up, ⟨rfl, .inl ⟨rfl, rfl⟩⟩⟩
    · have hbo : boC n k l = 0 := by unfold boC; rw [if_pos hok, if_neg h7]
      have h7' : ¬ (7 : Int) < (k : Int) := by omega
      unfold boR boN
      rw [hbo, if_pos rfl, if_pos rfl, Int.toNat_natCast]
      have zz : zeros 1 [.int .i64 0] = [.int .i64 0] := rfl
      try simp (disch := first | omega | (simp only [ints_length, List.length_replicate, List.length_set]; done) | (simp only [ints_length, List.length_replicate, List.length_set]; omega)) only [Sall,evalOp,init,binE,binI,unE,convE,okNil,builtE,gv,TD.isAgg,resV,↓reduceIte,Nat.reduceEqDiff,reduceCtorEq,Nat.reduceAdd,Nat.reduceMul,Nat.reduceLeDiff,quietOp,blindOp,Int.reduceEq,Int.reduceLT,Int.reduceLE,Nat.reduceLT,ti2,ti3,ti4,ti79,ti80,ti28,ti25,ti31,ti22,ti33,ti24,ti67,ti111,ti100, e0, e1, builtE, hv1.len, h7', decide_false, e00, zz, slCells]
      obtain ⟨H2, e2⟩ : ∃ H2, H2 = (((H1.push ⟨28, true, [.slice none 0 0]⟩).push ⟨2, true, [.int .i64 0]⟩).setCells (H.next + 2) [.int .i64 (-1)]).push ⟨2, true, [.int .i64 0]⟩ := ⟨_, rfl⟩
      have up2 : Up H1.next H1 H2 := by rw [e2]; exact ((((Up.refl _ H1).push (by omega) _).push (by simp only [AH.push_next]; omega) _).set (by omega) _).push (by simp only [AH.push_next, AH.setCells_next]; omega) _
      have n2 : H2.next = H.next + 4 := by rw [e2]; simp only [AH.push_next, AH.setCells_next]; omega
      have r0 : H2.row H.next = some ⟨33, true, [.int .i64 n, v]⟩ := by rw [up2.row _ (by omega), e1]
      have r1 : H2.row (H.next + 1) = some ⟨28, true, [.slice none 0 0]⟩ := by rw [e2]; simp [AH.setCells_row, AH.setCells_next, AH.push_row, AH.push_next, n1]
      have r2 : H2.row (H.next + 2) = some ⟨2, true, [.int .i64 (-1)]⟩ := by rw [e2]; simp [AH.setCells_row, AH.setCells_next, AH.push_row, AH.push_next, n1]
      have r3 : H2.row (H.next + 3) = some ⟨2, true, [.int .i64 0]⟩ := by rw [e2]; simp [AH.setCells_row, AH.setCells_next, AH.push_row, AH.push_next, n1]
      have sc2 : Sc H2 := by rw [e2]; exact (((sc1.push _).push _).set _ _).push _
      have z1 : ¬ H.next = H.next + 1 + 2 := by omega
      have z2 : ¬ H.next = H.next + 1 + 1 := by omega
      try simp (disch := first | omega | (simp only [ints_length, List.length_replicate, List.length_set]; done) | (simp only [ints_length, List.length_replicate, List.length_set]; omega)) only [Sall,evalOp,init,binE,binI,unE,convE,okNil,builtE,gv,TD.isAgg,resV,↓reduceIte,Nat.reduceEqDiff,reduceCtorEq,Nat.reduceAdd,Nat.reduceMul,Nat.reduceLeDiff,quietOp,blindOp,Int.reduceEq,Int.reduceLT,Int.reduceLE,Nat.reduceLT,ti2,ti3,ti4,ti79,ti80,ti28,ti25,ti31,ti22,ti33,ti24,ti67,ti111,ti100, n1, z1, z2, e1]
      rw [← e2]
      clear e2
      have upp : Up H.next H H2 := up.trans up2 (by omega)
      have hv2 := hv.same (upp.le hs).row
      refine (sizeR_c v k l H2 hv2 hk).to ?_
      try simp (disch := first | omega | (simp only [ints_length, List.length_replicate, List.length_set]; done) | (simp only [ints_length, List.length_replicate, List.length_set]; omega)) only [Sall,evalOp,init,binE,binI,unE,convE,okNil,builtE,gv,TD.isAgg,resV,↓reduceIte,Nat.reduceEqDiff,reduceCtorEq,Nat.reduceAdd,Nat.reduceMul,Nat.reduceLeDiff,quietOp,blindOp,Int.reduceEq,Int.reduceLT,Int.reduceLE,Nat.reduceLT,ti2,ti3,ti4,ti79,ti80,ti28,ti25,ti31,ti22,ti33,ti24,ti67,ti111,ti100, w64]
      refine (numbersFrom_c 0 ((k : Int) - 1) k (by omega) (by omega) (by omega) H2).sc.mono ?_
      rintro nv Hc ⟨⟨upc, hfc⟩, scc⟩
      have nc := upc.next
      have hnl : (seqL 0 k).length = k := seqL_length _ _
      have hc0 : Hc.row H.next = some ⟨33, true, [.int .i64 n, v]⟩ := by rw [upc.row _ (by omega), r0]
      have hc1 : Hc.row (H.next + 1) = some ⟨28, true, [.slice none 0 0]⟩ := by rw [upc.row _ (by omega), r1]
      have hc2 : Hc.row (H.next + 2) = some ⟨2, true, [.int .i64 (-1)]⟩ := by rw [upc.row _ (by omega), r2]
      have hc3 : Hc.row (H.next + 3) = some ⟨2, true, [.int .i64 0]⟩ := by rw [upc.row _ (by omega), r3]
      refine Holds.mp ?_
      try simp (disch := first | omega | (simp only [ints_length, List.length_replicate, List.length_set]; done) | (simp only [ints_length, List.length_replicate, List.length_set]; omega)) only [Sall,evalOp,init,binE,binI,unE,convE,okNil,builtE,gv,TD.isAgg,resV,↓reduceIte,Nat.reduceEqDiff,reduceCtorEq,Nat.reduceAdd,Nat.reduceMul,Nat.reduceLeDiff,quietOp,blindOp,Int.reduceEq,Int.reduceLT,Int.reduceLE,Nat.reduceLT,ti2,ti3,ti4,ti79,ti80,ti28,ti25,ti31,ti22,ti33,ti24,ti67,ti111,ti100, List.mem_cons, List.not_mem_nil, or_false, forall_eq_or_imp, forall_eq, Array.size_empty]
      have hnvB : Rd 1 ((Hc.drop (H.next + 1)).drop (H.next + 2)) nv (seqL 0 k).length (seqL 0 k) := by
        rw [hnl]
        exact (hfc.same (H' := (Hc.drop (H.next + 1)).drop (H.next + 2)) fun i hi _ => by rw [AH.drop_row, if_neg (by omega), AH.drop_row, if_neg (by omega)]).rd
      have hper : Per (H.next + 3) Hc (.slice (some ⟨H.next + 3, 0, some 1⟩) 1 1) [0] := Per.fr (ty := 2) (lo := H.next + 3) (hi := H.next + 4) ⟨rfl, .inr ⟨H.next + 3, by omega, by omega, rfl, hc3⟩⟩ (by omega) (by omega)
      have hvc : ∀ H' : AH, (∀ i, i < Hc.next → ¬ i = H.next + 1 → ¬ i = H.next + 2 → H'.row i = Hc.row i) → Rd 14 H' v k l := fun H' h => by
        refine hv.same fun i r hr => ?_
        have hi := hs _ _ hr
        rw [h i (by omega) (by omega) (by omega), upc.row i (by omega), upp.row i hi]
        exact hr
      refine (orders_c 73 [.pointer (some ⟨H.next, 0, none⟩), .pointer (some ⟨H.next + 2, 0, none⟩), .pointer (some ⟨H.next + 1, 0, none⟩)] (fun _ => true) (fun y => ∀ x ∈ y, 0 ≤ x ∧ x < k) (BoS n l (H.next + 2) (H.next + 1) Hc) (H.next + 3) nv (seqL 0 k) ((Hc.drop (H.next + 1)).drop (H.next + 2)) hnvB (by omega) ?_ ?_ ?_ ?_ (k - 1) [0] [] (.slice (some ⟨H.next + 3, 0, some 1⟩) 1 1) Hc (by rw [hnl, List.length_singleton]; omega) ⟨Nat.le_refl _, fun i _ _ _ => rfl, hc2, _, hc1, .inl ⟨rfl, rfl⟩⟩ (by simp) (by omega) hper (by simp; omega)).mono ?_
      · rintro es H' ⟨_, h2, _⟩ i r hir
        rw [AH.drop_row] at hir
        split at hir
        · cases hir
        · rename_i hne
          rw [AH.drop_row] at hir
          split at hir
          · cases hir
          · rename_i hne2; rw [h2 i (scc _ _ hir) hne2 hne]; exact hir
      · rintro es Ha Hb ⟨a1, a2, a3, fv, a4, a5⟩ hn2 hr2
        refine ⟨by omega, fun i hi1 hi hi2 => by rw [hr2 _ (by omega), a2 i hi1 hi hi2], by rw [hr2 _ (by omega)]; exact a3, fv, by rw [hr2 _ (by omega)]; exact a4, ?_⟩
        rcases a5 with a5 | ⟨fi, b1, b2, b3, b4⟩
        · exact .inl a5
        · exact .inr ⟨fi, b1, by omega, b3, by rw [hr2 _ (by omega)]; exact b4⟩
      · intro y x hy hx _ z hz
        rcases List.mem_append.1 hz with hz | hz
        · exact hy z hz
        · rw [List.mem_singleton] at hz
          subst hz
          have := (mem_seqL_iff 0 k _).1 hx
          omega
      · intro es y w Ha hS _ _ hyl hy hcp
        refine (boClosure_c n v k l hb (by omega) H.next (H.next + 2) (H.next + 1) Hc hvc hc0 (by omega) (by omega) (by omega) (by omega) es y w Ha hS hy (by omega) hcp).mono ?_
        rintro r Hb ⟨g1, g2, g3, g4⟩
        exact ⟨g1, g2, g3, fun i hi hi2 => g4 i hi2 (by omega) (by omega)⟩
      · rintro rr H' ⟨n', rows', hcase⟩
        refine Holds.mp ?_
        rcases hcase with ⟨rfl, _, s1, s2, s3, fv, s4, s5⟩ | ⟨_, L1, z, L2, _, _, q3, _⟩
        · have hfold : boFold n l ([] ++ ordN (seqL 0 k) (k - 1) [0]) = boFold n l (boL k) := rfl
          rw [hfold] at s3 s5
          rcases s5 with ⟨s6, _⟩ | ⟨fi, b1, b2, rfl, b4⟩
          · exact absurd s6 (by rw [List.nil_append]; exact boL_ne k (by omega))
          · have upE : Up H.next H H' := ⟨by omega, fun i hi => by rw [s2 i (by omega) (by omega) (by omega), upc.row i (by omega), upp.row i hi]⟩
            refine draw_id (by kernel_rfl) (by kernel_rfl) ?_
            try simp (disch := first | omega | (simp only [ints_length, List.length_replicate, List.length_set]; done) | (simp only [ints_length, List.length_replicate, List.length_set]; omega)) only [Sall,evalOp,init,binE,binI,unE,convE,okNil,builtE,gv,TD.isAgg,resV,↓reduceIte,Nat.reduceEqDiff,reduceCtorEq,Nat.reduceAdd,Nat.reduceMul,Nat.reduceLeDiff,quietOp,blindOp,Int.reduceEq,Int.reduceLT,Int.reduceLE,Nat.reduceLT,ti2,ti3,ti4,ti79,ti80,ti28,ti25,ti31,ti22,ti33,ti24,ti67,ti111,ti100, s3, s4]
            exact ⟨_, rfl, upE, ⟨by simp, .inr ⟨fi, by omega, b2, rfl, b4⟩⟩⟩
        · cases q3
  · have ec := codeC_ne hok
    have e0 : (codeC q k l == 0) = false := by rw [beq_eq_false_iff_ne]; exact hok
    have hbo : boC q k l = codeC q k l := by unfold boC; rw [if_neg hok]
    unfold boR boN
    rw [hbo, if_neg hok, if_neg hok]
    try simp (disch := first | omega | (simp only [ints_length, List.length_replicate, List.length_set]; done) | (simp only [ints_length, List.length_replicate, List.length_set]; omega)) only [Sall,evalOp,init,binE,binI,unE,convE,okNil,builtE,gv,TD.isAgg,resV,↓reduceIte,Nat.reduceEqDiff,reduceCtorEq,Nat.reduceAdd,Nat.reduceMul,Nat.reduceLeDiff,quietOp,blindOp,Int.reduceEq,Int.reduceLT,Int.reduceLE,Nat.reduceLT,ti2,ti3,ti4,ti79,ti80,ti28,ti25,ti31,ti22,ti33,ti24,ti67,ti111,ti100, ec, e0]
    exact ⟨_, rfl, up, ⟨rfl, .inl ⟨rfl, rfl⟩⟩⟩
theorem specBestOrder_c (q : Int) (v : Value) (k : Nat) (l : List Int) (H : AH) (hv : Rd 14 H v k l) (hk : k ≤ 4294967296) :
    ACalls Try.prog 28 [.agg #[.int .i64 q, v]] H (fun r H' => ∃ u, r = .tuple #[u, .int .i64 (boN q k l), .int .i64 (boC q k l)] ∧ Up H.next H H' ∧ Fr 1 2 H.next H'.next H' u (boR q k l).length (boR q k l)) := by
  refine ACalls.wf (by kernel_rfl) fun hs => acalls_of_awp [.tmp 2, .tmp 3, .tmp 4] Try.func28 (by kernel_rfl) rfl rfl (Nat.le_of_ble_eq_true rfl) (by kernel_rfl) ?_
  have hone := hv.one
  have up : Up H.next H (H.push ⟨33, true, [.int .i64 q, v]⟩) := (Up.refl _ H).push (Nat.le_refl _) _
  have e1 : (H.push ⟨33, true, [.int .i64 q, v]⟩).row H.next = some ⟨33, true, [.int .i64 q, v]⟩ := by rw [AH.push_row, if_pos rfl]
  have n1 : (H.push ⟨33, true, [.int .i64 q, v]⟩).next = H.next + 1 := rfl
  have sc1 : Sc (H.push ⟨33, true, [.int .i64 q, v]⟩) := Sc.push hs _
  try simp (disch := first | omega | (simp only [ints_length, List.length_replicate, List.length_set]; done) | (simp only [ints_length, List.length_replicate, List.length_set]; omega)) only [Sall,evalOp,init,binE,binI,unE,convE,okNil,builtE,gv,TD.isAgg,resV,↓reduceIte,Nat.reduceEqDiff,reduceCtorEq,Nat.reduceAdd,Nat.reduceMul,Nat.reduceLeDiff,quietOp,blindOp,Int.reduceEq,Int.reduceLT,Int.reduceLE,Nat.reduceLT,ti2,ti3,ti4,ti79,ti80,ti28,ti25,ti31,ti22,ti33,ti24,ti67,ti111,ti100, hone]
  revert up e1 n1 sc1
  generalize H.push ⟨33, true, [.int .i64 q, v]⟩ = H1
  intro up e1 n1 sc1
  have hv1 := hv.same (up.le hs).row
  refine (l09Code_c q v k l H1 hv1 hk).to ?_
  by_cases hok : codeC q k l = 0
  · obtain ⟨hb, hk1⟩ := codeC_rounds hok
    obtain ⟨h2, _, _⟩ := schedB_at hb
    obtain ⟨n, rfl⟩ : ∃ n : Nat, q = n := ⟨q.toNat, by omega⟩
    have e0 : ((0 : Int) == 0) = true := rfl
    have e00 : ((0 : Int) != 0) = false := rfl
    have e3 : ((3 : Int) != 0) = true := rfl
    rw [hok]
    by_cases h7 : 7 < k
    · have hbo : boC n k l = 3 := by unfold boC; rw [if_pos hok, if_pos h7]
      have h7' : (7 : Int) < (k : Int) := by omega
      unfold boR boN
      rw [hbo, if_neg (by decide), if_neg (by decide)]
      try simp (disch := first | omega | (simp only [ints_length, List.length_replicate, List.length_set]; done) | (simp only [ints_length, List.length_replicate, List.length_set]; omega)) only [Sall,evalOp,init,binE,binI,unE,convE,okNil,builtE,gv,TD.isAgg,resV,↓reduceIte,Nat.reduceEqDiff,reduceCtorEq,Nat.reduceAdd,Nat.reduceMul,Nat.reduceLeDiff,quietOp,blindOp,Int.reduceEq,Int.reduceLT,Int.reduceLE,Nat.reduceLT,ti2,ti3,ti4,ti79,ti80,ti28,ti25,ti31,ti22,ti33,ti24,ti67,ti111,ti100, e0, e1, builtE, hv1.len, h7', decide_true, e3]
      exact ⟨_, rfl, up, ⟨rfl, .inl ⟨rfl, rfl⟩⟩⟩
    · have hbo : boC n k l = 0 := by unfold boC; rw [if_pos hok, if_neg h7]
      have h7' : ¬ (7 : Int) < (k : Int) := by omega
      unfold boR boN
      rw [hbo, if_pos rfl, if_pos rfl, Int.toNat_natCast]
      have zz : zeros 1 [.int .i64 0] = [.int .i64 0] := rfl
      have hone1 := hv1.one
      have orders := l09Orders_c k (by omega) (k - 1) [0] (.slice (some ⟨H.next + 1, 0, some 1⟩) 1 1) (H.next + 1) (H.next + 2) (H1.push ⟨2, true, [.int .i64 0]⟩) (by simp; omega) ⟨rfl, .inr ⟨H.next + 1, by omega, by omega, rfl, by rw [AH.push_row, if_pos n1.symm]; rfl⟩⟩ (by omega) (by rw [AH.push_next]; omega)
      have hL1 : ordN (seqL 0 k) (k - 1) [0] = boL k := rfl
      rw [hL1] at orders
      have hmem : ∀ z ∈ boL k, z.length = k ∧ ∀ x ∈ z, 0 ≤ x ∧ x < (k : Int) := fun z hz => boL_mem hk1 hz
      have hL0 : 0 < (boL k).length := List.length_pos_iff.2 (boL_ne k hk1)
      have hlenL := boL_len k (by omega)
      revert orders hmem hL0 hlenL
      generalize boL k = L
      intro orders hmem hL0 hlenL
      try simp (disch := first | omega | (simp only [ints_length, List.length_replicate, List.length_set]; done) | (simp only [ints_length, List.length_replicate, List.length_set]; omega)) only [Sall,evalOp,init,binE,binI,unE,convE,okNil,builtE,gv,TD.isAgg,resV,↓reduceIte,Nat.reduceEqDiff,reduceCtorEq,Nat.reduceAdd,Nat.reduceMul,Nat.reduceLeDiff,quietOp,blindOp,Int.reduceEq,Int.reduceLT,Int.reduceLE,Nat.reduceLT,ti2,ti3,ti4,ti79,ti80,ti28,ti25,ti31,ti22,ti33,ti24,ti67,ti111,ti100, e0, e1, builtE, hv1.len, h7', decide_false, e00, zz, slCells, n1]
      refine orders.sc.mono ?_
      rintro u H2 ⟨⟨up2, hfu⟩, sc2⟩
      have n2 := up2.next
      rw [AH.push_next] at n2
      have upp2 : Up H.next H H2 := up.trans (((Up.refl _ H1).push (Nat.le_refl _) _).trans up2 (by rw [AH.push_next]; omega)) (by omega)
      have hr0 : H2.row H.next = some ⟨33, true, [.int .i64 n, v]⟩ := by rw [up2.row _ (by rw [AH.push_next]; omega), AH.push_row, if_neg (by omega), e1]
      refine Holds.mp ?_
      obtain ⟨ai, ao, au, ac, ar, ax, am, eu, har, hax, hsx, haok⟩ := hfu.rd.get (j := 0) hL0
      have ham := hsx.lenK1
      subst ham
      obtain ⟨hy0, _⟩ := hmem _ (getD_mem (ll := L) (a := 0) hL0)
      have hlu0 := hfu.rd.len
      rw [eu] at hlu0
      have hax0 : ar.cells[ao + Int.toNat 0]? = some ax := hax
      have hL0' : (0 : Int) < (L.length : Int) := by omega
      try simp (disch := first | omega | (simp only [ints_length, List.length_replicate, List.length_set]; done) | (simp only [ints_length, List.length_replicate, List.length_set]; omega)) only [Sall,evalOp,init,binE,binI,unE,convE,okNil,builtE,gv,TD.isAgg,resV,↓reduceIte,Nat.reduceEqDiff,reduceCtorEq,Nat.reduceAdd,Nat.reduceMul,Nat.reduceLeDiff,quietOp,blindOp,Int.reduceEq,Int.reduceLT,Int.reduceLE,Nat.reduceLT,ti2,ti3,ti4,ti79,ti80,ti28,ti25,ti31,ti22,ti33,ti24,ti67,ti111,ti100, eu, har, hax0, haok, hlu0, hL0']
      refine awp_loop (fun m t H' => ∃ (i : Nat) (z : List Int) (w : Value), m = L.length - i ∧ i ≤ L.length ∧ t 9 = .int .i64 i ∧ t 6 = u ∧ t 1 = .pointer (some ⟨H.next, 0, none⟩) ∧ t 7 = w ∧ t 8 = .int .i64 (boFold n l (L.take i)).2 ∧ Rd 1 H' w z.length z ∧ z.length = k ∧ Up H2.next H2 H' ∧ Sc H' ∧ (0 < i → z = (boFold n l (L.take i)).1)) L.length ?_ ?_
      · refine ⟨0, L.getD 0 [], ax, by omega, by omega, ?_⟩
        try simp (disch := first | omega | (simp only [ints_length, List.length_replicate, List.length_set]; done) | (simp only [ints_length, List.length_replicate, List.length_set]; omega)) only [Sall,evalOp,init,binE,binI,unE,convE,okNil,builtE,gv,TD.isAgg,resV,↓reduceIte,Nat.reduceEqDiff,reduceCtorEq,Nat.reduceAdd,Nat.reduceMul,Nat.reduceLeDiff,quietOp,blindOp,Int.reduceEq,Int.reduceLT,Int.reduceLE,Nat.reduceLT,ti2,ti3,ti4,ti79,ti80,ti28,ti25,ti31,ti22,ti33,ti24,ti67,ti111,ti100, Int.natCast_zero, List.take_zero, boFold_nil, Nat.lt_irrefl, false_implies]
        exact ⟨eu.symm, hsx, hy0, Up.refl _ _, sc2⟩
      · rintro m t H' ⟨i, z, w, hm, hiL, h9, h6, h1, h7, h8, hw, hzl, hup, hsc, hz⟩
        have hup1 := hup.next
        have hfu3 : FrV 28 (H.next + 1) H2.next H' u L := hfu.same fun z _ hz => hup.row z hz
        have hlu := hfu3.rd.len
        try simp (disch := first | omega | (simp only [ints_length, List.length_replicate, List.length_set]; done) | (simp only [ints_length, List.length_replicate, List.length_set]; omega)) only [Sall,evalOp,init,binE,binI,unE,convE,okNil,builtE,gv,TD.isAgg,resV,↓reduceIte,Nat.reduceEqDiff,reduceCtorEq,Nat.reduceAdd,Nat.reduceMul,Nat.reduceLeDiff,quietOp,blindOp,Int.reduceEq,Int.reduceLT,Int.reduceLE,Nat.reduceLT,ti2,ti3,ti4,ti79,ti80,ti28,ti25,ti31,ti22,ti33,ti24,ti67,ti111,ti100, h9, h6, builtE, hlu]
        refine condC_dec (fun h => ?_) (fun h => ?_)
        · obtain ⟨hyl, hyx⟩ := hmem _ (getD_mem (ll := L) (a := i) (by omega))
          obtain ⟨ai, ao, au, ac, ar, ax, am, eu, har, hax, hsx, haok⟩ := hfu3.rd.get (j := i) (by omega)
          have htk : L.take (i + 1) = L.take i ++ [L.getD i []] := take_snoc L [] i (by omega)
          revert hyl hyx htk hsx
          generalize L.getD i [] = y
          intro hyl hyx hsx htk
          have ham := hsx.lenK1
          subst ham
          have hr1 : H'.row H.next = some ⟨33, true, [.int .i64 n, v]⟩ := by rw [hup.row _ (by omega), hr0]
          have hv3 : Rd 14 H' v k l := hv.same fun i r hr => by rw [hup.row i (by have := hs _ _ hr; omega), upp2.row i (hs _ _ hr)]; exact hr
          refine draw_id (by kernel_rfl) (by kernel_rfl) ?_
          try simp (disch := first | omega | (simp only [ints_length, List.length_replicate, List.length_set]; done) | (simp only [ints_length, List.length_replicate, List.length_set]; omega)) only [Sall,evalOp,init,binE,binI,unE,convE,okNil,builtE,gv,TD.isAgg,resV,↓reduceIte,Nat.reduceEqDiff,reduceCtorEq,Nat.reduceAdd,Nat.reduceMul,Nat.reduceLeDiff,quietOp,blindOp,Int.reduceEq,Int.reduceLT,Int.reduceLE,Nat.reduceLT,ti2,ti3,ti4,ti79,ti80,ti28,ti25,ti31,ti22,ti33,ti24,ti67,ti111,ti100, h9, h6, h1, eu, hr1, har, hax, haok]
          (repeat refine And.intro (by omega) ?_)
          refine (l01Reordered_c n v k l ax y H' hv3 hsx hyx (by omega) hk).sc.mono ?_
          rintro r3 H3 ⟨⟨sv, rfl, up3, hf3⟩, sc3⟩
          have n3 := up3.next
          refine Holds.mp ?_
          rw [holds_def]
          refine ⟨.inr (.inr (up3.le hsc)), ?_⟩
          have hok3 := reoL_ok hb hv.1 hyx (by omega)
          try simp (disch := first | omega | (simp only [ints_length, List.length_replicate, List.length_set]; done) | (simp only [ints_length, List.length_replicate, List.length_set]; omega)) only [Sall,evalOp,init,binE,binI,unE,convE,okNil,builtE,gv,TD.isAgg,resV,↓reduceIte,Nat.reduceEqDiff,reduceCtorEq,Nat.reduceAdd,Nat.reduceMul,Nat.reduceLeDiff,quietOp,blindOp,Int.reduceEq,Int.reduceLT,Int.reduceLE,Nat.reduceLT,ti2,ti3,ti4,ti79,ti80,ti28,ti25,ti31,ti22,ti33,ti24,ti67,ti111,ti100, true_and]
          refine (l09Matrix_c n sv y.length (reoL l y) H3 hok3 hf3.rd (by omega)).sc.mono ?_
          rintro mv H4 ⟨⟨up4, hf4⟩, sc4⟩
          have n4 := up4.next
          have hsq := carM_sq (rnd_toNat hok3) y.length (Nat.le_refl _)
          refine Holds.mp ?_
          rw [holds_def]
          refine ⟨.inr (.inr (up4.le sc3)), ?_⟩
          try simp (disch := first | omega | (simp only [ints_length, List.length_replicate, List.length_set]; done) | (simp only [ints_length, List.length_replicate, List.length_set]; omega)) only [Sall,evalOp,init,binE,binI,unE,convE,okNil,builtE,gv,TD.isAgg,resV,↓reduceIte,Nat.reduceEqDiff,reduceCtorEq,Nat.reduceAdd,Nat.reduceMul,Nat.reduceLeDiff,quietOp,blindOp,Int.reduceEq,Int.reduceLT,Int.reduceLE,Nat.reduceLT,ti2,ti3,ti4,ti79,ti80,ti28,ti25,ti31,ti22,ti33,ti24,ti67,ti111,ti100, true_and]
          refine (l09Cost_c mv n _ H4 hf4.rd hsq (by omega)).to ?_
          have hcO : costM (carM n y.length (reoL l y) y.length) n = costO n l y := rfl
          rw [hcO]
          refine ⟨.inr (.inr (LE.refl _)), ?_⟩
          have upE : Up H'.next H' H4 := up3.trans up4 (by omega)
          have hax4 : Rd 1 H4 ax y.length y := hsx.same (upE.le hsc).row
          have hw4 : Rd 1 H4 w z.length z := hw.same (upE.le hsc).row
          have hsnoc := boFold_snoc n l (L.take i) y
          rw [← htk] at hsnoc
          have upE2 : Up H2.next H2 H4 := ⟨by omega, fun i hi => by rw [upE.row i (by omega), hup.row i hi]⟩
          by_cases q1 : (boFold n l (L.take i)).2 < 0 ∨ costO n l y < (boFold n l (L.take i)).2
          · have e : boFold n l (L.take (i + 1)) = (y, costO n l y) := by rw [hsnoc]; unfold boStep; rw [if_pos q1]
            refine Holds.mp ?_
            by_cases q2 : (boFold n l (L.take i)).2 < 0 <;> rw [holds_def]
            · try simp (disch := first | omega | (simp only [ints_length, List.length_replicate, List.length_set]; done) | (simp only [ints_length, List.length_replicate, List.length_set]; omega)) only [Sall,evalOp,init,binE,binI,unE,convE,okNil,builtE,gv,TD.isAgg,resV,↓reduceIte,Nat.reduceEqDiff,reduceCtorEq,Nat.reduceAdd,Nat.reduceMul,Nat.reduceLeDiff,quietOp,blindOp,Int.reduceEq,Int.reduceLT,Int.reduceLE,Nat.reduceLT,ti2,ti3,ti4,ti79,ti80,ti28,ti25,ti31,ti22,ti33,ti24,ti67,ti111,ti100, h9, h6, h1, h7, h8, eu, q2, decide_true]
              have fr4 : H4.row _ = _ := (upE.le hsc).row _ _ har
              try simp (disch := first | omega | (simp only [ints_length, List.length_replicate, List.length_set]; done) | (simp only [ints_length, List.length_replicate, List.length_set]; omega)) only [Sall,evalOp,init,binE,binI,unE,convE,okNil,builtE,gv,TD.isAgg,resV,↓reduceIte,Nat.reduceEqDiff,reduceCtorEq,Nat.reduceAdd,Nat.reduceMul,Nat.reduceLeDiff,quietOp,blindOp,Int.reduceEq,Int.reduceLT,Int.reduceLE,Nat.reduceLT,ti2,ti3,ti4,ti79,ti80,ti28,ti25,ti31,ti22,ti33,ti24,ti67,ti111,ti100, h9, h6, h1, h7, h8, eu, fr4, hax, haok, w64]
              (repeat refine And.intro (by omega) ?_)
              refine ⟨L.length - (i + 1), by omega, i + 1, y, ax, rfl, by omega, rfl, rfl, by rw [e], hax4, by omega, upE2, sc4, fun _ => by rw [e]⟩
            · have q3 : costO n l y < (boFold n l (L.take i)).2 := by omega
              try simp (disch := first | omega | (simp only [ints_length, List.length_replicate, List.length_set]; done) | (simp only [ints_length, List.length_replicate, List.length_set]; omega)) only [Sall,evalOp,init,binE,binI,unE,convE,okNil,builtE,gv,TD.isAgg,resV,↓reduceIte,Nat.reduceEqDiff,reduceCtorEq,Nat.reduceAdd,Nat.reduceMul,Nat.reduceLeDiff,quietOp,blindOp,Int.reduceEq,Int.reduceLT,Int.reduceLE,Nat.reduceLT,ti2,ti3,ti4,ti79,ti80,ti28,ti25,ti31,ti22,ti33,ti24,ti67,ti111,ti100, h9, h6, h1, h7, h8, eu, q2, q3, decide_true, decide_false]
              have fr4 : H4.row _ = _ := (upE.le hsc).row _ _ har
              try simp (disch := first | omega | (simp only [ints_length, List.length_replicate, List.length_set]; done) | (simp only [ints_length, List.length_replicate, List.length_set]; omega)) only [Sall,evalOp,init,binE,binI,unE,convE,okNil,builtE,gv,TD.isAgg,resV,↓reduceIte,Nat.reduceEqDiff,reduceCtorEq,Nat.reduceAdd,Nat.reduceMul,Nat.reduceLeDiff,quietOp,blindOp,Int.reduceEq,Int.reduceLT,Int.reduceLE,Nat.reduceLT,ti2,ti3,ti4,ti79,ti80,ti28,ti25,ti31,ti22,ti33,ti24,ti67,ti111,ti100, h9, h6, h1, h7, h8, eu, fr4, hax, haok, w64]
              (repeat refine And.intro (by omega) ?_)
              refine ⟨L.length - (i + 1), by omega, i + 1, y, ax, rfl, by omega, rfl, rfl, by rw [e], hax4, by omega, upE2, sc4, fun _ => by rw [e]⟩
          · have e : boFold n l (L.take (i + 1)) = boFold n l (L.take i) := by rw [hsnoc]; unfold boStep; rw [if_neg q1]
            have q2 : ¬ (boFold n l (L.take i)).2 < 0 := fun h => q1 (.inl h)
            have q3 : ¬ costO n l y < (boFold n l (L.take i)).2 := fun h => q1 (.inr h)
            try simp (disch := first | omega | (simp only [ints_length, List.length_replicate, List.length_set]; done) | (simp only [ints_length, List.length_replicate, List.length_set]; omega)) only [Sall,evalOp,init,binE,binI,unE,convE,okNil,builtE,gv,TD.isAgg,resV,↓reduceIte,Nat.reduceEqDiff,reduceCtorEq,Nat.reduceAdd,Nat.reduceMul,Nat.reduceLeDiff,quietOp,blindOp,Int.reduceEq,Int.reduceLT,Int.reduceLE,Nat.reduceLT,ti2,ti3,ti4,ti79,ti80,ti28,ti25,ti31,ti22,ti33,ti24,ti67,ti111,ti100, h9, h6, h1, h7, h8, eu, q2, q3, decide_false, w64]
            have hi0 : 0 < i := by
              by_cases h0 : i = 0
              · subst h0; exact absurd (show (boFold n l (L.take 0)).2 < 0 by rw [List.take_zero, boFold_nil]; decide) q2
              · omega
            refine ⟨L.length - (i + 1), by omega, i + 1, z, w, rfl, by omega, rfl, rfl, by rw [e], hw4, hzl, upE2, sc4, fun _ => by rw [e]; exact hz hi0⟩
        · have hi2 : i = L.length := by omega
          subst hi2
          have hzz := hz hL0
          rw [List.take_length] at hzz
          try simp (disch := first | omega | (simp only [ints_length, List.length_replicate, List.length_set]; done) | (simp only [ints_length, List.length_replicate, List.length_set]; omega)) only [Sall,evalOp,init,binE,binI,unE,convE,okNil,builtE,gv,TD.isAgg,resV,↓reduceIte,Nat.reduceEqDiff,reduceCtorEq,Nat.reduceAdd,Nat.reduceMul,Nat.reduceLeDiff,quietOp,blindOp,Int.reduceEq,Int.reduceLT,Int.reduceLE,Nat.reduceLT,ti2,ti3,ti4,ti79,ti80,ti28,ti25,ti31,ti22,ti33,ti24,ti67,ti111,ti100, h7]
          refine (l01Own_c w z H' ⟨hw, fun h0 => by omega⟩ (by omega)).mono ?_
          rintro r H5 ⟨up5, hf5⟩
          have n5 := up5.next
          refine Holds.mp ?_
          try simp (disch := first | omega | (simp only [ints_length, List.length_replicate, List.length_set]; done) | (simp only [ints_length, List.length_replicate, List.length_set]; omega)) only [Sall,evalOp,init,binE,binI,unE,convE,okNil,builtE,gv,TD.isAgg,resV,↓reduceIte,Nat.reduceEqDiff,reduceCtorEq,Nat.reduceAdd,Nat.reduceMul,Nat.reduceLeDiff,quietOp,blindOp,Int.reduceEq,Int.reduceLT,Int.reduceLE,Nat.reduceLT,ti2,ti3,ti4,ti79,ti80,ti28,ti25,ti31,ti22,ti33,ti24,ti67,ti111,ti100, h8, List.take_length]
          rw [← hzz]
          exact ⟨_, rfl, ⟨by omega, fun i hi => by rw [up5.row i (by omega), hup.row i (by omega), upp2.row i hi]⟩, hf5.wide (by omega) (Nat.le_refl _)⟩
  · have ec := codeC_ne hok
    have e0 : (codeC q k l == 0) = false := by rw [beq_eq_false_iff_ne]; exact hok
    have hbo : boC q k l = codeC q k l := by unfold boC; rw [if_neg hok]
    unfold boR boN
    rw [hbo, if_neg hok, if_neg hok]
    try simp (disch := first | omega | (simp only [ints_length, List.length_replicate, List.length_set]; done) | (simp only [ints_length, List.length_replicate, List.length_set]; omega)) only [Sall,evalOp,init,binE,binI,unE,convE,okNil,builtE,gv,TD.isAgg,resV,↓reduceIte,Nat.reduceEqDiff,reduceCtorEq,Nat.reduceAdd,Nat.reduceMul,Nat.reduceLeDiff,quietOp,blindOp,Int.reduceEq,Int.reduceLT,Int.reduceLE,Nat.reduceLT,ti2,ti3,ti4,ti79,ti80,ti28,ti25,ti31,ti22,ti33,ti24,ti67,ti111,ti100, ec, e0]
    exact ⟨_, rfl, up, ⟨rfl, .inl ⟨rfl, rfl⟩⟩⟩
end Go.Proofs.Ytbmpkihggipciaa.A
