/- Contracts: who can be first, the program's side. And what follows. -/
import Derived.Test.YtgkmdfjjlghecaaM5
section
set_option linter.unusedSimpArgs false
set_option linter.unusedVariables false
set_option maxRecDepth 100000
set_option maxHeartbeats 2000000
namespace Go.Proofs.Ytgkmdfjjlghecaa.A
open Go Go.Abs Go.RowKit

def WI (n G a : Nat) (ow : List (List Int)) (rm : List Int) : Prop :=
  (∀ mt : List Bool, mt.length = n → HOk n G ⟨ow, rm, mt⟩) ∧ (∀ g, g < G → (ow.getD g []).length = a - 2 * g - (a - 2 * g - 2)) ∧ ∀ c, rm.getD c 0 ≤ 4294967296
theorem unm_none (n : Nat) : unm (List.replicate n false) < n + 1 := by
  unfold unm; rw [List.count_replicate]; simp
theorem WI.few {n G a : Nat} {ow : List (List Int)} {rm : List Int} (h : WI n G a ow rm) (g : Nat) : (ow.getD g []).length ≤ 2 := by
  by_cases hg : g < G
  · rw [h.2.1 g hg]; omega
  · have := (h.1 (List.replicate n false) (by simp)).ol
    dsimp only at this
    rw [getD_nil_of_le (by omega)]; simp
theorem WI.step {n G a : Nat} {tm : Nat → Nat → Nat} {ow : List (List Int)} {rm : List Int} (htm : ∀ j k, tm j k < n) (h : WI n G a ow rm) (ha : a < 2 * G) (hr : (hiveF tm G (n + 1) ⟨ow, rm, List.replicate n false⟩ (a / 2)).1 = true) :
    WI n G (a + 1) (hiveF tm G (n + 1) ⟨ow, rm, List.replicate n false⟩ (a / 2)).2.ow (hiveF tm G (n + 1) ⟨ow, rm, List.replicate n false⟩ (a / 2)).2.rm := by
  have hok := h.1 (List.replicate n false) (by simp)
  have hR := hiveF_res htm (n + 1) ⟨ow, rm, List.replicate n false⟩ (a / 2) hok (by omega) (unm_none n)
  revert hR hr
  generalize hiveF tm G (n + 1) ⟨ow, rm, List.replicate n false⟩ (a / 2) = R
  intro hr hR
  obtain ⟨y1, y2, y3⟩ := hR.yes hr
  refine ⟨fun mt hmt => ⟨hR.ok.ol, hR.ok.rl, hmt, hR.ok.er, hR.ok.rr⟩, fun g hg => ?_, fun c => ?_⟩
  · have h1 : (R.2.ow.getD g []).length = (ow.getD g []).length + if g = a / 2 then 1 else 0 := y1 g
    rw [h1, h.2.1 g hg]
    split <;> omega
  · have h1 : R.2.rm.getD c 0 ≤ rm.getD c 0 := hR.dec c
    have := h.2.2 c
    omega

theorem canBeFirst_c (n : Nat) (v : Value) (k : Nat) (l : List Int) (x : Value) (ll : List (List Int)) (a : Int) (H : AH) (hb : schedB n k l = true) (hres : resB n k l ll = true) (hl : ll.length ≤ 4294967296) (hv : Rs 14 H v k l) (hx : Rd2 1 H x ll) (ha : 0 ≤ a ∧ a < n) :
    ACalls Try.prog 90 [.agg #[.int .i64 n, v], x, .int .i64 a] H (is (.bool (firstB n k l ll a)) H) := by
  refine acalls_up rfl (ACalls.wf (by kernel_rfl) fun hs => acalls_of_awp [.tmp 6] Try.func90 (by kernel_rfl) rfl rfl (Nat.le_of_ble_eq_true rfl) (by kernel_rfl) ?_)
  obtain ⟨hn, hk40, hrounds⟩ := schedB_at hb
  obtain ⟨hlk, hrs⟩ := resB_at hres
  have hone := hv.rd.one
  have up : Up H.next H (H.push ⟨32, true, [.int .i64 n, v]⟩) := (Up.refl _ H).push (Nat.le_refl _) _
  have e1 : (H.push ⟨32, true, [.int .i64 n, v]⟩).row H.next = some ⟨32, true, [.int .i64 n, v]⟩ := by rw [AH.push_row, if_pos rfl]
  have n1 : (H.push ⟨32, true, [.int .i64 n, v]⟩).next = H.next + 1 := rfl
  have sc1 : Sc (H.push ⟨32, true, [.int .i64 n, v]⟩) := Sc.push hs _
  try simp (disch := first | omega | (simp only [ints_length, List.length_replicate, List.length_set] <;> omega)) only [Sall,evalOp,init,binE,binI,unE,convE,okNil,builtE,gv,TD.isAgg,resV,↓reduceIte,Nat.reduceEqDiff,reduceCtorEq,Nat.reduceAdd,Nat.reduceMul,Nat.reduceLeDiff,quietOp,blindOp,Int.reduceEq,Int.reduceLT,Int.reduceLE,Nat.reduceLT,tiA, hone]
  revert up e1 n1 sc1
  generalize H.push ⟨32, true, [.int .i64 n, v]⟩ = H1
  intro up e1 n1 sc1
  have hv1 := hv.rd.same (up.le hs).row
  have hx1 := hx.same (up.le hs).row
  try simp (disch := first | omega | (simp only [ints_length, List.length_replicate, List.length_set] <;> omega)) only [Sall,evalOp,init,binE,binI,unE,convE,okNil,builtE,gv,TD.isAgg,resV,↓reduceIte,Nat.reduceEqDiff,reduceCtorEq,Nat.reduceAdd,Nat.reduceMul,Nat.reduceLeDiff,quietOp,blindOp,Int.reduceEq,Int.reduceLT,Int.reduceLE,Nat.reduceLT,tiA, e1]
  refine (points_c n v k l x ll H1 hb hres hl hv1 hx1).sc.mono ?_
  rintro pu H2 ⟨⟨up2, hf⟩, sc2⟩
  have n2 := up2.next
  refine Holds.mp ?_
  obtain ⟨pi, pi0, pi1, rfl, pir⟩ := hf.get (by omega)
  have b2 : H2.row H.next = some ⟨32, true, [.int .i64 n, v]⟩ := by rw [up2.row _ (by omega), e1]
  have neA : ¬ H.next = H2.next + 1 := by omega
  have neB : ¬ H.next = H2.next := by omega
  obtain ⟨w, hw1, hw3⟩ := hv.cut (lo := some (ll.length : Int)) (hi := none) (a := ll.length) (b := k) rfl rfl hlk (Nat.le_refl _)
  have hw2 := hw3.rd.len
  have hw4 := hw3.rd.one
  have hv := hv.rd
  have hxl := hx1.len
  try simp (disch := first | omega | (simp only [ints_length, List.length_replicate, List.length_set] <;> omega)) only [Sall,evalOp,init,binE,binI,unE,convE,okNil,builtE,gv,TD.isAgg,resV,↓reduceIte,Nat.reduceEqDiff,reduceCtorEq,Nat.reduceAdd,Nat.reduceMul,Nat.reduceLeDiff,quietOp,blindOp,Int.reduceEq,Int.reduceLT,Int.reduceLE,Nat.reduceLT,tiA, zeros_zero, neA, neB, b2, builtE, hxl]
  obtain ⟨H3, e3⟩ : ∃ H3, H3 = ((H2.push ⟨38, true, []⟩).push ⟨25, true, [.slice none 0 0]⟩).setCells (H2.next + 1) [.slice (some ⟨H2.next, 0, some 1⟩) 0 0] := ⟨_, rfl⟩
  have n3 : H3.next = H2.next + 2 := by rw [e3]; rfl
  have r3 : ∀ j, j < H2.next → H3.row j = H2.row j := fun j hj => by rw [e3, AH.setCells_row, if_neg (by omega), AH.push_row, if_neg (by rw [AH.push_next]; omega), AH.push_row, if_neg (by omega)]
  have sc3 : Sc H3 := by rw [e3]; exact ((sc2.push _).push _).set _ _
  have c3 : H3.row (H2.next + 1) = some ⟨25, true, [.slice (some ⟨H2.next, 0, some 1⟩) 0 0]⟩ := by rw [e3, AH.setCells_row, if_pos rfl, AH.push_row, if_pos (by rw [AH.push_next])]; rfl
  have g3 : Gms (pi + 1) H2.next H3 (gmN n l a (sumsF n (fun _ o => o) (meets n l ll ll.length), []) ll.length 0).2 [] := ⟨by rw [e3, AH.setCells_row, if_neg (by omega), AH.push_row, if_neg (by rw [AH.push_next]; omega), AH.push_row, if_pos rfl], by omega, rfl, fun j hj => absurd hj (Nat.not_lt_zero _)⟩
  have up3 : Up H.next H H3 := ⟨by have := up.next; omega, fun j hj => by rw [r3 j (by omega), up2.row j (by omega), up.row j hj]⟩
  rw [← e3]
  clear e3
  have p3 : H3.row pi = some ⟨2, true, ints (gmN n l a (sumsF n (fun _ o => o) (meets n l ll ll.length), []) ll.length 0).1⟩ := by rw [r3 _ (by omega), pir]; rfl
  have b3 : H3.row H.next = some ⟨32, true, [.int .i64 n, v]⟩ := by rw [r3 _ (by omega), b2]
  have hgm := gmL_ok (a := a) hb hlk
  have gm0 := gm0_ok (n := n) (by omega) (l := l) (ll := ll) (by omega)
  rw [firstB_other hb hlk]
  unfold gmL at hgm ⊢
  have hz : (gmN n l a (sumsF n (fun _ o => o) (meets n l ll ll.length), []) ll.length 0).2.length = 0 := rfl
  revert p3; revert gm0; revert g3; revert hz
  generalize (sumsF n (fun _ o => o) (meets n l ll ll.length), ([] : List (List Int))) = st0 at hgm ⊢
  intro hz g3 gm0 p3
  have hgo : ∀ c, ll.length + c ≤ k → GmOk n (2240 + 28 * c) (gmN n l a st0 ll.length c) := fun c hc => gmN_ok (by omega) gm0 c (fun i hi => hrounds i (by omega)) (by omega)
  refine hw1 _ _ _ _ rfl ?_
  try simp (disch := first | omega | (simp only [ints_length, List.length_replicate, List.length_set] <;> omega)) only [Sall,evalOp,init,binE,binI,unE,convE,okNil,builtE,gv,TD.isAgg,resV,↓reduceIte,Nat.reduceEqDiff,reduceCtorEq,Nat.reduceAdd,Nat.reduceMul,Nat.reduceLeDiff,quietOp,blindOp,Int.reduceEq,Int.reduceLT,Int.reduceLE,Nat.reduceLT,tiA, builtE, hw2]
  refine awp_loop (fun m t H' => ∃ (c gi : Nat) (vs : List Value), m = (k - ll.length) - c ∧ c ≤ k - ll.length ∧ t 29 = .int .i64 c ∧ t 28 = .int .i64 (k - ll.length : Nat) ∧ t 27 = w ∧ t 7 = .slice (some ⟨pi, 0, some 1⟩) n n ∧ t 8 = .pointer (some ⟨H2.next + 1, 0, none⟩) ∧ t 2 = .int .i64 a ∧ t 3 = .pointer (some ⟨H.next, 0, none⟩) ∧ Up H.next H H' ∧ H'.row H.next = some ⟨32, true, [.int .i64 n, v]⟩ ∧
      H'.row (H2.next + 1) = some ⟨25, true, [.slice (some ⟨gi, 0, some 1⟩) (gmN n l a st0 ll.length c).2.length (gmN n l a st0 ll.length c).2.length]⟩ ∧ H'.row pi = some ⟨2, true, ints (gmN n l a st0 ll.length c).1⟩ ∧ Gms (pi + 1) gi H' (gmN n l a st0 ll.length c).2 vs ∧ Sc H' ∧ gi ≠ H2.next + 1) (k - ll.length) ?_ ?_
  · refine ⟨0, H2.next, [], by omega, by omega, ?_⟩
    try simp (disch := first | omega | (simp only [ints_length, List.length_replicate, List.length_set] <;> omega)) only [Sall,evalOp,init,binE,binI,unE,convE,okNil,builtE,gv,TD.isAgg,resV,↓reduceIte,Nat.reduceEqDiff,reduceCtorEq,Nat.reduceAdd,Nat.reduceMul,Nat.reduceLeDiff,quietOp,blindOp,Int.reduceEq,Int.reduceLT,Int.reduceLE,Nat.reduceLT,tiA, Int.natCast_zero]
    rw [hz]
    exact ⟨up3, b3, c3, p3, g3, sc3⟩
  · rintro m t H' ⟨c, gi, vs, hm, hck, h29, h28, h27, h7, h8, h2, h3, hup, hr1, hc1, hr2, hG, hsc, hgne⟩
    try simp (disch := first | omega | (simp only [ints_length, List.length_replicate, List.length_set] <;> omega)) only [Sall,evalOp,init,binE,binI,unE,convE,okNil,builtE,gv,TD.isAgg,resV,↓reduceIte,Nat.reduceEqDiff,reduceCtorEq,Nat.reduceAdd,Nat.reduceMul,Nat.reduceLeDiff,quietOp,blindOp,Int.reduceEq,Int.reduceLT,Int.reduceLE,Nat.reduceLT,tiA, h29, h28]
    refine condC_dec (fun h => ?_) (fun h => ?_)
    · obtain ⟨i', o', u', c', r', hwi, hrB, hc', hs', hg'⟩ := hw3.rd.get (by omega)
      have hr' : H'.row i' = some r' := by rw [hup.row _ (hs _ _ hrB), hrB]
      have hrl : (rnd l (ll.length + c)).length = 14 := rnd_length l (ll.length + c) k hv.1 (by omega)
      have hll := hv.1
      have hseg : seg r'.cells (o' + c * 14) 14 = ints (rnd l (ll.length + c)) := by
        rw [hg' (c * 14) 14 (by omega)]
        unfold rnd
        rw [List.drop_take, List.take_take, List.drop_drop, ← Nat.add_mul, Nat.min_eq_left (by omega)]
      have hHn := hsc _ _ hr1
      have hpn := hsc _ _ hr2
      have hcn := hsc _ _ hc1
      have hlh := hup.next
      have neC : ¬ H.next = H'.next := by omega
      try simp (disch := first | omega | (simp only [ints_length, List.length_replicate, List.length_set] <;> omega)) only [Sall,evalOp,init,binE,binI,unE,convE,okNil,builtE,gv,TD.isAgg,resV,↓reduceIte,Nat.reduceEqDiff,reduceCtorEq,Nat.reduceAdd,Nat.reduceMul,Nat.reduceLeDiff,quietOp,blindOp,Int.reduceEq,Int.reduceLT,Int.reduceLE,Nat.reduceLT,tiA, h29, h27, hwi, hr', hseg, h3, hr1, neC, hrl]
      (repeat refine And.intro (by omega) ?_)
      obtain ⟨H0, e0⟩ : ∃ H0, H0 = (H'.push ⟨46, true, ints (List.replicate 14 0)⟩).setCells H'.next (ints (rnd l (ll.length + c))) := ⟨_, rfl⟩
      have n0 : H0.next = H'.next + 1 := by rw [e0]; rfl
      have r0 : ∀ j, j < H'.next → H0.row j = H'.row j := fun j hj => by rw [e0, AH.setCells_row, if_neg (by omega), AH.push_row, if_neg (by omega)]
      have sc0 : Sc H0 := by rw [e0]; exact (hsc.push _).set _ _
      rw [← e0]
      clear e0
      refine (pairs_c n (rnd l (ll.length + c)) hrl (by omega) H0).sc.mono ?_
      rintro p H4 ⟨⟨up4, hp⟩, sc4⟩
      have hpl := hp.rd.len
      have n4 := up4.next
      have k4 : ∀ j, j < H'.next → H4.row j = H'.row j := fun j hj => by rw [up4.row j (by omega), r0 j hj]
      have hr3 : H4.row H.next = some ⟨32, true, [.int .i64 n, v]⟩ := by rw [k4 _ (by omega), hr1]
      have hr4 : H4.row pi = some ⟨2, true, ints (gmN n l a st0 ll.length c).1⟩ := by rw [k4 _ hpn, hr2]
      have hc4 : H4.row (H2.next + 1) = some ⟨25, true, [.slice (some ⟨gi, 0, some 1⟩) (gmN n l a st0 ll.length c).2.length (gmN n l a st0 ll.length c).2.length]⟩ := by rw [k4 _ hcn, hc1]
      have hG4 := hG.keep (H' := H4) fun j r _ hr => by rw [k4 _ (hsc _ _ hr), hr]
      have hgiH := hsc _ _ hG.row
      have hplen := pairsL_le (rnd l (ll.length + c)) n
      have hround := hrounds (ll.length + c) (by omega)
      have hgc := hgo c (by omega)
      have hgs : gmN n l a st0 ll.length (c + 1) = gmB n l a (gmN n l a st0 ll.length c) (ll.length + c) (pairsL (rnd l (ll.length + c)) n).length := rfl
      have hbo : ∀ b, b ≤ (pairsL (rnd l (ll.length + c)) n).length → GmOk n (2240 + 28 * c + 2 * b) (gmB n l a (gmN n l a st0 ll.length c) (ll.length + c) b) := fun b hb2 => gmB_ok hgc hround b hb2 (by omega)
      have hb0 := gmB_zero n l a (gmN n l a st0 ll.length c) (ll.length + c)
      rw [← hb0] at hr4 hG4 hc4
      have hsuc := fun b hb2 => gmB_succ n l a (gmN n l a st0 ll.length c) (ll.length + c) b hb2
      clear hgc hb0 hG hr2 hc1
      revert hr4 hc4 hG4 hgs hbo hsuc
      generalize gmB n l a (gmN n l a st0 ll.length c) (ll.length + c) = gb
      intro hr4 hc4 hG4 hgs hbo hsuc
      refine Holds.mp ?_
      try simp (disch := first | omega | (simp only [ints_length, List.length_replicate, List.length_set] <;> omega)) only [Sall,evalOp,init,binE,binI,unE,convE,okNil,builtE,gv,TD.isAgg,resV,↓reduceIte,Nat.reduceEqDiff,reduceCtorEq,Nat.reduceAdd,Nat.reduceMul,Nat.reduceLeDiff,quietOp,blindOp,Int.reduceEq,Int.reduceLT,Int.reduceLE,Nat.reduceLT,tiA, h29, h28, h27, h7, h8, h2, h3, builtE, hpl]
      refine awp_loop (fun z t H5 => ∃ (b gi : Nat) (vs : List Value), z = (pairsL (rnd l (ll.length + c)) n).length - b ∧ b ≤ (pairsL (rnd l (ll.length + c)) n).length ∧ t 38 = .int .i64 b ∧ t 37 = .int .i64 (pairsL (rnd l (ll.length + c)) n).length ∧ t 36 = p ∧ t 29 = .int .i64 c ∧ t 28 = .int .i64 (k - ll.length : Nat) ∧ t 27 = w ∧ t 7 = .slice (some ⟨pi, 0, some 1⟩) n n ∧ t 8 = .pointer (some ⟨H2.next + 1, 0, none⟩) ∧ t 2 = .int .i64 a ∧ t 3 = .pointer (some ⟨H.next, 0, none⟩) ∧ Up H.next H H5 ∧ H4.next ≤ H5.next ∧ H5.row H.next = some ⟨32, true, [.int .i64 n, v]⟩ ∧
          H5.row (H2.next + 1) = some ⟨25, true, [.slice (some ⟨gi, 0, some 1⟩) (gb b).2.length (gb b).2.length]⟩ ∧ Fr2 1 38 2 H0.next H4.next H5 p (pairsL (rnd l (ll.length + c)) n) ∧ H5.row pi = some ⟨2, true, ints (gb b).1⟩ ∧ Gms (pi + 1) gi H5 (gb b).2 vs ∧ Sc H5 ∧ (gi < H0.next ∨ H4.next ≤ gi) ∧ gi ≠ H2.next + 1) (pairsL (rnd l (ll.length + c)) n).length ?_ ?_
      · refine ⟨0, gi, vs, by omega, by omega, ?_⟩
        try simp (disch := first | omega | (simp only [ints_length, List.length_replicate, List.length_set] <;> omega)) only [Sall,evalOp,init,binE,binI,unE,convE,okNil,builtE,gv,TD.isAgg,resV,↓reduceIte,Nat.reduceEqDiff,reduceCtorEq,Nat.reduceAdd,Nat.reduceMul,Nat.reduceLeDiff,quietOp,blindOp,Int.reduceEq,Int.reduceLT,Int.reduceLE,Nat.reduceLT,tiA, Int.natCast_zero, h29, h28, h27, h7, h8, h2, h3]
        exact ⟨⟨by omega, fun j hj => by rw [k4 j (by omega), hup.row j hj]⟩, hr3, hc4, hp, hr4, hG4, sc4, .inl (by omega), hgne⟩
      · rintro z t H5 ⟨b, gi', vs', hzz, hbp, h38, h37, h36, h29, h28, h27, h7, h8, h2, h3, hup5, hn5, hr5, hc5, hp5, hpi5, hG5, sc5, hgi5, hgn5⟩
        try simp (disch := first | omega | (simp only [ints_length, List.length_replicate, List.length_set] <;> omega)) only [Sall,evalOp,init,binE,binI,unE,convE,okNil,builtE,gv,TD.isAgg,resV,↓reduceIte,Nat.reduceEqDiff,reduceCtorEq,Nat.reduceAdd,Nat.reduceMul,Nat.reduceLeDiff,quietOp,blindOp,Int.reduceEq,Int.reduceLT,Int.reduceLE,Nat.reduceLT,tiA, h38, h37]
        refine condC_dec (fun hh => ?_) (fun hh => ?_)
        · obtain ⟨qi, pvs, px, pm, pb, pc, rfl, q1, q2, q3, q4, q5, q6, q7, q8⟩ := hp5.getF (j := b) (by omega)
          have hpm := q8.lenK1
          obtain ⟨aa, ha1, ha2, ha3⟩ := pairsL_get (rnd l (ll.length + c)) n b (by omega)
          obtain ⟨_, ha4, ha5, _⟩ := roundB_at hround (a := aa) (by omega)
          have hs1' := hsuc b (by omega)
          rw [ha3] at q8 hpm hs1'
          simp only [List.length_cons, List.length_nil] at hpm
          obtain rfl : pm = 2 := hpm
          obtain ⟨i6, w1, w2, rfl, w3⟩ := q8.get (by omega)
          obtain ⟨bb, hbb⟩ : ∃ bb, bb = (rnd l (ll.length + c)).getD aa 0 := ⟨_, rfl⟩
          rw [← hbb] at w3 hs1' ha4 ha5
          have i0 : (ints [(aa : Int), bb])[Int.toNat 0]? = some (.int .i64 aa) := rfl
          have i1 : (ints [(aa : Int), bb])[Int.toNat 1]? = some (.int .i64 bb) := rfl
          have hbo5 := hbo b (by omega)
          have hbl := hbo5.len
          have hgl5 := hG5.len
          have sg : gstep a (gb b) [(aa : Int), bb] = if (aa : Int) = a ∨ bb = a then (addAt (gb b).1 a 2, (gb b).2) else ((gb b).1, (gb b).2 ++ [[(aa : Int), bb]]) := rfl
          rw [sg] at hs1'
          have hHn5 := sc5 _ _ hr5
          have hpi6 := sc5 _ _ hpi5
          have hcn5 := sc5 _ _ hc5
          have ne0 : ¬ H.next = pi := by omega
          have ne00 : ¬ H2.next + 1 = pi := by omega
          by_cases c0 : (aa : Int) = a
          · have e0 : ((aa : Int) == a) = true := by rw [c0]; exact beq_self_eq_true _
            rw [if_pos (.inl c0)] at hs1'
            try simp (disch := first | omega | (simp only [ints_length, List.length_replicate, List.length_set] <;> omega)) only [Sall,evalOp,init,binE,binI,unE,convE,okNil,builtE,gv,TD.isAgg,resV,↓reduceIte,Nat.reduceEqDiff,reduceCtorEq,Nat.reduceAdd,Nat.reduceMul,Nat.reduceLeDiff,quietOp,blindOp,Int.reduceEq,Int.reduceLT,Int.reduceLE,Nat.reduceLT,tiA, h38, h37, h36, h29, h28, h27, h7, h8, h2, h3, q3, q5, w3, i0, i1, e0, hpi5, ints_get?, ints_set, hbl, ne0, ne00, w64]
            (repeat refine And.intro (by omega) ?_)
            refine ⟨(pairsL (rnd l (ll.length + c)) n).length - (b + 1), by omega, b + 1, gi', vs', rfl, by omega, by omega, hup5.set (by omega) _, hn5, hr5, by rw [hs1']; exact hc5, hp5.same fun j j1 j2 => by rw [AH.setCells_row, if_neg (by omega)], ?_, ?_, sc5.set _ _, hgi5, hgn5⟩
            · rw [hs1']; rfl
            · rw [hs1']; exact hG5.keep fun j r j1 hr => by rw [AH.setCells_row, if_neg (by omega)]; exact hr
          · have e0 : ((aa : Int) == a) = false := beq_eq_false_iff_ne.2 c0
            by_cases c1 : bb = a
            · have e2 : (bb == a) = true := by rw [c1]; exact beq_self_eq_true _
              rw [if_pos (.inr c1)] at hs1'
              try simp (disch := first | omega | (simp only [ints_length, List.length_replicate, List.length_set] <;> omega)) only [Sall,evalOp,init,binE,binI,unE,convE,okNil,builtE,gv,TD.isAgg,resV,↓reduceIte,Nat.reduceEqDiff,reduceCtorEq,Nat.reduceAdd,Nat.reduceMul,Nat.reduceLeDiff,quietOp,blindOp,Int.reduceEq,Int.reduceLT,Int.reduceLE,Nat.reduceLT,tiA, h38, h37, h36, h29, h28, h27, h7, h8, h2, h3, q3, q5, w3, i0, i1, e0, e2, hpi5, ints_get?, ints_set, hbl, ne0, ne00, w64]
              (repeat refine And.intro (by omega) ?_)
              refine ⟨(pairsL (rnd l (ll.length + c)) n).length - (b + 1), by omega, b + 1, gi', vs', rfl, by omega, by omega, hup5.set (by omega) _, hn5, hr5, by rw [hs1']; exact hc5, hp5.same fun j j1 j2 => by rw [AH.setCells_row, if_neg (by omega)], ?_, ?_, sc5.set _ _, hgi5, hgn5⟩
              · rw [hs1']; rfl
              · rw [hs1']; exact hG5.keep fun j r j1 hr => by rw [AH.setCells_row, if_neg (by omega)]; exact hr
            · have e2 : (bb == a) = false := beq_eq_false_iff_ne.2 c1
              rw [if_neg (fun h => h.elim c0 c1)] at hs1'
              have zz : zeros 1 [.slice none 0 0] = [.slice none 0 0] := rfl
              have ne1 : ¬ H2.next + 1 = H5.next := by omega
              try simp (disch := first | omega | (simp only [ints_length, List.length_replicate, List.length_set] <;> omega)) only [Sall,evalOp,init,binE,binI,unE,convE,okNil,builtE,gv,TD.isAgg,resV,↓reduceIte,Nat.reduceEqDiff,reduceCtorEq,Nat.reduceAdd,Nat.reduceMul,Nat.reduceLeDiff,quietOp,blindOp,Int.reduceEq,Int.reduceLT,Int.reduceLE,Nat.reduceLT,tiA, h38, h37, h36, h29, h28, h27, h7, h8, h2, h3, q3, q5, w3, i0, i1, e0, e2, hc5, zz, slCells]
              (repeat refine And.intro (by omega) ?_)
              obtain ⟨H6, e6⟩ : ∃ H6, H6 = H5.push ⟨38, true, [.slice (some ⟨i6, 0, some 1⟩) 2 2]⟩ := ⟨_, rfl⟩
              have n6 : H6.next = H5.next + 1 := by rw [e6]; rfl
              have r6 : ∀ j, j < H5.next → H6.row j = H5.row j := fun j hj => by rw [e6, AH.push_row, if_neg (by omega)]
              have sc6 : Sc H6 := by rw [e6]; exact sc5.push _
              rw [← e6]
              clear e6
              have hi6 := sc5 _ _ w3
              have few := (hbo b (by omega)).few
              refine appE_gms (hG5.keep (H' := H6) fun j r _ hr => by rw [r6 _ (sc5 _ _ hr)]; exact hr) sc6 rfl (by decide) (by omega) (ys := [[(aa : Int), bb]]) rfl rfl (by omega) (fun j hj => ⟨i6, by omega, ?_, ?_, ?_⟩) ?_
              · obtain rfl : j = 0 := by omega
                rfl
              · rw [r6 _ hi6, w3]
                obtain rfl : j = 0 := by omega
                rfl
              · obtain rfl : j = 0 := by omega
                rfl
              · intro H7 n7 sc7 s7 hG7
                have hgi6 := sc5 _ _ hG5.row
                have hglo := hG5.glo
                have hgne2 : ∀ j, j ≠ gi' → j < H5.next → H7.row j = H5.row j := fun j j1 j2 => by rw [s7 j (by omega) j1, r6 j j2]
                have hc7 : H7.row (H2.next + 1) = some ⟨25, true, [.slice (some ⟨gi', 0, some 1⟩) (gb b).2.length (gb b).2.length]⟩ := by rw [hgne2 _ (Ne.symm hgn5) hcn5, hc5]
                have ne2 : ¬ H.next = H2.next + 1 := by omega
                have ne3 : ¬ pi = H2.next + 1 := by omega
                try simp (disch := first | omega | (simp only [ints_length, List.length_replicate, List.length_set] <;> omega)) only [Sall,evalOp,init,binE,binI,unE,convE,okNil,builtE,gv,TD.isAgg,resV,↓reduceIte,Nat.reduceEqDiff,reduceCtorEq,Nat.reduceAdd,Nat.reduceMul,Nat.reduceLeDiff,quietOp,blindOp,Int.reduceEq,Int.reduceLT,Int.reduceLE,Nat.reduceLT,tiA, h38, h37, h36, h29, h28, h27, h7, h8, h2, h3, hc7, ne2, ne3, w64]
                refine ⟨(pairsL (rnd l (ll.length + c)) n).length - (b + 1), by omega, b + 1, H6.next, vs' ++ [.slice (some ⟨i6, 0, some 1⟩) 2 2], rfl, by omega, by omega, ⟨by rw [AH.setCells_next]; have := hup5.next; omega, fun j hj => by rw [AH.setCells_row, if_neg (by omega), hgne2 j (by omega) (by omega), hup5.row j hj]⟩, by omega, ?_, ?_, hp5.same fun j j1 j2 => by rw [AH.setCells_row, if_neg (by omega), hgne2 j (by omega) (by omega)], ?_, ?_, sc7.set _ _, .inr (by omega), by omega⟩
                · rw [hgne2 _ (by omega) hHn5]; exact hr5
                · rw [hs1']; simp
                · rw [hgne2 _ (by omega) hpi6, hs1']; exact hpi5
                · rw [hs1']
                  refine hG7.keepT fun j r j1 ht hr => ?_
                  rw [AH.setCells_row, if_neg (fun e => by
                    subst e
                    rw [hc7] at hr
                    cases hr
                    rcases ht with h | h <;> cases h)]
                  exact hr
        · have hbe : b = (pairsL (rnd l (ll.length + c)) n).length := by omega
          rw [hbe, ← hgs] at hc5 hpi5 hG5
          try simp (disch := first | omega | (simp only [ints_length, List.length_replicate, List.length_set] <;> omega)) only [Sall,evalOp,init,binE,binI,unE,convE,okNil,builtE,gv,TD.isAgg,resV,↓reduceIte,Nat.reduceEqDiff,reduceCtorEq,Nat.reduceAdd,Nat.reduceMul,Nat.reduceLeDiff,quietOp,blindOp,Int.reduceEq,Int.reduceLT,Int.reduceLE,Nat.reduceLT,tiA, h29, h28, h27, h7, h8, h2, h3, w64]
          exact ⟨k - ll.length - (c + 1), by omega, c + 1, gi', vs', rfl, by omega, by omega, hup5, hr5, hc5, hpi5, hG5, sc5, hgn5⟩
    · have hce : c = k - ll.length := by omega
      rw [hce] at hc1 hr2 hG
      obtain ⟨st, hst⟩ : ∃ st, st = gmN n l a st0 ll.length (k - ll.length) := ⟨_, rfl⟩
      rw [← hst] at hc1 hr2 hG hgm ⊢
      clear hce hgo p3 hz g3 gm0 hst
      obtain ⟨pts, gs⟩ := st
      dsimp only at hc1 hr2 hG hgm ⊢
      have hHn := hsc _ _ hr1
      have hpn := hsc _ _ hr2
      have hcn := hsc _ _ hc1
      have hln : pts.length = n := hgm.len
      have hbnd : ∀ j, 0 ≤ pts.getD j 0 ∧ pts.getD j 0 ≤ 3360 := fun j => by have := hgm.bnd j; dsimp only at this; omega
      try simp (disch := first | omega | (simp only [ints_length, List.length_replicate, List.length_set] <;> omega)) only [Sall,evalOp,init,binE,binI,unE,convE,okNil,builtE,gv,TD.isAgg,resV,↓reduceIte,Nat.reduceEqDiff,reduceCtorEq,Nat.reduceAdd,Nat.reduceMul,Nat.reduceLeDiff,quietOp,blindOp,Int.reduceEq,Int.reduceLT,Int.reduceLE,Nat.reduceLT,tiA, h7, h8, h2, h3, zeros_zero]
      obtain ⟨H5, e5⟩ : ∃ H5, H5 = ((H'.push ⟨2, true, []⟩).push ⟨38, true, [.slice none 0 0]⟩).setCells (H'.next + 1) [.slice (some ⟨H'.next, 0, some 1⟩) 0 0] := ⟨_, rfl⟩
      have n5 : H5.next = H'.next + 2 := by rw [e5]; rfl
      have r5 : ∀ j, j < H'.next → H5.row j = H'.row j := fun j hj => by rw [e5, AH.setCells_row, if_neg (by omega), AH.push_row, if_neg (by rw [AH.push_next]; omega), AH.push_row, if_neg (by omega)]
      have sc5 : Sc H5 := by rw [e5]; exact ((hsc.push _).push _).set _ _
      have c5 : H5.row (H'.next + 1) = some ⟨38, true, [.slice (some ⟨H'.next, 0, some 1⟩) 0 0]⟩ := by rw [e5, AH.setCells_row, if_pos rfl, AH.push_row, if_pos (by rw [AH.push_next])]; rfl
      have f5 : Fr 1 2 H'.next (H'.next + 1) H5 (.slice (some ⟨H'.next, 0, some 1⟩) 0 0) 0 (roomL 0 pts a) := ⟨rfl, .inr ⟨H'.next, Nat.le_refl _, Nat.lt_succ_self _, rfl, by rw [e5, AH.setCells_row, if_neg (by omega), AH.push_row, if_neg (by rw [AH.push_next]; omega), AH.push_row, if_pos rfl]; rfl⟩⟩
      rw [← e5]
      clear e5
      refine awp_loop (fun z t H6 => ∃ (b lo hi : Nat) (rv : Value), z = n - b ∧ b ≤ n ∧ t 69 = .int .i64 b ∧ t 68 = .int .i64 n ∧ t 67 = .slice (some ⟨pi, 0, some 1⟩) n n ∧ t 13 = .pointer (some ⟨H'.next + 1, 0, none⟩) ∧ t 7 = .slice (some ⟨pi, 0, some 1⟩) n n ∧ t 8 = .pointer (some ⟨H2.next + 1, 0, none⟩) ∧ t 2 = .int .i64 a ∧ t 3 = .pointer (some ⟨H.next, 0, none⟩) ∧
        H'.next + 2 ≤ H6.next ∧ (∀ j, j < H'.next → H6.row j = H'.row j) ∧ H6.row (H'.next + 1) = some ⟨38, true, [rv]⟩ ∧ Fr 1 2 lo hi H6 rv b (roomL b pts a) ∧ H'.next ≤ lo ∧ lo ≤ hi ∧ hi ≤ H6.next ∧ (hi ≤ H'.next + 1 ∨ H'.next + 2 ≤ lo) ∧ Sc H6 ∧ ∀ j, j < b → ¬ pts.getD a.toNat 0 < pts.getD j 0) n ?_ ?_
      · refine ⟨0, H'.next, H'.next + 1, .slice (some ⟨H'.next, 0, some 1⟩) 0 0, by omega, by omega, ?_⟩
        try simp (disch := first | omega | (simp only [ints_length, List.length_replicate, List.length_set] <;> omega)) only [Sall,evalOp,init,binE,binI,unE,convE,okNil,builtE,gv,TD.isAgg,resV,↓reduceIte,Nat.reduceEqDiff,reduceCtorEq,Nat.reduceAdd,Nat.reduceMul,Nat.reduceLeDiff,quietOp,blindOp,Int.reduceEq,Int.reduceLT,Int.reduceLE,Nat.reduceLT,tiA, Int.natCast_zero, h7, h8, h2, h3, f5]
        exact ⟨by omega, r5, c5, by omega, by omega, sc5, fun j hj => by omega⟩
      · rintro z t H6 ⟨b, lo, hi, rv, hz, hbn, h69, h68, h67, h13, h7, h8, h2, h3, hn6, hr6, hc6, f6, hlo, hlh, hhi, hlc, sc6, hno⟩
        have hr61 : H6.row H.next = some ⟨32, true, [.int .i64 n, v]⟩ := by rw [hr6 _ hHn, hr1]
        have hr62 : H6.row pi = some ⟨2, true, ints pts⟩ := by rw [hr6 _ hpn, hr2]
        have hr63 := hr6 _ hcn
        rw [hc1] at hr63
        try simp (disch := first | omega | (simp only [ints_length, List.length_replicate, List.length_set] <;> omega)) only [Sall,evalOp,init,binE,binI,unE,convE,okNil,builtE,gv,TD.isAgg,resV,↓reduceIte,Nat.reduceEqDiff,reduceCtorEq,Nat.reduceAdd,Nat.reduceMul,Nat.reduceLeDiff,quietOp,blindOp,Int.reduceEq,Int.reduceLT,Int.reduceLE,Nat.reduceLT,tiA, h69, h68]
        refine condC_dec (fun hh => ?_) (fun hh => ?_)
        · have hba := hbnd a.toNat
          have hbb := hbnd b
          have zz : zeros 1 [.int .i64 0] = [.int .i64 0] := rfl
          have gb : (ints pts)[b]? = some (.int .i64 (pts.getD b 0)) := ints_get? pts b (by omega)
          have ga : (ints pts)[a.toNat]? = some (.int .i64 (pts.getD a.toNat 0)) := ints_get? pts a.toNat (by omega)
          by_cases hov : pts.getD a.toNat 0 < pts.getD b 0
          · have eo : overB n pts a = true := List.any_eq_true.2 ⟨b, List.mem_range.2 (by omega), decide_eq_true hov⟩
            have e1 : decide (pts.getD b 0 > pts.getD a.toNat 0) = true := decide_eq_true hov
            rw [if_pos eo]
            try simp (disch := first | omega | (simp only [ints_length, List.length_replicate, List.length_set] <;> omega)) only [Sall,evalOp,init,binE,binI,unE,convE,okNil,builtE,gv,TD.isAgg,resV,↓reduceIte,Nat.reduceEqDiff,reduceCtorEq,Nat.reduceAdd,Nat.reduceMul,Nat.reduceLeDiff,quietOp,blindOp,Int.reduceEq,Int.reduceLT,Int.reduceLE,Nat.reduceLT,tiA, h69, h67, h7, h2, hr62, ga, gb, hln, e1, decide_true, hov]
            (repeat refine And.intro (by omega) ?_)
            try simp (disch := first | omega | (simp only [ints_length, List.length_replicate, List.length_set] <;> omega)) only [Sall,evalOp,init,binE,binI,unE,convE,okNil,builtE,gv,TD.isAgg,resV,↓reduceIte,Nat.reduceEqDiff,reduceCtorEq,Nat.reduceAdd,Nat.reduceMul,Nat.reduceLeDiff,quietOp,blindOp,Int.reduceEq,Int.reduceLT,Int.reduceLE,Nat.reduceLT,tiA, e1, decide_true, hov]
            exact ⟨by have := hup.next; omega, fun j hj => by rw [hr6 j (by omega), hup.row j hj]⟩
          · have e1 : decide (pts.getD b 0 > pts.getD a.toNat 0) = false := decide_eq_false hov
            try simp (disch := first | omega | (simp only [ints_length, List.length_replicate, List.length_set] <;> omega)) only [Sall,evalOp,init,binE,binI,unE,convE,okNil,builtE,gv,TD.isAgg,resV,↓reduceIte,Nat.reduceEqDiff,reduceCtorEq,Nat.reduceAdd,Nat.reduceMul,Nat.reduceLeDiff,quietOp,blindOp,Int.reduceEq,Int.reduceLT,Int.reduceLE,Nat.reduceLT,tiA, h69, h67, h7, h2, hr62, ga, gb, hln, e1]
            (repeat refine And.intro (by omega) ?_)
            try simp (disch := first | omega | (simp only [ints_length, List.length_replicate, List.length_set] <;> omega)) only [Sall,evalOp,init,binE,binI,unE,convE,okNil,builtE,gv,TD.isAgg,resV,↓reduceIte,Nat.reduceEqDiff,reduceCtorEq,Nat.reduceAdd,Nat.reduceMul,Nat.reduceLeDiff,quietOp,blindOp,Int.reduceEq,Int.reduceLT,Int.reduceLE,Nat.reduceLT,tiA, h69, h67, h7, h2, hr62, ga, gb, hln, e1, h13]
            refine draw_id (by kernel_rfl) (by kernel_rfl) ?_
            try simp (disch := first | omega | (simp only [ints_length, List.length_replicate, List.length_set] <;> omega)) only [Sall,evalOp,init,binE,binI,unE,convE,okNil,builtE,gv,TD.isAgg,resV,↓reduceIte,Nat.reduceEqDiff,reduceCtorEq,Nat.reduceAdd,Nat.reduceMul,Nat.reduceLeDiff,quietOp,blindOp,Int.reduceEq,Int.reduceLT,Int.reduceLE,Nat.reduceLT,tiA, h13, h7, h2, hr62, hc6, ga, gb, zz, slCells, hln, w64]
            (repeat refine And.intro (by omega) ?_)
            refine ⟨.inr (.inr (sc6.le _)), ?_⟩
            obtain ⟨H7, e7⟩ : ∃ H7, H7 = H6.push ⟨2, true, [.int .i64 (pts.getD a.toNat 0 - pts.getD b 0)]⟩ := ⟨_, rfl⟩
            have n7 : H7.next = H6.next + 1 := by rw [e7]; rfl
            have r7 : ∀ j, j < H6.next → H7.row j = H6.row j := fun j hj => by rw [e7, AH.push_row, if_neg (by omega)]
            have sc7 : Sc H7 := by rw [e7]; exact sc6.push _
            rw [← e7]
            clear e7
            refine appE_frS (k := 1) (lo := lo) (hi := hi) (l := roomL b pts a) (m := [pts.getD a.toNat 0 - pts.getD b 0]) (f6.same fun j _ hj => r7 j (by omega)) rfl (by omega) rfl (by omega) (by decide) (by omega) (by omega) sc7 ?_
            intro v' H8 n8 s8 sc8 f8
            refine ⟨.inr (.inl (by kernel_rfl)), ?_⟩
            have er : roomL b pts a ++ [pts.getD a.toNat 0 - pts.getD b 0] = roomL (b + 1) pts a := by simp [roomL, List.range_succ]
            rw [er] at f8
            have hr8 : ∀ j, j < H'.next → H8.row j = H'.row j := fun j hj => by rw [s8 j (by omega) (by omega), r7 j (by omega), hr6 j hj]
            have hc8 : H8.row (H'.next + 1) = some ⟨38, true, [rv]⟩ := by rw [s8 _ (by omega) (by omega), r7 _ (by omega), hc6]
            have hone8 := f8.rd.one
            try simp (disch := first | omega | (simp only [ints_length, List.length_replicate, List.length_set] <;> omega)) only [Sall,evalOp,init,binE,binI,unE,convE,okNil,builtE,gv,TD.isAgg,resV,↓reduceIte,Nat.reduceEqDiff,reduceCtorEq,Nat.reduceAdd,Nat.reduceMul,Nat.reduceLeDiff,quietOp,blindOp,Int.reduceEq,Int.reduceLT,Int.reduceLE,Nat.reduceLT,tiA, h69, h68, h67, h7, h8, h2, h3, h13, hc8, hone8, w64]
            (repeat refine And.intro (by omega) ?_)
            refine ⟨.inr (.inl (by kernel_rfl)), n - (b + 1), by omega, b + 1, H7.next, H7.next + 1, v', rfl, by omega, by omega, by omega, ?_⟩
            exact ⟨fun j hj => by rw [if_neg (by omega)]; exact hr8 j hj, rfl, f8.same fun j j1 j2 => by rw [AH.setCells_row, if_neg (by omega)], by omega, by omega, by omega, .inr (by omega), sc8.set _ _, fun j hj => by
              by_cases e : j = b
              · rw [e]; exact hov
              · exact hno j (by omega)⟩
        · have hbe : b = n := by omega
          subst hbe
          have eo : ¬ overB b pts a = true := fun h => by
            obtain ⟨j, hj, hd⟩ := List.any_eq_true.1 h
            exact hno j (List.mem_range.1 hj) (of_decide_eq_true hd)
          rw [if_neg eo]
          obtain ⟨ri, ri1, ri2, rfl, rir⟩ := f6.get (by omega)
          have few := hgm.few
          dsimp only at few
          have hgiH := hsc _ _ hG.row
          obtain ⟨G, hGd⟩ : ∃ G, G = gs.length := ⟨_, rfl⟩
          have e9 : zeros G [.slice none 0 0] = List.replicate G (.slice none 0 0) := zeros_nil G
          rw [← hGd] at hr63 ⊢
          have neE : ¬ H2.next = H6.next + 1 := by omega
          have neF : ¬ H2.next = H6.next := by omega
          have neG : ¬ H2.next + 1 = H6.next := by omega
          try simp (disch := first | omega | (simp only [ints_length, List.length_replicate, List.length_set] <;> omega)) only [Sall,evalOp,init,binE,binI,unE,convE,okNil,builtE,gv,TD.isAgg,resV,↓reduceIte,Nat.reduceEqDiff,reduceCtorEq,Nat.reduceAdd,Nat.reduceMul,Nat.reduceLeDiff,quietOp,blindOp,Int.reduceEq,Int.reduceLT,Int.reduceLE,Nat.reduceLT,tiA, h7, h8, h2, h3, h13, hr63, e9, neE, neF, neG]
          (repeat refine And.intro (by omega) ?_)
          try simp (disch := first | omega | (simp only [ints_length, List.length_replicate, List.length_set] <;> omega)) only [Sall,evalOp,init,binE,binI,unE,convE,okNil,builtE,gv,TD.isAgg,resV,↓reduceIte,Nat.reduceEqDiff,reduceCtorEq,Nat.reduceAdd,Nat.reduceMul,Nat.reduceLeDiff,quietOp,blindOp,Int.reduceEq,Int.reduceLT,Int.reduceLE,Nat.reduceLT,tiA, h7, h8, h2, h3, h13, hr63, e9, neE, neF, neG, List.mem_cons, List.not_mem_nil, or_false, forall_eq_or_imp, forall_eq, Array.size_empty]
          obtain ⟨H7, e7⟩ : ∃ H7, H7 = ((((H6.push ⟨38, true, List.replicate G (.slice none 0 0)⟩).push ⟨25, true, [.slice none 0 0]⟩).setCells (H6.next + 1) [.slice (some ⟨H6.next, 0, some 1⟩) G G]).push ⟨143, true, [.nilFunc]⟩).setCells (H6.next + 2) [.func (.func 161) #[] #[.pointer (some ⟨H2.next + 1, 0, none⟩), .pointer (some ⟨H'.next + 1, 0, none⟩), .pointer (some ⟨H6.next + 1, 0, none⟩), .pointer (some ⟨H6.next + 2, 0, none⟩)]] := ⟨_, rfl⟩
          have n7 : H7.next = H6.next + 3 := by rw [e7]; rfl
          have r7 : ∀ j, j < H6.next → H7.row j = H6.row j := fun j hj => by rw [e7]; simp only [AH.setCells_row, AH.push_row, AH.push_next, AH.setCells_next]; rw [if_neg (by omega), if_neg (by omega), if_neg (by omega), if_neg (by omega), if_neg (by omega)]
          have sc7 : Sc H7 := by rw [e7]; exact ((((sc6.push _).push _).set _ _).push _).set _ _
          have o7 : H7.row H6.next = some ⟨38, true, List.replicate G (.slice none 0 0)⟩ := by rw [e7]; simp only [AH.setCells_row, AH.push_row, AH.push_next, AH.setCells_next]; rw [if_neg (by omega), if_neg (by omega), if_neg (by omega), if_neg (by omega), if_true]
          have oc7 : H7.row (H6.next + 1) = some ⟨25, true, [.slice (some ⟨H6.next, 0, some 1⟩) G G]⟩ := by rw [e7]; simp only [AH.setCells_row, AH.push_row, AH.push_next, AH.setCells_next]; rw [if_neg (by omega), if_neg (by omega), if_true, if_true]; rfl
          have gc7 : H7.row (H6.next + 2) = some ⟨143, true, [.func (.func 161) #[] #[.pointer (some ⟨H2.next + 1, 0, none⟩), .pointer (some ⟨H'.next + 1, 0, none⟩), .pointer (some ⟨H6.next + 1, 0, none⟩), .pointer (some ⟨H6.next + 2, 0, none⟩)]]⟩ := by rw [e7]; simp only [AH.setCells_row, AH.push_row, AH.push_next, AH.setCells_next]; rw [if_true, if_true]; rfl
          have le7 : H7.row (H2.next + 1) = some ⟨25, true, [.slice (some ⟨gi, 0, some 1⟩) G G]⟩ := by rw [r7 _ (by omega)]; exact hr63
          have rc7 : H7.row (H'.next + 1) = some ⟨38, true, [.slice (some ⟨ri, 0, some 1⟩) b b]⟩ := by rw [r7 _ (by omega)]; exact hc6
          have s7 : H7.row H.next = some ⟨32, true, [.int .i64 b, v]⟩ := by rw [r7 _ (by omega)]; exact hr61
          have ri7 : H7.row ri = some ⟨2, true, ints (roomL b pts a)⟩ := by rw [r7 _ (by omega)]; exact rir
          rw [← e7]
          clear e7
          have hgm7 : GmR (H6.next + 3) ri H6.next G (tmG gs) H7 (.slice (some ⟨gi, 0, some 1⟩) G G) := by
            refine ⟨gi, vs, rfl, by omega, by omega, by omega, by rw [r7 _ (by omega), hr6 _ hgiH]; exact hG.row, fun j hj => ?_⟩
            obtain ⟨q, q1, q2, q3, q4⟩ := hG.at_ j (by omega)
            have hq := hsc _ _ q3
            refine ⟨q, by omega, by omega, by omega, q2, ?_⟩
            rw [r7 _ (by omega), hr6 _ hq, q3]
            have := tmG_pair hgm (g := j) (by dsimp only; omega)
            dsimp only at this
            rw [this]
          have htm : ∀ j k', tmG gs j k' < b := tmG_lt hgm (by omega)
          obtain ⟨tm, htmd⟩ : ∃ tm, tm = tmG gs := ⟨_, rfl⟩
          rw [← htmd] at htm hgm7 ⊢
          clear htmd
          have hru : ∀ c, (roomL b pts a).getD c 0 ≤ 4294967296 := fun c => by
            by_cases hc : c < b
            · rw [roomL_get hc]; have := hbnd a.toNat; have := hbnd c; omega
            · rw [List.getD_eq_getElem?_getD, List.getElem?_eq_none (by rw [roomL_length]; omega)]; show (0 : Int) ≤ _; omega
          have hnil : ∀ g, (List.replicate G ([] : List Int)).getD g [] = [] := fun g => by
            rw [List.getD_eq_getElem?_getD, List.getElem?_replicate]; split <;> rfl
          have hW0 : WI b G 0 (List.replicate G []) (roomL b pts a) := by
            refine ⟨fun mt hmt => ⟨by simp, roomL_length _ _ _, hmt, fun g x hx => ?_, fun c hc => ?_⟩, fun g hg => ?_, hru⟩
            · have hx : x ∈ (List.replicate G ([] : List Int)).getD g [] := hx
              rw [hnil] at hx; simp at hx
            · show 0 ≤ (roomL b pts a).getD c 0
              rw [roomL_get hc]
              have := hno c hc
              omega
            · rw [hnil]; simp
          have hO0 : OwR (H6.next + 3) H6.next H7 (List.replicate G []) (List.replicate G (.slice none 0 0)) (fun g => g) := by
            refine ⟨o7, by simp, fun g hg => .inl ⟨?_, hnil g⟩, fun g g' _ _ h => absurd (hnil g) h⟩
            rw [List.length_replicate] at hg
            rw [List.getElem?_replicate, if_pos hg]
          obtain ⟨rm0, hrm0⟩ : ∃ rm0, rm0 = roomL b pts a := ⟨_, rfl⟩
          rw [← hrm0] at ri7 hW0 ⊢
          have upH : ∀ H8 : AH, H6.next + 3 ≤ H8.next → (∀ j, j < H6.next + 3 → j ≠ ri → j ≠ H6.next → H8.row j = H7.row j) → Up H.next H H8 := fun H8 h1 h2 => ⟨by have := hup.next; omega, fun j hj => by
            rw [h2 j (by omega) (by omega) (by omega), r7 j (by omega), hr6 j (by omega), hup.row j hj]⟩
          rw [show List.range' 0 (2 * G) = List.range' (2 * 0) (2 * G - 2 * 0) from rfl]
          refine awp_loop (fun z t H8 => ∃ (g : Nat) (ow : List (List Int)) (rm : List Int), z = G - g ∧ g ≤ G ∧ t 95 = .int .i64 g ∧ t 94 = .int .i64 G ∧ t 17 = .pointer (some ⟨H6.next + 2, 0, none⟩) ∧ t 3 = .pointer (some ⟨H.next, 0, none⟩) ∧
            allH tm b G (List.range' (2 * 0) (2 * G - 2 * 0)) (List.replicate G []) rm0 = allH tm b G (List.range' (2 * g) (2 * G - 2 * g)) ow rm ∧ WI b G (2 * g) ow rm ∧
            (∃ vs q, OwR (H6.next + 3) H6.next H8 ow vs q) ∧ H8.row ri = some ⟨2, true, ints rm⟩ ∧ (∀ j, j < H6.next + 3 → j ≠ ri → j ≠ H6.next → H8.row j = H7.row j) ∧ H6.next + 3 ≤ H8.next ∧ Sc H8) G ?_ ?_
          · refine ⟨0, List.replicate G [], rm0, by omega, by omega, ?_⟩
            try simp (disch := first | omega | (simp only [ints_length, List.length_replicate, List.length_set] <;> omega)) only [Sall,evalOp,init,binE,binI,unE,convE,okNil,builtE,gv,TD.isAgg,resV,↓reduceIte,Nat.reduceEqDiff,reduceCtorEq,Nat.reduceAdd,Nat.reduceMul,Nat.reduceLeDiff,quietOp,blindOp,Int.reduceEq,Int.reduceLT,Int.reduceLE,Nat.reduceLT,tiA, Int.natCast_zero, h3]
            exact ⟨hW0, ⟨_, _, hO0⟩, ri7, by omega, sc7⟩
          · rintro z t H8 ⟨g, ow, rm, hz, hgG, h95, h94, h17, h3, hAll, hW, hO, hrm, hfx, hn8, sc8⟩
            rw [hAll]
            try simp (disch := first | omega | (simp only [ints_length, List.length_replicate, List.length_set] <;> omega)) only [Sall,evalOp,init,binE,binI,unE,convE,okNil,builtE,gv,TD.isAgg,resV,↓reduceIte,Nat.reduceEqDiff,reduceCtorEq,Nat.reduceAdd,Nat.reduceMul,Nat.reduceLeDiff,quietOp,blindOp,Int.reduceEq,Int.reduceLT,Int.reduceLE,Nat.reduceLT,tiA, h95, h94]
            refine condC_dec (fun hh => ?_) (fun hh => ?_)
            · try simp (disch := first | omega | (simp only [ints_length, List.length_replicate, List.length_set] <;> omega)) only [Sall,evalOp,init,binE,binI,unE,convE,okNil,builtE,gv,TD.isAgg,resV,↓reduceIte,Nat.reduceEqDiff,reduceCtorEq,Nat.reduceAdd,Nat.reduceMul,Nat.reduceLeDiff,quietOp,blindOp,Int.reduceEq,Int.reduceLT,Int.reduceLE,Nat.reduceLT,tiA, h95, h94, h17, h3]
              rw [show List.range' (2 * g) (2 * G - 2 * g) = List.range' (2 * g + 0) (2 * G - (2 * g + 0)) from rfl]
              refine awp_loop (fun y t H9 => ∃ (z : Nat) (ow' : List (List Int)) (rm' : List Int), y = 2 - z ∧ z ≤ 2 ∧ t 98 = .int .i64 z ∧ t 18 = .int .i64 g ∧ t 95 = .int .i64 g ∧ t 94 = .int .i64 G ∧ t 17 = .pointer (some ⟨H6.next + 2, 0, none⟩) ∧ t 3 = .pointer (some ⟨H.next, 0, none⟩) ∧
                allH tm b G (List.range' (2 * g + 0) (2 * G - (2 * g + 0))) ow rm = allH tm b G (List.range' (2 * g + z) (2 * G - (2 * g + z))) ow' rm' ∧ WI b G (2 * g + z) ow' rm' ∧
                (∃ vs q, OwR (H6.next + 3) H6.next H9 ow' vs q) ∧ H9.row ri = some ⟨2, true, ints rm'⟩ ∧ (∀ j, j < H6.next + 3 → j ≠ ri → j ≠ H6.next → H9.row j = H7.row j) ∧ H6.next + 3 ≤ H9.next ∧ Sc H9) 2 ?_ ?_
              · refine ⟨0, ow, rm, by omega, by omega, ?_⟩
                try simp (disch := first | omega | (simp only [ints_length, List.length_replicate, List.length_set] <;> omega)) only [Sall,evalOp,init,binE,binI,unE,convE,okNil,builtE,gv,TD.isAgg,resV,↓reduceIte,Nat.reduceEqDiff,reduceCtorEq,Nat.reduceAdd,Nat.reduceMul,Nat.reduceLeDiff,quietOp,blindOp,Int.reduceEq,Int.reduceLT,Int.reduceLE,Nat.reduceLT,tiA, Int.natCast_zero, h95, h94, h17, h3]
                exact ⟨hW, hO, hrm, hfx, hn8, sc8⟩
              · rintro y t H9 ⟨z', ow', rm', hy, hz2, h98, h18, h95, h94, h17, h3, hAll', hW', ⟨vs', q', hO'⟩, hrm', hfx', hn9, sc9⟩
                rw [hAll']
                try simp (disch := first | omega | (simp only [ints_length, List.length_replicate, List.length_set] <;> omega)) only [Sall,evalOp,init,binE,binI,unE,convE,okNil,builtE,gv,TD.isAgg,resV,↓reduceIte,Nat.reduceEqDiff,reduceCtorEq,Nat.reduceAdd,Nat.reduceMul,Nat.reduceLeDiff,quietOp,blindOp,Int.reduceEq,Int.reduceLT,Int.reduceLE,Nat.reduceLT,tiA, h98]
                refine condC_dec (fun h2 => ?_) (fun h2 => ?_)
                · rw [show 2 * G - (2 * g + z') = (2 * G - (2 * g + z' + 1)) + 1 by omega, List.range'_succ]
                  have hst : allH tm b G ((2 * g + z') :: List.range' (2 * g + z' + 1) (2 * G - (2 * g + z' + 1))) ow' rm' = (if (hiveF tm G (b + 1) ⟨ow', rm', List.replicate b false⟩ ((2 * g + z') / 2)).1 = true then allH tm b G (List.range' (2 * g + z' + 1) (2 * G - (2 * g + z' + 1))) (hiveF tm G (b + 1) ⟨ow', rm', List.replicate b false⟩ ((2 * g + z') / 2)).2.ow (hiveF tm G (b + 1) ⟨ow', rm', List.replicate b false⟩ ((2 * g + z') / 2)).2.rm else false) := rfl
                  rw [hst]
                  have hWs := hW'.step (tm := tm) htm (by omega)
                  have hg2 : (2 * g + z') / 2 = g := by omega
                  rw [hg2] at hWs ⊢
                  have s9 := hfx' H.next (by omega) (by omega) (by omega)
                  rw [s7] at s9
                  have gc9 := hfx' (H6.next + 2) (by omega) (by omega) (by omega)
                  rw [gc7] at gc9
                  have ez : zeros b [.bool false] = bools (List.replicate b false) := zeros_bools b
                  try simp (disch := first | omega | (simp only [ints_length, List.length_replicate, List.length_set] <;> omega)) only [Sall,evalOp,init,binE,binI,unE,convE,okNil,builtE,gv,TD.isAgg,resV,↓reduceIte,Nat.reduceEqDiff,reduceCtorEq,Nat.reduceAdd,Nat.reduceMul,Nat.reduceLeDiff,quietOp,blindOp,Int.reduceEq,Int.reduceLT,Int.reduceLE,Nat.reduceLT,tiA, h98, h18, h95, h94, h17, h3, s9, gc9, ez]
                  refine draw_id (by kernel_rfl) (by kernel_rfl) ?_
                  try simp (disch := first | omega | (simp only [ints_length, List.length_replicate, List.length_set] <;> omega)) only [Sall,evalOp,init,binE,binI,unE,convE,okNil,builtE,gv,TD.isAgg,resV,↓reduceIte,Nat.reduceEqDiff,reduceCtorEq,Nat.reduceAdd,Nat.reduceMul,Nat.reduceLeDiff,quietOp,blindOp,Int.reduceEq,Int.reduceLT,Int.reduceLE,Nat.reduceLT,tiA, h98, h18, h95, h94, h17, h3, s9, gc9, ez]
                  (repeat refine And.intro (by omega) ?_)
                  refine ⟨.inr (.inr (sc9.le _)), ?_⟩
                  obtain ⟨H10, e10⟩ : ∃ H10, H10 = H9.push ⟨4, true, bools (List.replicate b false)⟩ := ⟨_, rfl⟩
                  have n10 : H10.next = H9.next + 1 := by rw [e10]; rfl
                  have r10 : ∀ j, j < H9.next → H10.row j = H9.row j := fun j hj => by rw [e10, AH.push_row, if_neg (by omega)]
                  have m10 : H10.row H9.next = some ⟨4, true, bools (List.replicate b false)⟩ := by rw [e10, AH.push_row, if_pos rfl]
                  have sc10 : Sc H10 := by rw [e10]; exact sc9.push _
                  rw [← e10]
                  clear e10
                  have hcall := hive_c b G ⟨by omega, by omega⟩ tm htm (.slice (some ⟨gi, 0, some 1⟩) G G) (H2.next + 1) (H'.next + 1) (H6.next + 1) (H6.next + 2) ri H6.next (H6.next + 3) (by omega) ⟨by omega, by omega, by omega, by omega, by omega, by omega⟩ ⟨by omega, by omega, by omega, by omega⟩ ⟨by omega, by omega, by omega, by omega⟩ H7 le7 rc7 oc7 gc7 hgm7 (b + 1) ⟨ow', rm', List.replicate b false⟩ g H9.next H10 (hW'.1 _ (by simp)) hW'.few hW'.2.2 (by omega) (unm_none b)
                    ⟨by rw [r10 _ (by omega)]; exact hrm', m10, ⟨vs', q', hO'.keep (by omega) fun j r hr _ => by rw [r10 _ (sc9 _ _ hr)]; exact hr⟩, fun j j1 j2 j3 => by rw [r10 _ (by omega)]; exact hfx' j j1 j2 j3, by omega, sc10⟩ (by omega)
                  revert hcall hWs
                  generalize hiveF tm G (b + 1) ⟨ow', rm', List.replicate b false⟩ g = R
                  intro hWs hcall
                  refine hcall.fin ?_
                  rintro H11 ⟨hS, hn11⟩
                  obtain ⟨rb, s'⟩ := R
                  obtain ⟨vs2, q2, hO2⟩ := hS.ow
                  refine ⟨.inr (.inl (by kernel_rfl)), ?_⟩
                  have hS1 := hS.rm
                  have hS2 := hS.fix
                  have hS3 := hS.nxt
                  have hS4 := hS.sc
                  dsimp only at hS1 hO2 hWs
                  obtain hrb | hrb : rb = true ∨ rb = false := by cases rb <;> simp
                  · subst hrb
                    try simp (disch := first | omega | (simp only [ints_length, List.length_replicate, List.length_set] <;> omega)) only [Sall,evalOp,init,binE,binI,unE,convE,okNil,builtE,gv,TD.isAgg,resV,↓reduceIte,Nat.reduceEqDiff,reduceCtorEq,Nat.reduceAdd,Nat.reduceMul,Nat.reduceLeDiff,quietOp,blindOp,Int.reduceEq,Int.reduceLT,Int.reduceLE,Nat.reduceLT,tiA, h98, h18, h95, h94, h17, h3, w64]
                    (repeat refine And.intro (by omega) ?_)
                    exact ⟨2 - (z' + 1), by omega, z' + 1, s'.ow, s'.rm, rfl, by omega, by omega, rfl, hWs rfl, ⟨vs2, q2, hO2⟩, hS1, hS2, hS3, hS4⟩
                  · subst hrb
                    try simp (disch := first | omega | (simp only [ints_length, List.length_replicate, List.length_set] <;> omega)) only [Sall,evalOp,init,binE,binI,unE,convE,okNil,builtE,gv,TD.isAgg,resV,↓reduceIte,Nat.reduceEqDiff,reduceCtorEq,Nat.reduceAdd,Nat.reduceMul,Nat.reduceLeDiff,quietOp,blindOp,Int.reduceEq,Int.reduceLT,Int.reduceLE,Nat.reduceLT,tiA, h98]
                    exact upH _ hS3 hS2
                · have hze : z' = 2 := by omega
                  subst hze
                  try simp (disch := first | omega | (simp only [ints_length, List.length_replicate, List.length_set] <;> omega)) only [Sall,evalOp,init,binE,binI,unE,convE,okNil,builtE,gv,TD.isAgg,resV,↓reduceIte,Nat.reduceEqDiff,reduceCtorEq,Nat.reduceAdd,Nat.reduceMul,Nat.reduceLeDiff,quietOp,blindOp,Int.reduceEq,Int.reduceLT,Int.reduceLE,Nat.reduceLT,tiA, h95, h94, h17, h3, w64]
                  exact ⟨G - (g + 1), by omega, g + 1, ow', rm', rfl, by omega, by omega, rfl, hW', ⟨vs', q', hO'⟩, hrm', hfx', hn9, sc9⟩
            · have hge : g = G := by omega
              subst hge
              rw [Nat.sub_self]
              try simp (disch := first | omega | (simp only [ints_length, List.length_replicate, List.length_set] <;> omega)) only [Sall,evalOp,init,binE,binI,unE,convE,okNil,builtE,gv,TD.isAgg,resV,↓reduceIte,Nat.reduceEqDiff,reduceCtorEq,Nat.reduceAdd,Nat.reduceMul,Nat.reduceLeDiff,quietOp,blindOp,Int.reduceEq,Int.reduceLT,Int.reduceLE,Nat.reduceLT,tiA, true_and]
              exact ⟨rfl, upH _ hn8 hfx⟩
end Go.Proofs.Ytgkmdfjjlghecaa.A
end

section
set_option linter.unusedSimpArgs false
set_option linter.unusedVariables false
set_option maxRecDepth 100000
set_option maxHeartbeats 2000000
namespace Go.Proofs.Ytgkmdfjjlghecaa.A
open Go Go.Abs Go.RowKit

def firstsN (n k : Nat) (l : List Int) (ll : List (List Int)) : Nat → List Int
  | 0 => []
  | b + 1 => firstsN n k l ll b ++ if firstB n k l ll b = true then [(b : Int)] else []
theorem firstsN_len (n k : Nat) (l : List Int) (ll : List (List Int)) : ∀ b, (firstsN n k l ll b).length ≤ b
  | 0 => Nat.le_refl _
  | b + 1 => by
    have := firstsN_len n k l ll b
    unfold firstsN
    rw [List.length_append]
    split <;> simp <;> omega
def firstsR (q : Int) (k : Nat) (l : List Int) (ll : List (List Int)) : List Int := if schedB q k l = true ∧ resB q.toNat k l ll = true then firstsN q.toNat k l ll q.toNat else []

theorem firstsR_length (q : Int) (k : Nat) (l : List Int) (ll : List (List Int)) : (firstsR q k l ll).length ≤ 14 := by
  unfold firstsR
  split
  · rename_i h
    obtain ⟨h2, _, _⟩ := schedB_at h.1
    have := firstsN_len q.toNat k l ll q.toNat
    omega
  · simp

theorem FirstTeams_c (q : Int) (v : Value) (k : Nat) (l : List Int) (x : Value) (ll : List (List Int)) (H : AH) (hv : Rs 14 H v k l) (hk : k ≤ 4294967296) (hx : Rd2 1 H x ll) (hl : ll.length ≤ 4294967296) (hl2 : ∀ y ∈ ll, y.length ≤ 4294967296) :
    ACalls Try.prog 20 [.agg #[.int .i64 q, v], x] H (fun r H' => ∃ u, r = .tuple #[u, .int .i64 (codeS q k l (resB q.toNat k l ll))] ∧ Up H.next H H' ∧ Fr 1 2 H.next H'.next H' u (firstsR q k l ll).length (firstsR q k l ll)) := by
  refine ACalls.wf (by kernel_rfl) fun hs => acalls_of_awp [.tmp 4, .tmp 5] Try.func20 (by kernel_rfl) rfl rfl (Nat.le_of_ble_eq_true rfl) (by kernel_rfl) ?_
  have hone := hv.rd.one
  try simp (disch := first | omega | (simp only [ints_length, List.length_replicate, List.length_set] <;> omega)) only [Sall,evalOp,init,binE,binI,unE,convE,okNil,builtE,gv,TD.isAgg,resV,↓reduceIte,Nat.reduceEqDiff,reduceCtorEq,Nat.reduceAdd,Nat.reduceMul,Nat.reduceLeDiff,quietOp,blindOp,Int.reduceEq,Int.reduceLT,Int.reduceLE,Nat.reduceLT,tiA, hone]
  have o1 := (Ow.refl hs).push ⟨32, true, [.int .i64 q, v]⟩
  revert o1
  generalize H.push ⟨32, true, [.int .i64 q, v]⟩ = H1
  intro o1
  have hv1 := hv.same (o1.old hs)
  have hx1 := hx.same (o1.old hs)
  have g0 := (o1.rowAt 0 rfl).1
  refine (resultsCode_c q v k l x ll 92 [] true H1 hv1.rd hk hx1 hl hl2 fun H' _ _ _ => always_c H').to ?_
  rw [Bool.and_true]
  by_cases hok : schedB q k l = true ∧ resB q.toNat k l ll = true
  · obtain ⟨hb, hres⟩ := hok
    obtain ⟨h2, _, _⟩ := schedB_at hb
    obtain ⟨n, rfl⟩ : ∃ n : Nat, q = n := ⟨q.toNat, by omega⟩
    unfold firstsR
    rw [if_pos ⟨hb, hres⟩, codeS_yes hb hres]
    rw [Int.toNat_natCast] at hres ⊢
    have ne1 : ¬ H.next = H1.next := by have := (o1.rowAt 0 rfl).2.2; omega
    try simp (disch := first | omega | (simp only [ints_length, List.length_replicate, List.length_set] <;> omega)) only [Sall,evalOp,init,binE,binI,unE,convE,okNil,builtE,gv,TD.isAgg,resV,↓reduceIte,Nat.reduceEqDiff,reduceCtorEq,Nat.reduceAdd,Nat.reduceMul,Nat.reduceLeDiff,quietOp,blindOp,Int.reduceEq,Int.reduceLT,Int.reduceLE,Nat.reduceLT,tiA, bne_self_eq_false, g0, zeros_zero, ne1]
    have o2 := o1.pushSl (k := 1) (n := 0) (ty := 2) (vs := []) rfl
    revert o2
    generalize H1.push ⟨2, true, []⟩ = H2
    intro o2
    refine awp_loop (fun z t H' => ∃ (b : Nat) (u : Value), z = n - b ∧ b ≤ n ∧ t 18 = .int .i64 b ∧ t 17 = .int .i64 n ∧ t 7 = u ∧ t 1 = x ∧ t 2 = .pointer (some ⟨H.next, 0, none⟩) ∧
      Ow H H' [.row H.next ⟨32, true, [.int .i64 n, v]⟩, .sl 1 2 u (firstsN n k l ll b).length (ints (firstsN n k l ll b))]) n ?_ ?_
    · refine ⟨0, .slice (some ⟨H1.next, 0, some 1⟩) 0 0, by omega, by omega, ?_⟩
      try simp (disch := first | omega | (simp only [ints_length, List.length_replicate, List.length_set] <;> omega)) only [Sall,evalOp,init,binE,binI,unE,convE,okNil,builtE,gv,TD.isAgg,resV,↓reduceIte,Nat.reduceEqDiff,reduceCtorEq,Nat.reduceAdd,Nat.reduceMul,Nat.reduceLeDiff,quietOp,blindOp,Int.reduceEq,Int.reduceLT,Int.reduceLE,Nat.reduceLT,tiA, Int.natCast_zero]
      exact o2
    · rintro z t H' ⟨b, u, hz, hbn, h18, h17, h7, h1, h2', o3⟩
      have g3 := (o3.rowAt 0 rfl).1
      try simp (disch := first | omega | (simp only [ints_length, List.length_replicate, List.length_set] <;> omega)) only [Sall,evalOp,init,binE,binI,unE,convE,okNil,builtE,gv,TD.isAgg,resV,↓reduceIte,Nat.reduceEqDiff,reduceCtorEq,Nat.reduceAdd,Nat.reduceMul,Nat.reduceLeDiff,quietOp,blindOp,Int.reduceEq,Int.reduceLT,Int.reduceLE,Nat.reduceLT,tiA, h18, h17]
      refine condC_dec (fun hh => ?_) (fun hh => ?_)
      · try simp (disch := first | omega | (simp only [ints_length, List.length_replicate, List.length_set] <;> omega)) only [Sall,evalOp,init,binE,binI,unE,convE,okNil,builtE,gv,TD.isAgg,resV,↓reduceIte,Nat.reduceEqDiff,reduceCtorEq,Nat.reduceAdd,Nat.reduceMul,Nat.reduceLeDiff,quietOp,blindOp,Int.reduceEq,Int.reduceLT,Int.reduceLE,Nat.reduceLT,tiA, h18, h1, h2', g3, hone]
        refine (canBeFirst_c n v k l x ll b H' hb hres hl (hv.same (o3.old hs)) (hx.same (o3.old hs)) ⟨by omega, by omega⟩).to ?_
        have hfl := firstsN_len n k l ll b
        have es : firstsN n k l ll (b + 1) = firstsN n k l ll b ++ if firstB n k l ll b = true then [(b : Int)] else [] := rfl
        obtain hc | hc : firstB n k l ll b = true ∨ firstB n k l ll b = false := by cases firstB n k l ll b <;> simp
        · rw [if_pos hc] at es
          have zz : zeros 1 [.int .i64 0] = [.int .i64 0] := rfl
          try simp (disch := first | omega | (simp only [ints_length, List.length_replicate, List.length_set] <;> omega)) only [Sall,evalOp,init,binE,binI,unE,convE,okNil,builtE,gv,TD.isAgg,resV,↓reduceIte,Nat.reduceEqDiff,reduceCtorEq,Nat.reduceAdd,Nat.reduceMul,Nat.reduceLeDiff,quietOp,blindOp,Int.reduceEq,Int.reduceLT,Int.reduceLE,Nat.reduceLT,tiA, hc, h18, h17, h7, h1, h2', zz, slCells]
          (repeat refine And.intro (by omega) ?_)
          refine (o3.tmp ⟨2, true, [.int .i64 b]⟩).app 1 rfl rfl (by omega) rfl (by omega) (by decide) (by omega) ?_
          intro v' H4 n4 o4
          try simp (disch := first | omega | (simp only [ints_length, List.length_replicate, List.length_set] <;> omega)) only [Sall,evalOp,init,binE,binI,unE,convE,okNil,builtE,gv,TD.isAgg,resV,↓reduceIte,Nat.reduceEqDiff,reduceCtorEq,Nat.reduceAdd,Nat.reduceMul,Nat.reduceLeDiff,quietOp,blindOp,Int.reduceEq,Int.reduceLT,Int.reduceLE,Nat.reduceLT,tiA, h18, h17, h7, h1, h2', w64]
          exact ⟨n - (b + 1), by omega, b + 1, v', rfl, by omega, by omega, rfl, by rw [es, List.length_append, ← ints_append]; exact o4⟩
        · rw [if_neg (by rw [hc]; simp), List.append_nil] at es
          try simp (disch := first | omega | (simp only [ints_length, List.length_replicate, List.length_set] <;> omega)) only [Sall,evalOp,init,binE,binI,unE,convE,okNil,builtE,gv,TD.isAgg,resV,↓reduceIte,Nat.reduceEqDiff,reduceCtorEq,Nat.reduceAdd,Nat.reduceMul,Nat.reduceLeDiff,quietOp,blindOp,Int.reduceEq,Int.reduceLT,Int.reduceLE,Nat.reduceLT,tiA, hc, h18, h17, h7, h1, h2', w64]
          exact ⟨n - (b + 1), by omega, b + 1, u, rfl, by omega, by omega, rfl, by rw [es]; exact o3⟩
      · have hbe : b = n := by omega
        subst hbe
        have hu := o3.one 1 rfl
        try simp (disch := first | omega | (simp only [ints_length, List.length_replicate, List.length_set] <;> omega)) only [Sall,evalOp,init,binE,binI,unE,convE,okNil,builtE,gv,TD.isAgg,resV,↓reduceIte,Nat.reduceEqDiff,reduceCtorEq,Nat.reduceAdd,Nat.reduceMul,Nat.reduceLeDiff,quietOp,blindOp,Int.reduceEq,Int.reduceLT,Int.reduceLE,Nat.reduceLT,tiA, h7, hu]
        exact ⟨u, rfl, o3.up, o3.fr 1 rfl⟩
  · have ec := codeS_no hok
    unfold firstsR
    rw [if_neg hok]
    try simp (disch := first | omega | (simp only [ints_length, List.length_replicate, List.length_set] <;> omega)) only [Sall,evalOp,init,binE,binI,unE,convE,okNil,builtE,gv,TD.isAgg,resV,↓reduceIte,Nat.reduceEqDiff,reduceCtorEq,Nat.reduceAdd,Nat.reduceMul,Nat.reduceLeDiff,quietOp,blindOp,Int.reduceEq,Int.reduceLT,Int.reduceLE,Nat.reduceLT,tiA, ec]
    exact ⟨_, rfl, o1.up, fr_nil _ _ _ _⟩

theorem specFirstTeams_c (q : Int) (v : Value) (k : Nat) (l : List Int) (x : Value) (ll : List (List Int)) (H : AH) (hv : Rd 14 H v k l) (hk : k ≤ 4294967296) (hx : Rd2 1 H x ll) (hl : ll.length ≤ 4294967296) (hl2 : ∀ y ∈ ll, y.length ≤ 4294967296) :
    ACalls Try.prog 19 [.agg #[.int .i64 q, v], x] H (fun r H' => ∃ u, r = .tuple #[u, .int .i64 (codeS q k l (resB q.toNat k l ll))] ∧ Up H.next H H' ∧ Fr 1 2 H.next H'.next H' u (firstsR q k l ll).length (firstsR q k l ll)) := by
  refine ACalls.wf (by kernel_rfl) fun hs => acalls_of_awp [.tmp 4, .tmp 5] Try.func19 (by kernel_rfl) rfl rfl (Nat.le_of_ble_eq_true rfl) (by kernel_rfl) ?_
  have hone := hv.one
  try simp (disch := first | omega | (simp only [ints_length, List.length_replicate, List.length_set] <;> omega)) only [Sall,evalOp,init,binE,binI,unE,convE,okNil,builtE,gv,TD.isAgg,resV,↓reduceIte,Nat.reduceEqDiff,reduceCtorEq,Nat.reduceAdd,Nat.reduceMul,Nat.reduceLeDiff,quietOp,blindOp,Int.reduceEq,Int.reduceLT,Int.reduceLE,Nat.reduceLT,tiA, hone]
  have o1 := (Ow.refl hs).push ⟨32, true, [.int .i64 q, v]⟩
  revert o1
  generalize H.push ⟨32, true, [.int .i64 q, v]⟩ = H1
  intro o1
  have hv1 := hv.same (o1.old hs)
  have hx1 := hx.same (o1.old hs)
  have g0 := (o1.rowAt 0 rfl).1
  refine (l10Code_c q v k l x ll (.slice none 0 0) 0 [] H1 hv1 hk hx1 hl hl2 (fr_nil 0 0 0 _).rd (by omega)).to ?_
  rw [show (resB q.toNat k l ll && (List.range 0).all fun i => decide (0 ≤ ([] : List Int).getD i 0 ∧ ([] : List Int).getD i 0 ≤ q - 1)) = resB q.toNat k l ll from Bool.and_true _]
  by_cases hok : schedB q k l = true ∧ resB q.toNat k l ll = true
  · obtain ⟨hb, hres⟩ := hok
    obtain ⟨h2, _, _⟩ := schedB_at hb
    obtain ⟨n, rfl⟩ : ∃ n : Nat, q = n := ⟨q.toNat, by omega⟩
    unfold firstsR
    rw [if_pos ⟨hb, hres⟩, codeS_yes hb hres]
    rw [Int.toNat_natCast] at hres ⊢
    try simp (disch := first | omega | (simp only [ints_length, List.length_replicate, List.length_set] <;> omega)) only [Sall,evalOp,init,binE,binI,unE,convE,okNil,builtE,gv,TD.isAgg,resV,↓reduceIte,Nat.reduceEqDiff,reduceCtorEq,Nat.reduceAdd,Nat.reduceMul,Nat.reduceLeDiff,quietOp,blindOp,Int.reduceEq,Int.reduceLT,Int.reduceLE,Nat.reduceLT,tiA, bne_self_eq_false, g0, zeros_zero]
    have o2 := o1.pushSl (k := 1) (n := 0) (ty := 2) (vs := []) rfl
    revert o2
    generalize H1.push ⟨2, true, []⟩ = H2
    intro o2
    refine awp_loop (fun z t H' => ∃ (b : Nat) (u : Value), z = n - b ∧ b ≤ n ∧ t 8 = .int .i64 b ∧ t 7 = u ∧ t 1 = x ∧ t 2 = .pointer (some ⟨H.next, 0, none⟩) ∧
      Ow H H' [.row H.next ⟨32, true, [.int .i64 n, v]⟩, .sl 1 2 u (firstsN n k l ll b).length (ints (firstsN n k l ll b))]) n ?_ ?_
    · refine ⟨0, .slice (some ⟨H1.next, 0, some 1⟩) 0 0, by omega, by omega, ?_⟩
      try simp (disch := first | omega | (simp only [ints_length, List.length_replicate, List.length_set] <;> omega)) only [Sall,evalOp,init,binE,binI,unE,convE,okNil,builtE,gv,TD.isAgg,resV,↓reduceIte,Nat.reduceEqDiff,reduceCtorEq,Nat.reduceAdd,Nat.reduceMul,Nat.reduceLeDiff,quietOp,blindOp,Int.reduceEq,Int.reduceLT,Int.reduceLE,Nat.reduceLT,tiA, Int.natCast_zero]
      exact o2
    · rintro z t H' ⟨b, u, hz, hbn, h8, h7, h1, h2', o3⟩
      have g3 := (o3.rowAt 0 rfl).1
      try simp (disch := first | omega | (simp only [ints_length, List.length_replicate, List.length_set] <;> omega)) only [Sall,evalOp,init,binE,binI,unE,convE,okNil,builtE,gv,TD.isAgg,resV,↓reduceIte,Nat.reduceEqDiff,reduceCtorEq,Nat.reduceAdd,Nat.reduceMul,Nat.reduceLeDiff,quietOp,blindOp,Int.reduceEq,Int.reduceLT,Int.reduceLE,Nat.reduceLT,tiA, h8, h2', g3]
      refine condC_dec (fun hh => ?_) (fun hh => ?_)
      · try simp (disch := first | omega | (simp only [ints_length, List.length_replicate, List.length_set] <;> omega)) only [Sall,evalOp,init,binE,binI,unE,convE,okNil,builtE,gv,TD.isAgg,resV,↓reduceIte,Nat.reduceEqDiff,reduceCtorEq,Nat.reduceAdd,Nat.reduceMul,Nat.reduceLeDiff,quietOp,blindOp,Int.reduceEq,Int.reduceLT,Int.reduceLE,Nat.reduceLT,tiA, h8, h1, h2', g3, hone]
        refine (l10First_c n v k l x ll b H' hb hres hl (hv.same (o3.old hs)) (hx.same (o3.old hs)) ⟨by omega, by omega⟩).to ?_
        have hfl := firstsN_len n k l ll b
        have es : firstsN n k l ll (b + 1) = firstsN n k l ll b ++ if firstB n k l ll b = true then [(b : Int)] else [] := rfl
        obtain hc | hc : firstB n k l ll b = true ∨ firstB n k l ll b = false := by cases firstB n k l ll b <;> simp
        · rw [if_pos hc] at es
          have zz : zeros 1 [.int .i64 0] = [.int .i64 0] := rfl
          try simp (disch := first | omega | (simp only [ints_length, List.length_replicate, List.length_set] <;> omega)) only [Sall,evalOp,init,binE,binI,unE,convE,okNil,builtE,gv,TD.isAgg,resV,↓reduceIte,Nat.reduceEqDiff,reduceCtorEq,Nat.reduceAdd,Nat.reduceMul,Nat.reduceLeDiff,quietOp,blindOp,Int.reduceEq,Int.reduceLT,Int.reduceLE,Nat.reduceLT,tiA, hc, h8, h7, h1, h2', zz, slCells]
          (repeat refine And.intro (by omega) ?_)
          refine (o3.tmp ⟨2, true, [.int .i64 b]⟩).app 1 rfl rfl (by omega) rfl (by omega) (by decide) (by omega) ?_
          intro v' H4 n4 o4
          try simp (disch := first | omega | (simp only [ints_length, List.length_replicate, List.length_set] <;> omega)) only [Sall,evalOp,init,binE,binI,unE,convE,okNil,builtE,gv,TD.isAgg,resV,↓reduceIte,Nat.reduceEqDiff,reduceCtorEq,Nat.reduceAdd,Nat.reduceMul,Nat.reduceLeDiff,quietOp,blindOp,Int.reduceEq,Int.reduceLT,Int.reduceLE,Nat.reduceLT,tiA, h8, h7, h1, h2', w64]
          exact ⟨n - (b + 1), by omega, b + 1, v', rfl, by omega, by omega, rfl, by rw [es, List.length_append, ← ints_append]; exact o4⟩
        · rw [if_neg (by rw [hc]; simp), List.append_nil] at es
          try simp (disch := first | omega | (simp only [ints_length, List.length_replicate, List.length_set] <;> omega)) only [Sall,evalOp,init,binE,binI,unE,convE,okNil,builtE,gv,TD.isAgg,resV,↓reduceIte,Nat.reduceEqDiff,reduceCtorEq,Nat.reduceAdd,Nat.reduceMul,Nat.reduceLeDiff,quietOp,blindOp,Int.reduceEq,Int.reduceLT,Int.reduceLE,Nat.reduceLT,tiA, hc, h8, h7, h1, h2', w64]
          exact ⟨n - (b + 1), by omega, b + 1, u, rfl, by omega, by omega, rfl, by rw [es]; exact o3⟩
      · have hbe : b = n := by omega
        subst hbe
        have hu := o3.one 1 rfl
        try simp (disch := first | omega | (simp only [ints_length, List.length_replicate, List.length_set] <;> omega)) only [Sall,evalOp,init,binE,binI,unE,convE,okNil,builtE,gv,TD.isAgg,resV,↓reduceIte,Nat.reduceEqDiff,reduceCtorEq,Nat.reduceAdd,Nat.reduceMul,Nat.reduceLeDiff,quietOp,blindOp,Int.reduceEq,Int.reduceLT,Int.reduceLE,Nat.reduceLT,tiA, h7, hu]
        exact ⟨u, rfl, o3.up, o3.fr 1 rfl⟩
  · have ec := codeS_no hok
    unfold firstsR
    rw [if_neg hok]
    try simp (disch := first | omega | (simp only [ints_length, List.length_replicate, List.length_set] <;> omega)) only [Sall,evalOp,init,binE,binI,unE,convE,okNil,builtE,gv,TD.isAgg,resV,↓reduceIte,Nat.reduceEqDiff,reduceCtorEq,Nat.reduceAdd,Nat.reduceMul,Nat.reduceLeDiff,quietOp,blindOp,Int.reduceEq,Int.reduceLT,Int.reduceLE,Nat.reduceLT,tiA, ec]
    exact ⟨_, rfl, o1.up, fr_nil _ _ _ _⟩
end Go.Proofs.Ytgkmdfjjlghecaa.A
end

section
set_option linter.unusedSimpArgs false
set_option linter.unusedVariables false
namespace Go.Abs

def remL (n : Nat) (l : List Int) (R : Nat) : Nat → List (List Int)
  | 0 => []
  | c + 1 => remL n l R c ++ pairsL (rnd l (R + c)) n
theorem gmN_fold (n : Nat) (l : List Int) (a : Int) (st : List Int × List (List Int)) (R : Nat) : ∀ c, gmN n l a st R c = (remL n l R c).foldl (gstep a) st
  | 0 => rfl
  | c + 1 => by
    unfold gmN remL
    rw [gmN_fold n l a st R c, List.foldl_append]
    unfold gmB
    rw [List.take_length]
theorem remL_len {n : Nat} (l : List Int) (R : Nat) : ∀ c, (remL n l R c).length ≤ n * c
  | 0 => Nat.zero_le _
  | c + 1 => by
    unfold remL
    rw [List.length_append]
    have := remL_len (n := n) l R c
    have := pairsL_le (rnd l (R + c)) n
    rw [Nat.mul_succ]; omega
theorem remL_two {n : Nat} {l : List Int} {R : Nat} : ∀ c, (∀ i, i < R + c → roundB n (rnd l i) = true) → ∀ p, p ∈ remL n l R c → ∃ x y : Nat, x < n ∧ y < n ∧ p = [(x : Int), (y : Int)]
  | 0, _, p, hp => by simp [remL] at hp
  | c + 1, hr, p, hp => by
    unfold remL at hp
    rcases List.mem_append.1 hp with h | h
    · exact remL_two c (fun i hi => hr i (by omega)) p h
    · obtain ⟨j, hj, e⟩ := List.getElem_of_mem h
      obtain ⟨x, h1, h2, h3⟩ := pairsL_get (rnd l (R + c)) n j hj
      obtain ⟨_, h4, h5, _⟩ := roundB_at (hr (R + c) (by omega)) (a := x) (by omega)
      rw [List.getD_eq_getElem?_getD, List.getElem?_eq_getElem hj] at h3
      refine ⟨x, ((rnd l (R + c)).getD x 0).toNat, h1, by omega, ?_⟩
      rw [Int.toNat_of_nonneg h4, ← h3, ← e]; rfl

def isA (a : Nat) (p : List Int) : Bool := decide (p.getD 0 0 = (a : Int) ∨ p.getD 1 0 = (a : Int))
theorem addAt_at {l : List Int} {a : Nat} {z : Int} (h : a < l.length) (hb : -1000000000 ≤ l.getD a 0 + z ∧ l.getD a 0 + z ≤ 1000000000) : (addAt l a z).getD a 0 = l.getD a 0 + z := by
  unfold addAt
  rw [Int.toNat_natCast, gset_eq _ _ _ _ h]
  exact w64 ⟨by omega, by omega⟩
theorem addAt_ne {l : List Int} {a b : Nat} {z : Int} (h : b ≠ a) : (addAt l a z).getD b 0 = l.getD b 0 := by
  unfold addAt
  rw [Int.toNat_natCast, gset_ne _ _ _ _ _ (by omega)]
theorem gfold {n a : Nat} (ha : a < n) : ∀ (es : List (List Int)) (st : List Int × List (List Int)) (B : Nat), st.1.length = n → 0 ≤ st.1.getD a 0 → st.1.getD a 0 ≤ (B : Int) → B + 2 * es.length ≤ 1000000 →
    (es.foldl (gstep a) st).2 = st.2 ++ es.filter (fun p => !isA a p) ∧ (es.foldl (gstep a) st).1.getD a 0 = st.1.getD a 0 + 2 * (es.countP (isA a) : Nat) ∧ (∀ b, b ≠ a → (es.foldl (gstep a) st).1.getD b 0 = st.1.getD b 0) ∧ (es.foldl (gstep a) st).1.length = n
  | [], st, B, h1, h2, h3, h4 => ⟨by simp, by simp, fun _ _ => rfl, h1⟩
  | p :: es, st, B, h1, h2, h3, h4 => by
    rw [List.length_cons] at h4
    rw [List.foldl_cons]
    by_cases e : p.getD 0 0 = (a : Int) ∨ p.getD 1 0 = (a : Int)
    · have ea : isA a p = true := decide_eq_true e
      have es1 : gstep (a : Int) st p = (addAt st.1 a 2, st.2) := by unfold gstep; rw [if_pos e]
      have k := addAt_at (l := st.1) (a := a) (z := 2) (by omega) (by omega)
      have ih := gfold ha es (addAt st.1 a 2, st.2) (B + 2) (by show (addAt st.1 a 2).length = n; rw [addAt_length]; exact h1) (by show 0 ≤ (addAt st.1 a 2).getD a 0; omega) (by show (addAt st.1 a 2).getD a 0 ≤ _; omega) (by omega)
      rw [es1]
      obtain ⟨i1, i2, i3, i4⟩ := ih
      refine ⟨by rw [i1, List.filter_cons, ea]; rfl, ?_, fun b hb => by rw [i3 b hb]; exact addAt_ne hb, i4⟩
      rw [i2, List.countP_cons, ea]
      show (addAt st.1 a 2).getD a 0 + _ = _
      rw [k]
      simp only [if_true]
      omega
    · have ea : isA a p = false := decide_eq_false e
      have es1 : gstep (a : Int) st p = (st.1, st.2 ++ [p]) := by unfold gstep; rw [if_neg e]
      have ih := gfold ha es (st.1, st.2 ++ [p]) B h1 h2 h3 (by omega)
      rw [es1]
      obtain ⟨i1, i2, i3, i4⟩ := ih
      refine ⟨by rw [i1, List.filter_cons, ea]; simp, ?_, i3, i4⟩
      rw [i2, List.countP_cons, ea]
      simp

def pfL : Nat → List (List Int) → List (Nat × Nat)
  | _, [] => []
  | k, p :: gs => (k, (p.getD 0 0).toNat) :: (k, (p.getD 0 0).toNat) :: pfL (k + 1) gs
theorem pfL_team (b : Nat) : ∀ (gs : List (List Int)) (k : Nat), keyC Prod.snd (pfL k gs) b = 2 * gs.countP fun p => decide ((p.getD 0 0).toNat = b)
  | [], _ => rfl
  | p :: gs, k => by
    unfold pfL
    rw [keyC_cons, keyC_cons, pfL_team b gs (k + 1), List.countP_cons]
    dsimp only
    by_cases e : (p.getD 0 0).toNat = b
    · rw [if_pos e.symm, if_pos (decide_eq_true e)]; omega
    · rw [if_neg (fun h => e h.symm), if_neg (by simpa using e)]; omega
theorem pfL_game (g : Nat) : ∀ (gs : List (List Int)) (k : Nat), keyC Prod.fst (pfL k gs) g = if k ≤ g ∧ g < k + gs.length then 2 else 0
  | [], k => by rw [if_neg (fun h => by simp at h; omega)]; rfl
  | p :: gs, k => by
    unfold pfL
    rw [keyC_cons, keyC_cons, pfL_game g gs (k + 1), List.length_cons]
    dsimp only
    by_cases e : g = k
    · rw [if_pos e, if_neg (by omega), if_pos (by omega)]
    · rw [if_neg e]
      by_cases e2 : k + 1 ≤ g ∧ g < k + 1 + gs.length
      · rw [if_pos e2, if_pos (by omega)]
      · rw [if_neg e2, if_neg (by omega)]
theorem pfL_mem : ∀ (gs : List (List Int)) (k : Nat) (q : Nat × Nat), q ∈ pfL k gs → ∃ j, j < gs.length ∧ q = (k + j, ((gs.getD j []).getD 0 0).toNat)
  | [], k, q, h => by simp [pfL] at h
  | p :: gs, k, q, h => by
    unfold pfL at h
    rcases List.mem_cons.1 h with h | h
    · exact ⟨0, by simp, by rw [h]; simp⟩
    · rcases List.mem_cons.1 h with h | h
      · exact ⟨0, by simp, by rw [h]; simp⟩
      · obtain ⟨j, h1, h2⟩ := pfL_mem gs (k + 1) q h
        exact ⟨j + 1, by simpa using h1, by rw [h2, show k + 1 + j = k + (j + 1) by omega]; simp⟩

theorem exists_max (T : Nat → Int) : ∀ n, 0 < n → ∃ a, a < n ∧ ∀ b, b < n → T b ≤ T a
  | 0, h => by omega
  | 1, _ => ⟨0, by omega, fun b hb => by rw [show b = 0 by omega]; exact Int.le_refl _⟩
  | n + 2, _ => by
    obtain ⟨a, h1, h2⟩ := exists_max T (n + 1) (by omega)
    by_cases h : T a ≤ T (n + 1)
    · refine ⟨n + 1, by omega, fun b hb => ?_⟩
      by_cases e : b = n + 1
      · rw [e]; exact Int.le_refl _
      · exact Int.le_trans (h2 b (by omega)) h
    · refine ⟨a, by omega, fun b hb => ?_⟩
      by_cases e : b = n + 1
      · rw [e]; omega
      · exact h2 b (by omega)
theorem allF_feas {tm : Nat → Nat → Nat} {n G : Nat} {rm : List Int} (htm : ∀ j k, tm j k < n) (hrl : rm.length = n) (hrr : ∀ c, c < n → 0 ≤ rm.getD c 0) (hf : Feas n G (prH tm) (fun c => (rm.getD c 0).toNat)) :
    allF (fun j k => tm (j / 2) k) n (2 * G) (List.range' 0 (2 * G)) (List.replicate (2 * G) (-1)) rm = true := by
  have hm1 : ∀ j, j < 2 * G → (List.replicate (2 * G) (-1 : Int)).getD j 0 = -1 := fun j hj => by
    rw [List.getD_eq_getElem?_getD, List.getElem?_replicate, if_pos hj]; rfl
  have h1 : AInv (fun j k => tm (j / 2) k) n (2 * G) (fun c => (rm.getD c 0).toNat) 0 (List.replicate (2 * G) (-1)) rm := by
    refine ⟨fun mt hmt => ⟨by simp, hrl, hmt, fun j hj => .inl (hm1 j hj), hrr⟩, fun j hj => .inl (hm1 j hj), fun c hc => ?_, fun j hj => by omega, fun j _ hj => hm1 j hj⟩
    have : (List.replicate (2 * G) (-1 : Int)).count (c : Int) = 0 := by
      rw [List.count_replicate, if_neg (by simp)]
    have := hrr c hc
    omega
  have a2 := allF_res (tm := fun j k => tm (j / 2) k) (n := n) (G := G) (fun j k => htm _ _) (fun g k => by
    show tm ((2 * g + 1) / 2) k = tm (2 * g / 2) k
    rw [show (2 * g + 1) / 2 = g by omega, show 2 * g / 2 = g by omega]) (2 * G) 0 _ rm (by omega) h1
  have e : prF (fun j k => tm (j / 2) k) = prH tm := by
    funext g
    show (tm (2 * g / 2) 0, tm (2 * g / 2) 1) = _
    rw [show 2 * g / 2 = g by omega]; rfl
  rw [e] at a2
  revert a2
  generalize allF (fun j k => tm (j / 2) k) n (2 * G) (List.range' 0 (2 * G)) (List.replicate (2 * G) (-1)) rm = y
  intro a2
  cases y
  · exact (feas_not hf (a2.2 rfl)).elim
  · rfl

theorem firstB_any {n k : Nat} {l : List Int} {ll : List (List Int)} (hb : schedB n k l = true) (hk : ll.length ≤ k) : ∃ a : Nat, a < n ∧ firstB n k l ll a = true := by
  obtain ⟨q1, q2, q3⟩ := schedB_at hb
  have g0 := gm0_ok (n := n) (by omega) (l := l) (ll := ll) (by omega)
  obtain ⟨pts, hpts⟩ : ∃ pts, pts = sumsF n (fun _ o => o) (meets n l ll ll.length) := ⟨_, rfl⟩
  obtain ⟨es, hes⟩ : ∃ es, es = remL n l ll.length (k - ll.length) := ⟨_, rfl⟩
  have hlen : es.length ≤ 14 * 40 := by
    rw [hes]
    refine Nat.le_trans (remL_len _ _ _) (Nat.mul_le_mul (by omega) (by omega))
  have htwo : ∀ p, p ∈ es → ∃ x y : Nat, x < n ∧ y < n ∧ p = [(x : Int), (y : Int)] := by
    rw [hes]; exact remL_two _ fun i hi => q3 i (by omega)
  rw [← hpts] at g0
  have gl : pts.length = n := g0.len
  have gb : ∀ j, 0 ≤ pts.getD j 0 ∧ pts.getD j 0 ≤ 2240 := fun j => by have := g0.bnd j; exact ⟨this.1, by have := this.2; omega⟩
  obtain ⟨a, ha, hmax⟩ := exists_max (fun b => pts.getD b 0 + 2 * (es.countP (fun p => decide ((p.getD 0 0).toNat = b)) : Nat)) n (by omega)
  refine ⟨a, ha, ?_⟩
  have hga : gmL n k l ll a = es.foldl (gstep a) (pts, []) := by
    unfold gmL
    rw [gmN_fold, ← hpts, ← hes]
  have hok := gmL_ok (a := (a : Int)) hb hk
  rw [hga] at hok
  obtain ⟨f1, f2, f3, f4⟩ := gfold ha es (pts, []) 2240 gl (gb a).1 (gb a).2 (by omega)
  rw [show (([] : List (List Int)) ++ es.filter fun p => !isA a p) = es.filter fun p => !isA a p from rfl] at f1
  have f2 : (es.foldl (gstep a) (pts, [])).1.getD a 0 = pts.getD a 0 + 2 * (es.countP (isA a) : Nat) := f2
  have f3 : ∀ b, b ≠ a → (es.foldl (gstep a) (pts, [])).1.getD b 0 = pts.getD b 0 := f3
  have hA : es.countP (fun p => decide ((p.getD 0 0).toNat = a)) ≤ es.countP (isA a) := List.countP_mono_left fun p hp h => by
    obtain ⟨x, y, _, _, rfl⟩ := htwo p hp
    have h := of_decide_eq_true h
    refine decide_eq_true (.inl ?_)
    simp at h ⊢
    omega
  have hT : ∀ b, b < n → b ≠ a → pts.getD b 0 + 2 * (es.countP (fun p => decide ((p.getD 0 0).toNat = b)) : Nat) ≤ (es.foldl (gstep a) (pts, [])).1.getD a 0 := fun b hb' _ => by
    have := hmax b hb'
    rw [f2]; omega
  have hov : ¬ overB n (es.foldl (gstep a) (pts, [])).1 a = true := fun h => by
    unfold overB at h
    obtain ⟨b, hb1, hb2⟩ := List.any_eq_true.1 h
    have hbn := List.mem_range.1 hb1
    have hlt := of_decide_eq_true hb2
    rw [Int.toNat_natCast] at hlt
    by_cases e : b = a
    · rw [e] at hlt; omega
    · have := hT b hbn e
      rw [f3 b e] at hlt
      omega
  unfold firstB
  rw [hga, if_neg hov]
  refine allF_feas (tmG_lt hok (by omega)) (roomL_length _ _ _) (roomL_pos hov) ?_
  have hroom : ∀ b, b < n → (roomL n (es.foldl (gstep a) (pts, [])).1 a).getD b 0 = (es.foldl (gstep a) (pts, [])).1.getD a 0 - (es.foldl (gstep a) (pts, [])).1.getD b 0 := fun b hb => by
    rw [roomL_get hb, Int.toNat_natCast]
  have hfst : ∀ g, g < (es.foldl (gstep a) (pts, [])).2.length → (((es.foldl (gstep a) (pts, [])).2.getD g []).getD 0 0).toNat = tmG (es.foldl (gstep a) (pts, [])).2 g 0 := fun g hg => rfl
  have hload : ∀ b, b < n → keyC Prod.snd (pfL 0 (es.foldl (gstep a) (pts, [])).2) b ≤ ((roomL n (es.foldl (gstep a) (pts, [])).1 a).getD b 0).toNat := fun b hb => by
    rw [pfL_team, hroom b hb, f1]
    by_cases e : b = a
    · have : (es.filter fun p => !isA a p).countP (fun p => decide ((p.getD 0 0).toNat = b)) = 0 := by
        rw [List.countP_eq_zero]
        intro p hp h
        obtain ⟨hp1, hp2⟩ := List.mem_filter.1 hp
        obtain ⟨x, y, _, _, rfl⟩ := htwo p hp1
        have h := of_decide_eq_true h
        have : isA a [(x : Int), (y : Int)] = true := decide_eq_true (.inl (by simp at h ⊢; omega))
        rw [this] at hp2
        simp at hp2
      omega
    · have h1 := hT b hb e
      have h2 : (es.filter fun p => !isA a p).countP (fun p => decide ((p.getD 0 0).toNat = b)) ≤ es.countP (fun p => decide ((p.getD 0 0).toNat = b)) := (List.filter_sublist).countP_le
      rw [f3 b e]
      omega
  refine ⟨fun b => ((roomL n (es.foldl (gstep a) (pts, [])).1 a).getD b 0).toNat - keyC Prod.snd (pfL 0 (es.foldl (gstep a) (pts, [])).2) b, pfL 0 (es.foldl (gstep a) (pts, [])).2, ⟨fun b hb => ?_, fun p hp => ?_, fun g hg => ?_⟩, fun g hg => ?_⟩
  · have := hload b hb; omega
  · obtain ⟨j, hj, rfl⟩ := pfL_mem _ _ _ hp
    rw [Nat.zero_add]
    exact ⟨hj, tmG_lt hok (by omega) j 0, .inl rfl⟩
  · rw [pfL_game, if_pos (by omega)]; exact Nat.le_refl _
  · rw [pfL_game, if_pos (by omega)]

theorem firstB_all {n k : Nat} {l : List Int} {ll : List (List Int)} (a : Int) (hk : ll.length = k) : firstB n k l ll a = !overB n (sumsF n (fun _ o => o) (meets n l ll ll.length)) a := by
  have e : gmL n k l ll a = (sumsF n (fun _ o => o) (meets n l ll ll.length), []) := by
    unfold gmL
    rw [hk, Nat.sub_self]; rfl
  unfold firstB
  rw [e]
  dsimp only
  cases overB n (sumsF n (fun _ o => o) (meets n l ll ll.length)) a
  · rfl
  · rfl

/-! Sums of points. -/
theorem set_sum (z : Int) : ∀ (l : List Int) (a : Nat), a < l.length → (l.set a (l.getD a 0 + z)).sum = l.sum + z
  | [], a, h => by simp at h
  | x :: l, 0, _ => by
    simp only [List.set_cons_zero, List.sum_cons]
    show x + z + l.sum = _
    omega
  | x :: l, a + 1, h => by
    have ih := set_sum z l a (by simpa using h)
    simp only [List.set_cons_succ, List.sum_cons]
    rw [show (x :: l).getD (a + 1) 0 = l.getD a 0 from rfl, ih]
    omega
theorem fold_sum {n : Nat} : ∀ (es : List Ev) (l : List Int) (B : Nat), l.length = n → (∀ e ∈ es, 0 ≤ e.2.1 ∧ e.2.1 < (n : Int) ∧ 0 ≤ e.2.2.2 ∧ e.2.2.2 ≤ 2) → (∀ j, 0 ≤ l.getD j 0 ∧ l.getD j 0 ≤ B) → B + 2 * es.length ≤ 1000000 →
    (es.foldl (fun l e => addAt l e.2.1 e.2.2.2) l).sum = l.sum + (es.map fun e => e.2.2.2).sum
  | [], l, B, _, _, _, _ => by simp
  | e :: es, l, B, hl, he, h, hB => by
    rw [List.foldl_cons]
    rw [List.length_cons] at hB
    have he0 := he e List.mem_cons_self
    have h1 := addAt_bnd (a := e.2.1) h he0.2.2 (by omega)
    have ih := fold_sum (n := n) es (addAt l e.2.1 e.2.2.2) (B + 2) (by rw [addAt_length]; exact hl) (fun x hx => he x (List.mem_cons_of_mem _ hx)) h1 (by omega)
    rw [ih, List.map_cons, List.sum_cons]
    have : (addAt l e.2.1 e.2.2.2).sum = l.sum + e.2.2.2 := by
      unfold addAt
      have hb := h e.2.1.toNat
      rw [show IntKind.i64.wrap (l.getD e.2.1.toNat 0 + e.2.2.2) = l.getD e.2.1.toNat 0 + e.2.2.2 from w64 ⟨by omega, by omega⟩]
      exact set_sum _ _ _ (by omega)
    omega
theorem evRound_own (n i : Nat) (r x : List Int) : ∀ k, ((evRound n i r x k).map fun e => e.2.2.2).sum = 2 * (k : Int)
  | 0 => rfl
  | k + 1 => by
    rw [evRound_succ, List.map_append, List.sum_append, evRound_own n i r x k]
    unfold evPair
    simp only [List.map_cons, List.map_nil, List.sum_cons, List.sum_nil]
    omega
theorem meets_team {n : Nat} {l : List Int} {ll : List (List Int)} : ∀ m, (∀ i, i < m → roundB n (rnd l i) = true) → ∀ e ∈ meets n l ll m, 0 ≤ e.2.1 ∧ e.2.1 < (n : Int) := by
  intro m hr e he
  unfold meets evRound at he
  rw [List.mem_flatMap] at he
  obtain ⟨i, hi, he⟩ := he
  rw [List.mem_flatMap] at he
  obtain ⟨j, hj, he⟩ := he
  have hi := List.mem_range.1 hi
  have hj := List.mem_range.1 hj
  obtain ⟨x, h1, h2, h3⟩ := pairsL_get (rnd l i) n j hj
  obtain ⟨_, h4, h5, _⟩ := roundB_at (hr i hi) (a := x) (by omega)
  rw [h3] at he
  unfold evPair at he
  simp only [List.mem_cons, List.not_mem_nil, or_false] at he
  rcases he with rfl | rfl
  · show 0 ≤ (x : Int) ∧ (x : Int) < n
    omega
  · exact ⟨h4, h5⟩
theorem meets_sum {n : Nat} {l : List Int} {ll : List (List Int)} : ∀ m, m ≤ ll.length → (∀ i, i < m → (ll.getD i []).length = (pairsL (rnd l i) n).length) → ((meets n l ll m).map fun e => e.2.2.2).sum = 2 * (((ll.take m).map List.length).sum : Nat)
  | 0, _, _ => rfl
  | m + 1, hm, h => by
    have ih := meets_sum m (by omega) (fun i hi => h i (by omega))
    have e : ll.take (m + 1) = ll.take m ++ [ll.getD m []] := by
      rw [List.take_add_one, List.getElem?_eq_getElem (by omega), List.getD_eq_getElem?_getD, List.getElem?_eq_getElem (by omega)]; rfl
    rw [meets_succ, List.map_append, List.sum_append, ih, evRound_own, e, List.map_append, List.sum_append, ← h m (by omega)]
    simp
    omega
theorem points_sum {n k : Nat} {l : List Int} {ll : List (List Int)} (hb : schedB n k l = true) (hr : resB n k l ll = true) : (sumsF n (fun _ o => o) (meets n l ll ll.length)).sum = 2 * ((ll.map List.length).sum : Nat) := by
  obtain ⟨q1, q2, q3⟩ := schedB_at hb
  obtain ⟨r1, r2⟩ := resB_at hr
  have h1 := meets_len n (by omega) l ll ll.length
  have hown := meets_own n l ll ll.length
  have htm := meets_team (n := n) (l := l) (ll := ll) ll.length fun i hi => q3 i (by omega)
  have hs := meets_sum (n := n) (l := l) (ll := ll) ll.length (Nat.le_refl _) fun i hi => (r2 i hi).1
  rw [List.take_length] at hs
  unfold sumsF
  have h0 : (List.replicate n (0 : Int)).sum = 0 := by simp
  have := fold_sum (n := n) (meets n l ll ll.length) (List.replicate n 0) 0 (by simp) (fun e he => ⟨(htm e he).1, (htm e he).2, hown e he⟩) (fun j => by
    rw [List.getD_eq_getElem?_getD, List.getElem?_replicate]; split <;> simp) (by omega)
  rw [this, h0, hs]; simp

/-! Rankings fall. -/
theorem bub_spec (g : Int → Int → Bool) (l : List Int) (x : Int) : ∀ i, (∀ m, bubAt g l x i ≤ m → m < i → g x (l.getD m 0) = true) ∧ (∀ j, bubAt g l x i = j + 1 → g x (l.getD j 0) = false)
  | 0 => ⟨fun m _ h => by omega, fun j h => by simp [bubAt] at h⟩
  | i + 1 => by
    cases h : g x (l.getD i 0) with
    | true =>
      rw [bubAt_yes h]
      obtain ⟨h1, h2⟩ := bub_spec g l x i
      refine ⟨fun m hm hi => ?_, h2⟩
      by_cases e : m = i
      · rw [e]; exact h
      · exact h1 m hm (by omega)
    | false =>
      rw [bubAt_no h]
      refine ⟨fun m hm hi => by omega, fun j hj => ?_⟩
      rw [show j = i by omega]; exact h
theorem rank_falls {g : Int → Int → Bool} {p : Int → Int} (hy : ∀ a b, g a b = true → p b ≤ p a) (hn : ∀ a b, g a b = false → p a ≤ p b) : ∀ i, (rankL g i).Pairwise fun a b => p b ≤ p a
  | 0 => List.Pairwise.nil
  | i + 1 => by
    have ih := rank_falls hy hn i
    have hl := rankL_length g i
    have hle := bubAt_le g (rankL g i) i i
    obtain ⟨s1, s2⟩ := bub_spec g (rankL g i) i i
    rw [rankL_succ]
    unfold insAt
    generalize bubAt g (rankL g i) i i = j at hle s1 s2
    have get : ∀ m (hm : m < (rankL g i).length), (rankL g i).getD m 0 = (rankL g i)[m] := fun m hm => by
      rw [List.getD_eq_getElem?_getD, List.getElem?_eq_getElem hm]; rfl
    have hfall : ∀ m m', m < m' → m' < i → p ((rankL g i).getD m' 0) ≤ p ((rankL g i).getD m 0) := fun m m' h h' => by
      rw [get m (by omega), get m' (by omega)]
      exact (List.pairwise_iff_getElem.1 ih) m m' (by omega) (by omega) h
    have hd : ∀ y, y ∈ (rankL g i).drop j → p y ≤ p (i : Int) := fun y hy' => by
      obtain ⟨m, hm, e⟩ := List.getElem_of_mem hy'
      rw [List.length_drop] at hm
      rw [List.getElem_drop] at e
      have := hy _ _ (s1 (j + m) (by omega) (by omega))
      rw [get (j + m) (by omega), e] at this
      exact this
    have ht : ∀ y, y ∈ (rankL g i).take j → p (i : Int) ≤ p y := fun y hy' => by
      obtain ⟨m, hm, e⟩ := List.getElem_of_mem hy'
      rw [List.length_take] at hm
      rw [List.getElem_take] at e
      cases j with
      | zero => omega
      | succ j =>
        have h1 := hn _ _ (s2 j rfl)
        have h2 : p ((rankL g i).getD j 0) ≤ p ((rankL g i).getD m 0) := by
          by_cases e : m = j
          · rw [e]; exact Int.le_refl _
          · exact hfall m j (by omega) (by omega)
        rw [get m (by omega), e] at h2
        omega
    refine List.pairwise_append.2 ⟨ih.sublist (List.take_sublist _ _), List.pairwise_cons.2 ⟨hd, ih.sublist (List.drop_sublist _ _)⟩, fun y hy' z hz => ?_⟩
    rcases List.mem_cons.1 hz with rfl | hz
    · exact ht y hy'
    · exact Int.le_trans (hd z hz) (ht y hy')
theorem ahd_yes {P s t : List Int} {a b : Int} (h : ahd P s t a b = true) : P.getD b.toNat 0 ≤ P.getD a.toNat 0 := by
  unfold ahd at h
  simp only [Bool.or_eq_true, Bool.and_eq_true, decide_eq_true_eq] at h
  rcases h with h | h
  · omega
  · omega
theorem ahd_no {P s t : List Int} {a b : Int} (h : ahd P s t a b = false) : P.getD a.toNat 0 ≤ P.getD b.toNat 0 := by
  unfold ahd at h
  rw [Bool.or_eq_false_iff] at h
  have := of_decide_eq_false h.1
  omega
theorem rank_fall (P s t : List Int) (n : Nat) : ∀ i j, i ≤ j → j < n → P.getD ((rankL (ahd P s t) n).getD j 0).toNat 0 ≤ P.getD ((rankL (ahd P s t) n).getD i 0).toNat 0 := fun i j h hj => by
  have hl := rankL_length (ahd P s t) n
  have := rank_falls (g := ahd P s t) (p := fun a => P.getD a.toNat 0) (fun a b h => ahd_yes h) (fun a b h => ahd_no h) n
  have get : ∀ m (hm : m < (rankL (ahd P s t) n).length), (rankL (ahd P s t) n).getD m 0 = (rankL (ahd P s t) n)[m] := fun m hm => by
    rw [List.getD_eq_getElem?_getD, List.getElem?_eq_getElem hm]; rfl
  by_cases e : i = j
  · rw [e]; exact Int.le_refl _
  · rw [get i (by omega), get j (by omega)]
    exact (List.pairwise_iff_getElem.1 this) i j (by omega) (by omega) (by omega)
end Go.Abs
end

section
set_option linter.unusedSimpArgs false
set_option linter.unusedVariables false
set_option maxRecDepth 100000
set_option maxHeartbeats 2000000
namespace Go.Proofs.Ytgkmdfjjlghecaa.A
open Go Go.Abs Go.RowKit

structure ResF (n k : Nat) (R P F : List Int) (ll : List (List Int)) : Prop where
  perm : PermN n R
  plen : P.length = n
  prng : ∀ x, x ∈ P → 0 ≤ x ∧ x ≤ 1000000
  fall : ∀ i, i + 1 < n → P.getD (R.getD (i + 1) 0).toNat 0 ≤ P.getD (R.getD i 0).toNat 0
  sum : P.sum = 2 * ((ll.map List.length).sum : Nat)
  has : 0 < F.length
  top : ll.length = k → ∀ a : Nat, a < n → ((a : Int) ∈ F ↔ P.getD a 0 = P.getD (R.getD 0 0).toNat 0)

theorem firstsN_mem (n k : Nat) (l : List Int) (ll : List (List Int)) : ∀ b, ∀ a : Nat, (a : Int) ∈ firstsN n k l ll b ↔ a < b ∧ firstB n k l ll a = true
  | 0, a => by simp [firstsN]
  | b + 1, a => by
    unfold firstsN
    rw [List.mem_append, firstsN_mem n k l ll b a]
    by_cases e : a = b
    · subst e
      by_cases h : firstB n k l ll (a : Int) = true
      · rw [if_pos h]; simp [h]
      · rw [if_neg h]; simp [h]
    · have h2 : ¬ (a : Int) ∈ (if firstB n k l ll (b : Int) = true then [(b : Int)] else []) := by
        split
        · rw [List.mem_singleton]; omega
        · simp
      constructor
      · rintro (h | h)
        · exact ⟨by omega, h.2⟩
        · exact absurd h h2
      · rintro ⟨h1, h3⟩; exact .inl ⟨by omega, h3⟩

theorem resF (q : Int) (k : Nat) (l : List Int) (ll : List (List Int)) (hs : schedB q k l = true) (hr : resB q.toNat k l ll = true) : ResF q.toNat k (rankR q k l ll) (ptsR q k l ll) (firstsR q k l ll) ll := by
  obtain ⟨q1, q2, q3⟩ := schedB_at hs
  obtain ⟨r1, r2⟩ := resB_at hr
  obtain ⟨n, rfl⟩ : ∃ n : Nat, q = n := ⟨q.toNat, by omega⟩
  rw [Int.toNat_natCast] at hr r2 ⊢
  have hc : schedB (n : Int) k l = true ∧ resB (n : Int).toNat k l ll = true := ⟨hs, by rw [Int.toNat_natCast]; exact hr⟩
  unfold rankR ptsR firstsR
  rw [if_pos hc, if_pos hc, if_pos hc, Int.toNat_natCast]
  have g0 := gm0_ok (n := n) (by omega) (l := l) (ll := ll) (by omega)
  have hfall := rank_fall (sumsF n (fun _ o => o) (meets n l ll ll.length)) (sumsF n (sumF false (sumsF n (fun _ o => o) (meets n l ll ll.length))) (meets n l ll ll.length)) (sumsF n (sumF true (sumsF n (fun _ o => o) (meets n l ll ll.length))) (meets n l ll ll.length)) n
  have hperm := rankL_perm (ahd (sumsF n (fun _ o => o) (meets n l ll ll.length)) (sumsF n (sumF false (sumsF n (fun _ o => o) (meets n l ll ll.length))) (meets n l ll ll.length)) (sumsF n (sumF true (sumsF n (fun _ o => o) (meets n l ll ll.length))) (meets n l ll ll.length))) n
  refine ⟨hperm, g0.len, fun x hx => ?_, fun i hi => hfall i (i + 1) (by omega) hi, points_sum hs hr, ?_, fun hk a ha => ?_⟩
  · obtain ⟨j, hj, e⟩ := List.getElem_of_mem hx
    have := g0.bnd j
    dsimp only at this
    rw [List.getD_eq_getElem?_getD, List.getElem?_eq_getElem hj] at this
    simp only [Option.getD_some, e] at this
    omega
  · obtain ⟨a, ha, hf⟩ := firstB_any hs r1
    exact List.length_pos_of_mem ((firstsN_mem n k l ll n a).2 ⟨ha, hf⟩)
  · rw [firstsN_mem, firstB_all _ hk]
    have h0 := hperm.rng 0 (by omega)
    have hmax : ∀ b : Nat, b < n → (sumsF n (fun _ o => o) (meets n l ll ll.length)).getD b 0 ≤ (sumsF n (fun _ o => o) (meets n l ll ll.length)).getD ((rankL (ahd (sumsF n (fun _ o => o) (meets n l ll ll.length)) (sumsF n (sumF false (sumsF n (fun _ o => o) (meets n l ll ll.length))) (meets n l ll ll.length)) (sumsF n (sumF true (sumsF n (fun _ o => o) (meets n l ll ll.length))) (meets n l ll ll.length))) n).getD 0 0).toNat 0 := fun b hb => by
      obtain ⟨j, hj, e⟩ := hperm.sur b hb
      have := hfall 0 j (by omega) hj
      rw [e, Int.toNat_natCast] at this
      exact this
    generalize (rankL (ahd (sumsF n (fun _ o => o) (meets n l ll ll.length)) (sumsF n (sumF false (sumsF n (fun _ o => o) (meets n l ll ll.length))) (meets n l ll ll.length)) (sumsF n (sumF true (sumsF n (fun _ o => o) (meets n l ll ll.length))) (meets n l ll ll.length))) n).getD 0 0 = t at h0 hmax
    generalize sumsF n (fun _ o => o) (meets n l ll ll.length) = P at hmax
    have hov : (overB n P (a : Int) = true) ↔ ∃ b, b < n ∧ P.getD a 0 < P.getD b 0 := by
      unfold overB
      rw [List.any_eq_true, Int.toNat_natCast]
      constructor
      · rintro ⟨b, hb, h⟩; exact ⟨b, List.mem_range.1 hb, of_decide_eq_true h⟩
      · rintro ⟨b, hb, h⟩; exact ⟨b, List.mem_range.2 hb, decide_eq_true h⟩
    constructor
    · rintro ⟨_, h⟩
      have h' : ¬ overB n P (a : Int) = true := by simpa using h
      have h2 := hmax a ha
      have h3 : ¬ P.getD a 0 < P.getD t.toNat 0 := fun hh => h' (hov.2 ⟨t.toNat, by omega, hh⟩)
      omega
    · intro h
      refine ⟨ha, ?_⟩
      have : ¬ overB n P (a : Int) = true := fun hh => by
        obtain ⟨b, hb, h2⟩ := hov.1 hh
        have := hmax b hb
        omega
      simpa using this

theorem sumlen_step (ll : List (List Int)) (j : Nat) (h : j < ll.length) : ((ll.take (j + 1)).map List.length).sum = ((ll.take j).map List.length).sum + (ll.getD j []).length := by
  rw [take_snoc ll [] j h, List.map_append, List.sum_append]; simp
theorem sumlen_le {ll : List (List Int)} (b : Nat) (h : ∀ y, y ∈ ll → y.length ≤ b) {m : Nat} (hm : ll.length ≤ m) (j : Nat) : ((ll.take j).map List.length).sum ≤ b * m := by
  have : ∀ (l : List (List Int)), (∀ y, y ∈ l → y.length ≤ b) → (l.map List.length).sum ≤ b * l.length := fun l => by
    induction l with
    | nil => intro _; simp
    | cons y l ih =>
      intro h
      have h1 := h y List.mem_cons_self
      have h2 := ih fun z hz => h z (List.mem_cons_of_mem _ hz)
      rw [List.map_cons, List.sum_cons, List.length_cons, Nat.mul_succ]
      omega
  refine Nat.le_trans (this (ll.take j) fun y hy => h y (List.mem_of_mem_take hy)) (Nat.mul_le_mul_left _ ?_)
  rw [List.length_take]; omega

theorem law_Results_w (hF : ∀ (q : Int) (k : Nat) (l : List Int) (ll : List (List Int)), schedB q k l = true → resB q.toNat k l ll = true → ResF q.toNat k (rankR q k l ll) (ptsR q k l ll) (firstsR q k l ll) ll) (cv : Value) (nb : Nat) (H : AH) (hc : CodeOk H cv nb) :
    ACalls Try.prog 10 [cv] H (fun v _ => v = .bool true ∧ True) := by
  refine ACalls.wf (by kernel_rfl) fun hs => acalls_of_awp [.tmp 2] Try.func10 (by kernel_rfl) rfl rfl (Nat.le_of_ble_eq_true rfl) (by kernel_rfl) ?_
  try simp (disch := first | omega | (simp only [ints_length, List.length_replicate, List.length_set] <;> omega)) only [Sall,evalOp,init,binE,binI,unE,convE,okNil,builtE,gv,TD.isAgg,resV,↓reduceIte,Nat.reduceEqDiff,reduceCtorEq,Nat.reduceAdd,Nat.reduceMul,Nat.reduceLeDiff,quietOp,blindOp,Int.reduceEq,Int.reduceLT,Int.reduceLE,Nat.reduceLT,tiA,tiXA, true_and]
  refine (big_c cv nb H hc).to ?_
  refine Holds.mp ?_
  by_cases hbig : 4096 < (nb : Int)
  · have e : decide (4096 < (nb : Int)) = true := decide_eq_true hbig
    try simp (disch := first | omega | (simp only [ints_length, List.length_replicate, List.length_set] <;> omega)) only [Sall,evalOp,init,binE,binI,unE,convE,okNil,builtE,gv,TD.isAgg,resV,↓reduceIte,Nat.reduceEqDiff,reduceCtorEq,Nat.reduceAdd,Nat.reduceMul,Nat.reduceLeDiff,quietOp,blindOp,Int.reduceEq,Int.reduceLT,Int.reduceLE,Nat.reduceLT,tiA,tiXA, e]
  have e : decide (4096 < (nb : Int)) = false := decide_eq_false hbig
  have hnb : nb ≤ 4611686018427387904 := by omega
  try simp (disch := first | omega | (simp only [ints_length, List.length_replicate, List.length_set] <;> omega)) only [Sall,evalOp,init,binE,binI,unE,convE,okNil,builtE,gv,TD.isAgg,resV,↓reduceIte,Nat.reduceEqDiff,reduceCtorEq,Nat.reduceAdd,Nat.reduceMul,Nat.reduceLeDiff,quietOp,blindOp,Int.reduceEq,Int.reduceLT,Int.reduceLE,Nat.reduceLT,tiA,tiXA, e]
  refine ACalls.ex (g := fun p : (Int × Int) × (Value × Value) => .tuple #[.agg #[.int .i64 p.1.1, p.2.1], p.2.2]) (drawRankingOf_c cv nb H hnb hc) ?_
  rintro ⟨⟨q, a0⟩, ⟨u, x⟩⟩ H1 ⟨k, l, ll, hq, ha, hk, hb, hll, hl, hRR, o1⟩
  dsimp only at hq ha hRR
  have hu := (hRR H1 fun i r _ h => h).1.rd.one
  have hx := (hRR H1 fun i r _ h => h).2.one
  have hl2 : ∀ y, y ∈ ll → y.length ≤ 4294967296 := fun y hy => by
    obtain ⟨j, hj, e⟩ := List.getElem_of_mem hy
    have := (hl j hj).1
    rw [List.getD_eq_getElem?_getD, List.getElem?_eq_getElem hj] at this
    simp only [Option.getD_some, e] at this
    omega
  refine Holds.mp ?_
  try simp (disch := first | omega | (simp only [ints_length, List.length_replicate, List.length_set] <;> omega)) only [Sall,evalOp,init,binE,binI,unE,convE,okNil,builtE,gv,TD.isAgg,resV,↓reduceIte,Nat.reduceEqDiff,reduceCtorEq,Nat.reduceAdd,Nat.reduceMul,Nat.reduceLeDiff,quietOp,blindOp,Int.reduceEq,Int.reduceLT,Int.reduceLE,Nat.reduceLT,tiA,tiXA, hu, hx]
  have o2 := ((o1.push ⟨32, true, [.int .i64 0, .slice none 0 0]⟩).putRow 0 rfl (cs' := [.int .i64 q, u]))
  obtain ⟨si, esi⟩ : ∃ si, si = H1.next := ⟨_, rfl⟩
  rw [← esi] at o2 ⊢
  have hRR2 : ∀ i r, H1.row i = some r → ((H1.push ⟨32, true, [.int .i64 0, .slice none 0 0]⟩).setCells si [.int .i64 q, u]).row i = some r := fun i r hr => by
    have := o1.sc _ _ hr
    rw [AH.setCells_row, if_neg (by omega), AH.push_row, if_neg (by omega)]; exact hr
  have o2 : Ow H ((H1.push ⟨32, true, [.int .i64 0, .slice none 0 0]⟩).setCells si [.int .i64 q, u]) [.row si ⟨32, true, [.int .i64 q, u]⟩] := o2
  generalize (H1.push ⟨32, true, [.int .i64 0, .slice none 0 0]⟩).setCells si [.int .i64 q, u] = H2 at o2 hRR2 ⊢
  -- what is given can be read later on
  have rd : ∀ H', (∀ i r, H2.row i = some r → H'.row i = some r) → Rs 14 H' u k l ∧ Rd2 1 H' x ll := fun H' h => hRR H' fun i r _ hr => h _ _ (hRR2 _ _ hr)
  have rd2 := rd H2 fun _ _ h => h
  have g0 := (o2.rowAt 0 rfl).1
  have old2 : ∀ i r, H2.row i = some r → H2.row i = some r := fun _ _ h => h
  have rd2' := rd H2 old2
  refine (ACalls.scz (RankingOf_c q u k l x ll H2 rd2'.1.rd (by omega) rd2'.2 (by omega) hl2)).ex ?_
  rintro v1 H3 ⟨⟨up3, fr3⟩, sc3⟩
  have o3 := o2.call (Ow.of_fr up3 sc3 fr3)
  have old3 : ∀ i r, H2.row i = some r → H3.row i = some r := fun i r hr => (up3.le o2.sc).row _ _ (old2 i r hr)
  have g3 := (o3.rowAt 0 rfl).1
  have hv1 := fr3.rd.one
  refine Holds.mp ?_
  try simp (disch := first | omega | (simp only [ints_length, List.length_replicate, List.length_set] <;> omega)) only [Sall,evalOp,init,binE,binI,unE,convE,okNil,builtE,gv,TD.isAgg,resV,↓reduceIte,Nat.reduceEqDiff,reduceCtorEq,Nat.reduceAdd,Nat.reduceMul,Nat.reduceLeDiff,quietOp,blindOp,Int.reduceEq,Int.reduceLT,Int.reduceLE,Nat.reduceLT,tiA,tiXA, hv1, g3, hu, hx]
  have rd3' := rd H3 old3
  refine (ACalls.scz (specRankingOf_c q u k l x ll H3 rd3'.1.rd (by omega) rd3'.2 (by omega) hl2)).ex ?_
  rintro v2 H4 ⟨⟨up4, fr4⟩, sc4⟩
  have o4 := o3.call (Ow.of_fr up4 sc4 fr4)
  have old4 : ∀ i r, H2.row i = some r → H4.row i = some r := fun i r hr => (up4.le o3.sc).row _ _ (old3 i r hr)
  have g4 := (o4.rowAt 0 rfl).1
  have hv2 := fr4.rd.one
  refine Holds.mp ?_
  try simp (disch := first | omega | (simp only [ints_length, List.length_replicate, List.length_set] <;> omega)) only [Sall,evalOp,init,binE,binI,unE,convE,okNil,builtE,gv,TD.isAgg,resV,↓reduceIte,Nat.reduceEqDiff,reduceCtorEq,Nat.reduceAdd,Nat.reduceMul,Nat.reduceLeDiff,quietOp,blindOp,Int.reduceEq,Int.reduceLT,Int.reduceLE,Nat.reduceLT,tiA,tiXA, hv2, g4, hu, hx, bne_self_eq_false]
  refine (likeInts_c v1 v2 _ (rankR q k l ll) H4 (by have := rankR_length q k l ll; omega) (o4.rd 1 rfl) (o4.rd 2 rfl)).to ?_
  refine Holds.mp ?_
  try simp (disch := first | omega | (simp only [ints_length, List.length_replicate, List.length_set] <;> omega)) only [Sall,evalOp,init,binE,binI,unE,convE,okNil,builtE,gv,TD.isAgg,resV,↓reduceIte,Nat.reduceEqDiff,reduceCtorEq,Nat.reduceAdd,Nat.reduceMul,Nat.reduceLeDiff,quietOp,blindOp,Int.reduceEq,Int.reduceLT,Int.reduceLE,Nat.reduceLT,tiA,tiXA, g4, hu, hx]
  have rd4' := rd H4 old4
  refine (ACalls.scz (PointsOf_c q u k l x ll H4 rd4'.1.rd (by omega) rd4'.2 (by omega) hl2)).ex ?_
  rintro v3 H5 ⟨⟨up5, fr5⟩, sc5⟩
  have o5 := o4.call (Ow.of_fr up5 sc5 fr5)
  have old5 : ∀ i r, H2.row i = some r → H5.row i = some r := fun i r hr => (up5.le o4.sc).row _ _ (old4 i r hr)
  have g5 := (o5.rowAt 0 rfl).1
  have hv3 := fr5.rd.one
  refine Holds.mp ?_
  try simp (disch := first | omega | (simp only [ints_length, List.length_replicate, List.length_set] <;> omega)) only [Sall,evalOp,init,binE,binI,unE,convE,okNil,builtE,gv,TD.isAgg,resV,↓reduceIte,Nat.reduceEqDiff,reduceCtorEq,Nat.reduceAdd,Nat.reduceMul,Nat.reduceLeDiff,quietOp,blindOp,Int.reduceEq,Int.reduceLT,Int.reduceLE,Nat.reduceLT,tiA,tiXA, hv3, g5, hu, hx]
  have rd5' := rd H5 old5
  refine (ACalls.scz (specPointsOf_c q u k l x ll H5 rd5'.1.rd (by omega) rd5'.2 (by omega) hl2)).ex ?_
  rintro v4 H6 ⟨⟨up6, fr6⟩, sc6⟩
  have o6 := o5.call (Ow.of_fr up6 sc6 fr6)
  have old6 : ∀ i r, H2.row i = some r → H6.row i = some r := fun i r hr => (up6.le o5.sc).row _ _ (old5 i r hr)
  have g6 := (o6.rowAt 0 rfl).1
  have hv4 := fr6.rd.one
  refine Holds.mp ?_
  try simp (disch := first | omega | (simp only [ints_length, List.length_replicate, List.length_set] <;> omega)) only [Sall,evalOp,init,binE,binI,unE,convE,okNil,builtE,gv,TD.isAgg,resV,↓reduceIte,Nat.reduceEqDiff,reduceCtorEq,Nat.reduceAdd,Nat.reduceMul,Nat.reduceLeDiff,quietOp,blindOp,Int.reduceEq,Int.reduceLT,Int.reduceLE,Nat.reduceLT,tiA,tiXA, hv4, g6, hu, hx, bne_self_eq_false]
  refine (likeInts_c v3 v4 _ (ptsR q k l ll) H6 (by have := ptsR_length q k l ll; omega) (o6.rd 3 rfl) (o6.rd 4 rfl)).to ?_
  refine Holds.mp ?_
  try simp (disch := first | omega | (simp only [ints_length, List.length_replicate, List.length_set] <;> omega)) only [Sall,evalOp,init,binE,binI,unE,convE,okNil,builtE,gv,TD.isAgg,resV,↓reduceIte,Nat.reduceEqDiff,reduceCtorEq,Nat.reduceAdd,Nat.reduceMul,Nat.reduceLeDiff,quietOp,blindOp,Int.reduceEq,Int.reduceLT,Int.reduceLE,Nat.reduceLT,tiA,tiXA, g6, hu, hx]
  have rd6' := rd H6 old6
  refine (ACalls.scz (SecondNumbers_c q u k l x ll H6 rd6'.1.rd (by omega) rd6'.2 (by omega) hl2)).ex ?_
  rintro v5 H7 ⟨⟨up7, fr7⟩, sc7⟩
  have o7 := o6.call (Ow.of_fr up7 sc7 fr7)
  have old7 : ∀ i r, H2.row i = some r → H7.row i = some r := fun i r hr => (up7.le o6.sc).row _ _ (old6 i r hr)
  have g7 := (o7.rowAt 0 rfl).1
  have hv5 := fr7.rd.one
  refine Holds.mp ?_
  try simp (disch := first | omega | (simp only [ints_length, List.length_replicate, List.length_set] <;> omega)) only [Sall,evalOp,init,binE,binI,unE,convE,okNil,builtE,gv,TD.isAgg,resV,↓reduceIte,Nat.reduceEqDiff,reduceCtorEq,Nat.reduceAdd,Nat.reduceMul,Nat.reduceLeDiff,quietOp,blindOp,Int.reduceEq,Int.reduceLT,Int.reduceLE,Nat.reduceLT,tiA,tiXA, hv5, g7, hu, hx]
  have rd7' := rd H7 old7
  refine (ACalls.scz (specSecondNumbers_c q u k l x ll H7 rd7'.1.rd (by omega) rd7'.2 (by omega) hl2)).ex ?_
  rintro v6 H8 ⟨⟨up8, fr8⟩, sc8⟩
  have o8 := o7.call (Ow.of_fr up8 sc8 fr8)
  have old8 : ∀ i r, H2.row i = some r → H8.row i = some r := fun i r hr => (up8.le o7.sc).row _ _ (old7 i r hr)
  have g8 := (o8.rowAt 0 rfl).1
  have hv6 := fr8.rd.one
  refine Holds.mp ?_
  try simp (disch := first | omega | (simp only [ints_length, List.length_replicate, List.length_set] <;> omega)) only [Sall,evalOp,init,binE,binI,unE,convE,okNil,builtE,gv,TD.isAgg,resV,↓reduceIte,Nat.reduceEqDiff,reduceCtorEq,Nat.reduceAdd,Nat.reduceMul,Nat.reduceLeDiff,quietOp,blindOp,Int.reduceEq,Int.reduceLT,Int.reduceLE,Nat.reduceLT,tiA,tiXA, hv6, g8, hu, hx, bne_self_eq_false]
  refine (likeInts_c v5 v6 _ (sumR false q k l ll) H8 (by have := sumR_length false q k l ll; omega) (o8.rd 5 rfl) (o8.rd 6 rfl)).to ?_
  refine Holds.mp ?_
  try simp (disch := first | omega | (simp only [ints_length, List.length_replicate, List.length_set] <;> omega)) only [Sall,evalOp,init,binE,binI,unE,convE,okNil,builtE,gv,TD.isAgg,resV,↓reduceIte,Nat.reduceEqDiff,reduceCtorEq,Nat.reduceAdd,Nat.reduceMul,Nat.reduceLeDiff,quietOp,blindOp,Int.reduceEq,Int.reduceLT,Int.reduceLE,Nat.reduceLT,tiA,tiXA, g8, hu, hx]
  have rd8' := rd H8 old8
  refine (ACalls.scz (ThirdNumbers_c q u k l x ll H8 rd8'.1.rd (by omega) rd8'.2 (by omega) hl2)).ex ?_
  rintro v7 H9 ⟨⟨up9, fr9⟩, sc9⟩
  have o9 := o8.call (Ow.of_fr up9 sc9 fr9)
  have old9 : ∀ i r, H2.row i = some r → H9.row i = some r := fun i r hr => (up9.le o8.sc).row _ _ (old8 i r hr)
  have g9 := (o9.rowAt 0 rfl).1
  have hv7 := fr9.rd.one
  refine Holds.mp ?_
  try simp (disch := first | omega | (simp only [ints_length, List.length_replicate, List.length_set] <;> omega)) only [Sall,evalOp,init,binE,binI,unE,convE,okNil,builtE,gv,TD.isAgg,resV,↓reduceIte,Nat.reduceEqDiff,reduceCtorEq,Nat.reduceAdd,Nat.reduceMul,Nat.reduceLeDiff,quietOp,blindOp,Int.reduceEq,Int.reduceLT,Int.reduceLE,Nat.reduceLT,tiA,tiXA, hv7, g9, hu, hx]
  have rd9' := rd H9 old9
  refine (ACalls.scz (specThirdNumbers_c q u k l x ll H9 rd9'.1.rd (by omega) rd9'.2 (by omega) hl2)).ex ?_
  rintro v8 H10 ⟨⟨up10, fr10⟩, sc10⟩
  have o10 := o9.call (Ow.of_fr up10 sc10 fr10)
  have old10 : ∀ i r, H2.row i = some r → H10.row i = some r := fun i r hr => (up10.le o9.sc).row _ _ (old9 i r hr)
  have g10 := (o10.rowAt 0 rfl).1
  have hv8 := fr10.rd.one
  refine Holds.mp ?_
  try simp (disch := first | omega | (simp only [ints_length, List.length_replicate, List.length_set] <;> omega)) only [Sall,evalOp,init,binE,binI,unE,convE,okNil,builtE,gv,TD.isAgg,resV,↓reduceIte,Nat.reduceEqDiff,reduceCtorEq,Nat.reduceAdd,Nat.reduceMul,Nat.reduceLeDiff,quietOp,blindOp,Int.reduceEq,Int.reduceLT,Int.reduceLE,Nat.reduceLT,tiA,tiXA, hv8, g10, hu, hx, bne_self_eq_false]
  refine (likeInts_c v7 v8 _ (sumR true q k l ll) H10 (by have := sumR_length true q k l ll; omega) (o10.rd 7 rfl) (o10.rd 8 rfl)).to ?_
  refine Holds.mp ?_
  try simp (disch := first | omega | (simp only [ints_length, List.length_replicate, List.length_set] <;> omega)) only [Sall,evalOp,init,binE,binI,unE,convE,okNil,builtE,gv,TD.isAgg,resV,↓reduceIte,Nat.reduceEqDiff,reduceCtorEq,Nat.reduceAdd,Nat.reduceMul,Nat.reduceLeDiff,quietOp,blindOp,Int.reduceEq,Int.reduceLT,Int.reduceLE,Nat.reduceLT,tiA,tiXA, g10, hu, hx]
  have rd10' := rd H10 old10
  refine (ACalls.scz (FirstTeams_c q u k l x ll H10 rd10'.1 (by omega) rd10'.2 (by omega) hl2)).ex ?_
  rintro v9 H11 ⟨⟨up11, fr11⟩, sc11⟩
  have o11 := o10.call (Ow.of_fr up11 sc11 fr11)
  have old11 : ∀ i r, H2.row i = some r → H11.row i = some r := fun i r hr => (up11.le o10.sc).row _ _ (old10 i r hr)
  have g11 := (o11.rowAt 0 rfl).1
  have hv9 := fr11.rd.one
  refine Holds.mp ?_
  try simp (disch := first | omega | (simp only [ints_length, List.length_replicate, List.length_set] <;> omega)) only [Sall,evalOp,init,binE,binI,unE,convE,okNil,builtE,gv,TD.isAgg,resV,↓reduceIte,Nat.reduceEqDiff,reduceCtorEq,Nat.reduceAdd,Nat.reduceMul,Nat.reduceLeDiff,quietOp,blindOp,Int.reduceEq,Int.reduceLT,Int.reduceLE,Nat.reduceLT,tiA,tiXA, hv9, g11, hu, hx]
  have rd11' := rd H11 old11
  refine (ACalls.scz (specFirstTeams_c q u k l x ll H11 rd11'.1.rd (by omega) rd11'.2 (by omega) hl2)).ex ?_
  rintro v10 H12 ⟨⟨up12, fr12⟩, sc12⟩
  have o12 := o11.call (Ow.of_fr up12 sc12 fr12)
  have old12 : ∀ i r, H2.row i = some r → H12.row i = some r := fun i r hr => (up12.le o11.sc).row _ _ (old11 i r hr)
  have g12 := (o12.rowAt 0 rfl).1
  have hv10 := fr12.rd.one
  refine Holds.mp ?_
  try simp (disch := first | omega | (simp only [ints_length, List.length_replicate, List.length_set] <;> omega)) only [Sall,evalOp,init,binE,binI,unE,convE,okNil,builtE,gv,TD.isAgg,resV,↓reduceIte,Nat.reduceEqDiff,reduceCtorEq,Nat.reduceAdd,Nat.reduceMul,Nat.reduceLeDiff,quietOp,blindOp,Int.reduceEq,Int.reduceLT,Int.reduceLE,Nat.reduceLT,tiA,tiXA, hv10, g12, hu, hx, bne_self_eq_false]
  refine (likeInts_c v9 v10 _ (firstsR q k l ll) H12 (by have := firstsR_length q k l ll; omega) (o12.rd 9 rfl) (o12.rd 10 rfl)).to ?_
  refine Holds.mp ?_
  try simp (disch := first | omega | (simp only [ints_length, List.length_replicate, List.length_set] <;> omega)) only [Sall,evalOp,init,binE,binI,unE,convE,okNil,builtE,gv,TD.isAgg,resV,↓reduceIte,Nat.reduceEqDiff,reduceCtorEq,Nat.reduceAdd,Nat.reduceMul,Nat.reduceLeDiff,quietOp,blindOp,Int.reduceEq,Int.reduceLT,Int.reduceLE,Nat.reduceLT,tiA,tiXA, g12, hu, hx]
  have rd12' := rd H12 old12
  refine (AreResults_c q u k l x ll H12 rd12'.1.rd (by omega) rd12'.2 (by omega) hl2).to ?_
  refine Holds.mp ?_
  try simp (disch := first | omega | (simp only [ints_length, List.length_replicate, List.length_set] <;> omega)) only [Sall,evalOp,init,binE,binI,unE,convE,okNil,builtE,gv,TD.isAgg,resV,↓reduceIte,Nat.reduceEqDiff,reduceCtorEq,Nat.reduceAdd,Nat.reduceMul,Nat.reduceLeDiff,quietOp,blindOp,Int.reduceEq,Int.reduceLT,Int.reduceLE,Nat.reduceLT,tiA,tiXA, g12, hu, hx]
  refine (specAreResults_c q u k l x ll H12 rd12'.1.rd (by omega) rd12'.2 (by omega) hl2).to ?_
  refine Holds.mp ?_
  have eb : (!((schedB q k l && resB q.toNat k l ll) == (schedB q k l && resB q.toNat k l ll))) = false := by simp
  have eb2 : ((schedB q k l && resB q.toNat k l ll) != (schedB q k l && resB q.toNat k l ll)) = false := by simp
  have hln1 := o12.lenV 1 rfl
  have hln9 := o12.lenV 9 rfl
  by_cases hgood : schedB q k l = true ∧ resB q.toNat k l ll = true
  · obtain ⟨hs1, hs2⟩ := hgood
    have F := hF q k l ll hs1 hs2
    have hn := (schedB_at hs1).1
    have hC : codeS q k l (resB q.toNat k l ll) = 0 := by unfold codeS; rw [if_pos hs1, if_pos hs2]
    have hG : (schedB q k l && resB q.toNat k l ll) = true := by rw [hs1, hs2]; rfl
    obtain ⟨n, en⟩ : ∃ n : Nat, n = q.toNat := ⟨_, rfl⟩
    have hqn : q = (n : Int) := by omega
    have hRn : (rankR q k l ll).length = n := by have := F.perm.len; omega
    have hPn : (ptsR q k l ll).length = n := by have := F.plen; omega
    have hq1 : ((n : Int) != q) = false := by rw [hqn]; simp
    have c0 : ((0 : Int) != 0) = false := rfl
    have rR := o12.rd 1 rfl
    have rP := o12.rd 3 rfl
    have rF := o12.rd 9 rfl
    rw [hRn] at rR hln1
    rw [hPn] at rP
    have lR := rR.len
    have lF := rF.len
    obtain ⟨ai, ao, au, ac, ar, ea, a1, a2, a3, a4⟩ := rR.get (by omega)
    obtain ⟨bi, bo, bu, bc, br, eb3, b1, b2, b3, b4⟩ := rP.get (by omega)
    obtain ⟨R, eR⟩ : ∃ R, R = rankR q k l ll := ⟨_, rfl⟩
    obtain ⟨P, eP⟩ : ∃ P, P = ptsR q k l ll := ⟨_, rfl⟩
    obtain ⟨Fi, eF⟩ : ∃ Fi, Fi = firstsR q k l ll := ⟨_, rfl⟩
    rw [← eR, ← eP, ← eF, ← en] at F
    rw [← eR] at a3 a4 hRn rR
    rw [← eP] at b3 hPn rP
    rw [← eF] at rF lF
    simp (config := {maxSteps := 3000000}) (disch := first | omega | (simp only [ints_length, List.length_replicate, List.length_set] <;> omega)) only [Sall,evalOp,init,binE,binI,unE,convE,okNil,builtE,gv,TD.isAgg,resV,↓reduceIte,Nat.reduceEqDiff,reduceCtorEq,Nat.reduceAdd,Nat.reduceMul,Nat.reduceLeDiff,quietOp,blindOp,Int.reduceEq,Int.reduceLT,Int.reduceLE,Nat.reduceLT,tiA,tiXA, bne_self_eq_false, beq_self_eq_true, eb, eb2, hC, hG, c0, builtE, hln1, hq1, g12, hu]
    refine ⟨by omega, ?_⟩
    have o13 := (Ow.refl o12.sc).pushSl (k := 1) (n := n) (ty := 4) (vs := bools (metL n [])) (by rw [bools_length, metL_length]; omega)
    rw [zeros_bools, ← en, ← metL_nil]
    obtain ⟨mb, emb⟩ : ∃ mb, mb = H12.next := ⟨_, rfl⟩
    rw [← emb] at o13 ⊢
    have hmb : ∀ i r, H12.row i = some r → i < mb := fun i r hr => by rw [emb]; exact o12.sc _ _ hr
    refine awp_loop (fun z t H' => ∃ a : Nat, z = n - a ∧ a ≤ n ∧ t 30 = .int .i64 a ∧ t 29 = .slice (some ⟨mb, 0, some 1⟩) n n ∧ t 5 = v1 ∧ t 9 = v3 ∧ t 3 = .pointer (some ⟨si, 0, none⟩) ∧ t 4 = x ∧ t 21 = v9 ∧ Ow H12 H' [.sl 1 4 (.slice (some ⟨mb, 0, some 1⟩) n n) n (bools (metL n (R.take a)))]) n ?_ ?_
    · refine ⟨0, by omega, by omega, ?_⟩
      try simp (disch := first | omega | (simp only [ints_length, List.length_replicate, List.length_set] <;> omega)) only [Sall,evalOp,init,binE,binI,unE,convE,okNil,builtE,gv,TD.isAgg,resV,↓reduceIte,Nat.reduceEqDiff,reduceCtorEq,Nat.reduceAdd,Nat.reduceMul,Nat.reduceLeDiff,quietOp,blindOp,Int.reduceEq,Int.reduceLT,Int.reduceLE,Nat.reduceLT,tiA,tiXA, Int.natCast_zero]
      exact o13
    · rintro z t H' ⟨a, hz, ha, h30, h29, h5, h9, h3, h4, h21, o⟩
      have hold : ∀ i r, H12.row i = some r → H'.row i = some r := o.old o12.sc
      try simp (disch := first | omega | (simp only [ints_length, List.length_replicate, List.length_set] <;> omega)) only [Sall,evalOp,init,binE,binI,unE,convE,okNil,builtE,gv,TD.isAgg,resV,↓reduceIte,Nat.reduceEqDiff,reduceCtorEq,Nat.reduceAdd,Nat.reduceMul,Nat.reduceLeDiff,quietOp,blindOp,Int.reduceEq,Int.reduceLT,Int.reduceLE,Nat.reduceLT,tiA,tiXA, h30, h5, builtE, lR]
      refine condC_dec (fun hh => ?_) (fun hh => ?_)
      · have han : a < n := by omega
        rw [ea] at h5
        rw [eb3] at h9
        have a1' := hold _ _ a1
        have b1' := hold _ _ b1
        have gm := (o.getV 0 rfl).2.2
        have r1 := F.perm.rng a han
        have ga := a3 a (by omega)
        have hct : (R.take a).contains (R.getD a 0) = false := by
          cases e : (R.take a).contains (R.getD a 0) with
          | false => rfl
          | true =>
            obtain ⟨i, hi, ei⟩ := List.getElem_of_mem (List.contains_iff_mem.1 e)
            rw [List.length_take] at hi
            rw [List.getElem_take] at ei
            have := F.perm.inj i a (by omega) han (by rw [← ei, List.getD_eq_getElem?_getD, List.getElem?_eq_getElem (by omega)]; rfl)
            omega
        have gb := metL_get? n (R.take a) (R.getD a 0) r1
        rw [hct] at gb
        have gs := metL_put n (R.take a) (R.getD a 0) r1
        have ets : R.take (a + 1) = R.take a ++ [R.getD a 0] := take_snoc R 0 a (by omega)
        have gp := b3 (R.getD a 0).toNat (by omega)
        have hnem : ¬ ai = mb := fun e => by have := hmb _ _ a1; omega
        obtain ⟨x1, ex1⟩ : ∃ x1, x1 = R.getD a 0 := ⟨_, rfl⟩
        rw [← ex1] at ga gb gs ets gp r1
        by_cases ha0 : a = 0
        · have e0 : decide ((0 : Int) < (a : Int)) = false := decide_eq_false (by omega)
          try simp (disch := first | omega | (simp only [ints_length, List.length_replicate, List.length_set] <;> omega)) only [Sall,evalOp,init,binE,binI,unE,convE,okNil,builtE,gv,TD.isAgg,resV,↓reduceIte,Nat.reduceEqDiff,reduceCtorEq,Nat.reduceAdd,Nat.reduceMul,Nat.reduceLeDiff,quietOp,blindOp,Int.reduceEq,Int.reduceLT,Int.reduceLE,Nat.reduceLT,tiA,tiXA, h30, h29, h5, h9, w64]
          refine draw_id (by kernel_rfl) (by kernel_rfl) ?_
          try simp (disch := first | omega | (simp only [ints_length, List.length_replicate, List.length_set] <;> omega)) only [Sall,evalOp,init,binE,binI,unE,convE,okNil,builtE,gv,TD.isAgg,resV,↓reduceIte,Nat.reduceEqDiff,reduceCtorEq,Nat.reduceAdd,Nat.reduceMul,Nat.reduceLeDiff,quietOp,blindOp,Int.reduceEq,Int.reduceLT,Int.reduceLE,Nat.reduceLT,tiA,tiXA, h30, h29, h5, h9, a1', ga, gm, gb, e0, w64]
          (repeat refine And.intro (by omega) ?_)
          try simp (disch := first | omega | (simp only [ints_length, List.length_replicate, List.length_set] <;> omega)) only [Sall,evalOp,init,binE,binI,unE,convE,okNil,builtE,gv,TD.isAgg,resV,↓reduceIte,Nat.reduceEqDiff,reduceCtorEq,Nat.reduceAdd,Nat.reduceMul,Nat.reduceLeDiff,quietOp,blindOp,Int.reduceEq,Int.reduceLT,Int.reduceLE,Nat.reduceLT,tiA,tiXA, h30, h29, h5, h9, a1', ga, gm, gb, gs, hnem, e0, w64]
          (repeat refine And.intro (by omega) ?_)
          exact ⟨by rw [bools_length, metL_length]; omega, n - (a + 1), by omega, a + 1, rfl, by omega, by omega, ea.symm, eb3.symm, h3, h4, h21, by rw [ets]; exact o.put 0 rfl (by rw [bools_length, bools_length, metL_length, metL_length])⟩
        · have e0 : decide ((0 : Int) < (a : Int)) = true := decide_eq_true (by omega)
          have r2 := F.perm.rng (a - 1) (by omega)
          have gq := a3 (a - 1) (by omega)
          have gr := b3 (R.getD (a - 1) 0).toNat (by omega)
          have fa := F.fall (a - 1) (by omega)
          rw [show a - 1 + 1 = a by omega, ← ex1] at fa
          have e1 : decide (P.getD (R.getD (a - 1) 0).toNat 0 < P.getD x1.toNat 0) = false := decide_eq_false (by omega)
          have ec : ((a : Int) - 1).toNat = a - 1 := by omega
          obtain ⟨x2, ex2⟩ : ∃ x2, x2 = R.getD (a - 1) 0 := ⟨_, rfl⟩
          rw [← ex2] at gq gr e1 r2
          try simp (disch := first | omega | (simp only [ints_length, List.length_replicate, List.length_set] <;> omega)) only [Sall,evalOp,init,binE,binI,unE,convE,okNil,builtE,gv,TD.isAgg,resV,↓reduceIte,Nat.reduceEqDiff,reduceCtorEq,Nat.reduceAdd,Nat.reduceMul,Nat.reduceLeDiff,quietOp,blindOp,Int.reduceEq,Int.reduceLT,Int.reduceLE,Nat.reduceLT,tiA,tiXA, h30, h29, h5, h9, w64]
          refine draw_id (by kernel_rfl) (by kernel_rfl) ?_
          try simp (disch := first | omega | (simp only [ints_length, List.length_replicate, List.length_set] <;> omega)) only [Sall,evalOp,init,binE,binI,unE,convE,okNil,builtE,gv,TD.isAgg,resV,↓reduceIte,Nat.reduceEqDiff,reduceCtorEq,Nat.reduceAdd,Nat.reduceMul,Nat.reduceLeDiff,quietOp,blindOp,Int.reduceEq,Int.reduceLT,Int.reduceLE,Nat.reduceLT,tiA,tiXA, h30, h29, h5, h9, a1', b1', ga, gm, gb, gp, gq, gr, ec, e0, e1, w64]
          (repeat refine And.intro (by omega) ?_)
          try simp (disch := first | omega | (simp only [ints_length, List.length_replicate, List.length_set] <;> omega)) only [Sall,evalOp,init,binE,binI,unE,convE,okNil,builtE,gv,TD.isAgg,resV,↓reduceIte,Nat.reduceEqDiff,reduceCtorEq,Nat.reduceAdd,Nat.reduceMul,Nat.reduceLeDiff,quietOp,blindOp,Int.reduceEq,Int.reduceLT,Int.reduceLE,Nat.reduceLT,tiA,tiXA, h30, h29, h5, h9, a1', b1', ga, gm, gb, gp, gq, gr, ec, gs, hnem, e0, e1, w64]
          exact ⟨by rw [bools_length, metL_length]; omega, n - (a + 1), by omega, a + 1, rfl, by omega, by omega, ea.symm, eb3.symm, h3, h4, h21, by rw [ets]; exact o.put 0 rfl (by rw [bools_length, bools_length, metL_length, metL_length])⟩
      · have rx := rd12'.2.same hold
        have lx := rx.len
        have rF' := rF.same hold
        have rP' := rP.same hold
        have gs := hold _ _ g12
        have lu := (rd12'.1.rd.same hold).len
        have hsl : ∀ j, ((ll.take j).map List.length).sum ≤ 14 * 41 := fun j => sumlen_le 14 (fun y hy => by
          obtain ⟨i, hi, e⟩ := List.getElem_of_mem hy
          have := (hl i hi).1
          rw [List.getD_eq_getElem?_getD, List.getElem?_eq_getElem hi] at this
          rw [← e]; exact this) hll j
        refine Holds.mp ?_
        try simp (disch := first | omega | (simp only [ints_length, List.length_replicate, List.length_set] <;> omega)) only [Sall,evalOp,init,binE,binI,unE,convE,okNil,builtE,gv,TD.isAgg,resV,↓reduceIte,Nat.reduceEqDiff,reduceCtorEq,Nat.reduceAdd,Nat.reduceMul,Nat.reduceLeDiff,quietOp,blindOp,Int.reduceEq,Int.reduceLT,Int.reduceLE,Nat.reduceLT,tiA,tiXA, true_and]
        refine awp_loop (fun z t H2 => H2 = H' ∧ ∃ j : Nat, z = ll.length - j ∧ j ≤ ll.length ∧ t 32 = .int .i64 j ∧ t 31 = .int .i64 (((ll.take j).map List.length).sum : Nat) ∧ t 5 = v1 ∧ t 9 = v3 ∧ t 3 = .pointer (some ⟨si, 0, none⟩) ∧ t 4 = x ∧ t 21 = v9) ll.length ?_ ?_
        · refine ⟨rfl, 0, by omega, by omega, ?_⟩
          try simp (disch := first | omega | (simp only [ints_length, List.length_replicate, List.length_set] <;> omega)) only [Sall,evalOp,init,binE,binI,unE,convE,okNil,builtE,gv,TD.isAgg,resV,↓reduceIte,Nat.reduceEqDiff,reduceCtorEq,Nat.reduceAdd,Nat.reduceMul,Nat.reduceLeDiff,quietOp,blindOp,Int.reduceEq,Int.reduceLT,Int.reduceLE,Nat.reduceLT,tiA,tiXA, Int.natCast_zero, List.take_zero, List.map_nil, List.sum_nil]
          exact ⟨h5, h9, h3, h4, h21⟩
        · rintro z t H2 ⟨rfl, j, hz, hj, h32, h31, h5, h9, h3, h4, h21⟩
          try simp (disch := first | omega | (simp only [ints_length, List.length_replicate, List.length_set] <;> omega)) only [Sall,evalOp,init,binE,binI,unE,convE,okNil,builtE,gv,TD.isAgg,resV,↓reduceIte,Nat.reduceEqDiff,reduceCtorEq,Nat.reduceAdd,Nat.reduceMul,Nat.reduceLeDiff,quietOp,blindOp,Int.reduceEq,Int.reduceLT,Int.reduceLE,Nat.reduceLT,tiA,tiXA, h32, h4, builtE, lx]
          refine condC_dec (fun hh => ?_) (fun hh => ?_)
          · obtain ⟨ci, co, cu, cc, cr, y, m, ex, c1, c2, c3, c4⟩ := rx.get (show j < ll.length by omega)
            have hm := c3.lenK1
            have ly := c3.len
            have es := sumlen_step ll j (by omega)
            have b1 := hsl (j + 1)
            rw [ex] at h4
            try simp (disch := first | omega | (simp only [ints_length, List.length_replicate, List.length_set] <;> omega)) only [Sall,evalOp,init,binE,binI,unE,convE,okNil,builtE,gv,TD.isAgg,resV,↓reduceIte,Nat.reduceEqDiff,reduceCtorEq,Nat.reduceAdd,Nat.reduceMul,Nat.reduceLeDiff,quietOp,blindOp,Int.reduceEq,Int.reduceLT,Int.reduceLE,Nat.reduceLT,tiA,tiXA, h32, h31, h4, c1, c2, c4, builtE, ly, w64]
            exact ⟨by omega, ll.length - (j + 1), by omega, j + 1, rfl, by omega, by omega, by omega, h5, h9, h3, ex.symm, h21⟩
          · have hje : j = ll.length := by omega
            rw [hje, List.take_length] at h31
            have hsl2 := hsl ll.length
            rw [List.take_length] at hsl2
            obtain ⟨S, eS⟩ : ∃ S, S = ((ll.map List.length).sum) := ⟨_, rfl⟩
            have fs := F.sum
            rw [← eS] at h31 hsl2 fs
            try simp (disch := first | omega | (simp only [ints_length, List.length_replicate, List.length_set] <;> omega)) only [Sall,evalOp,init,binE,binI,unE,convE,okNil,builtE,gv,TD.isAgg,resV,↓reduceIte,Nat.reduceEqDiff,reduceCtorEq,Nat.reduceAdd,Nat.reduceMul,Nat.reduceLeDiff,quietOp,blindOp,Int.reduceEq,Int.reduceLT,Int.reduceLE,Nat.reduceLT,tiA,tiXA, h9]
            refine (sum_c v3 n P _ (by omega) rP' F.prng).to ?_
            have e5 : (P.sum != 2 * (S : Int)) = false := by rw [fs]; exact bne_self_eq_false _
            have e6 : ((Fi.length : Int) == 0) = false := beq_eq_false_iff_ne.2 (by have := F.has; omega)
            refine Holds.mp ?_
            by_cases hkk : ll.length = k
            · have ek : ((ll.length : Int) == (k : Int)) = true := beq_iff_eq.2 (by omega)
              have ft := F.top hkk
              rw [ea] at h5
              rw [eb3] at h9 rP'
              have a1' := hold _ _ a1
              have b1' := hold _ _ b1
              have r0 := F.perm.rng 0 (by omega)
              have ga := a3 0 (by omega)
              have gp := b3 (R.getD 0 0).toNat (by omega)
              rw [Nat.add_zero] at ga
              try simp (disch := first | omega | (simp only [ints_length, List.length_replicate, List.length_set] <;> omega)) only [Sall,evalOp,init,binE,binI,unE,convE,okNil,builtE,gv,TD.isAgg,resV,↓reduceIte,Nat.reduceEqDiff,reduceCtorEq,Nat.reduceAdd,Nat.reduceMul,Nat.reduceLeDiff,quietOp,blindOp,Int.reduceEq,Int.reduceLT,Int.reduceLE,Nat.reduceLT,tiA,tiXA, h31, h21, e5, e6, builtE, lF, w64, h4, h3, lx, lu, gs, ek]
              refine awp_loop (fun z t H3 => H3 = H2 ∧ ∃ a : Nat, z = n - a ∧ a ≤ n ∧ t 33 = .int .i64 a ∧ t 5 = .slice (some ⟨ai, ao, au⟩) n ac ∧ t 9 = .slice (some ⟨bi, bo, bu⟩) n bc ∧ t 3 = .pointer (some ⟨si, 0, none⟩) ∧ t 21 = v9) n ?_ ?_
              · refine ⟨rfl, 0, by omega, by omega, ?_⟩
                try simp (disch := first | omega | (simp only [ints_length, List.length_replicate, List.length_set] <;> omega)) only [Sall,evalOp,init,binE,binI,unE,convE,okNil,builtE,gv,TD.isAgg,resV,↓reduceIte,Nat.reduceEqDiff,reduceCtorEq,Nat.reduceAdd,Nat.reduceMul,Nat.reduceLeDiff,quietOp,blindOp,Int.reduceEq,Int.reduceLT,Int.reduceLE,Nat.reduceLT,tiA,tiXA, Int.natCast_zero]
                exact ⟨h5, h9, h3, h21⟩
              · rintro z t H3 ⟨rfl, a, hz, ha, h33, h5, h9, h3, h21⟩
                by_cases han : a < n
                · have e7 : decide ((a : Int) < q) = true := decide_eq_true (by omega)
                  have gq := b3 a (by omega)
                  have fa := ft a han
                  have e8 : (decide ((a : Int) ∈ Fi) != (P.getD a 0 == P.getD (R.getD 0 0).toNat 0)) = false := by
                    by_cases c : (a : Int) ∈ Fi
                    · have := fa.1 c
                      rw [decide_eq_true c, this]; simp
                    · rw [decide_eq_false c, beq_eq_false_iff_ne.2 (fun e => c (fa.2 e))]; rfl
                  try simp (disch := first | omega | (simp only [ints_length, List.length_replicate, List.length_set] <;> omega)) only [Sall,evalOp,init,binE,binI,unE,convE,okNil,builtE,gv,TD.isAgg,resV,↓reduceIte,Nat.reduceEqDiff,reduceCtorEq,Nat.reduceAdd,Nat.reduceMul,Nat.reduceLeDiff,quietOp,blindOp,Int.reduceEq,Int.reduceLT,Int.reduceLE,Nat.reduceLT,tiA,tiXA, h33, h3, gs, e7]
                  refine draw_in [0, 1, 3, 4, 5, 6, 7, 8, 9, 10, 11, 12, 13, 2, 14] (by kernel_rfl) (by kernel_rfl) rfl ?_
                  try simp (disch := first | omega | (simp only [ints_length, List.length_replicate, List.length_set] <;> omega)) only [Sall,evalOp,init,binE,binI,unE,convE,okNil,builtE,gv,TD.isAgg,resV,↓reduceIte,Nat.reduceEqDiff,reduceCtorEq,Nat.reduceAdd,Nat.reduceMul,Nat.reduceLeDiff,quietOp,blindOp,Int.reduceEq,Int.reduceLT,Int.reduceLE,Nat.reduceLT,tiA,tiXA, awpI_nil, awpI_cons, stepI_op, loadOk, h33, h21, h9, h5]
                  refine ⟨by omega, ?_⟩
                  try simp (disch := first | omega | (simp only [ints_length, List.length_replicate, List.length_set] <;> omega)) only [Sall,evalOp,init,binE,binI,unE,convE,okNil,builtE,gv,TD.isAgg,resV,↓reduceIte,Nat.reduceEqDiff,reduceCtorEq,Nat.reduceAdd,Nat.reduceMul,Nat.reduceLeDiff,quietOp,blindOp,Int.reduceEq,Int.reduceLT,Int.reduceLE,Nat.reduceLT,tiA,tiXA, awpI_nil, awpI_cons, stepI_op, loadOk, h33, h21, h9, h5, a1', b1', ga, gp, gq, Int.toNat_zero, Nat.add_zero]
                  (repeat refine And.intro (by omega) ?_)
                  try simp (disch := first | omega | (simp only [ints_length, List.length_replicate, List.length_set] <;> omega)) only [Sall,evalOp,init,binE,binI,unE,convE,okNil,builtE,gv,TD.isAgg,resV,↓reduceIte,Nat.reduceEqDiff,reduceCtorEq,Nat.reduceAdd,Nat.reduceMul,Nat.reduceLeDiff,quietOp,blindOp,Int.reduceEq,Int.reduceLT,Int.reduceLE,Nat.reduceLT,tiA,tiXA, awpI_nil, awpI_cons, stepI_op, loadOk, h33, h21, h9, h5, a1', b1', ga, gp, gq, Int.toNat_zero, Nat.add_zero]
                  (repeat refine And.intro (by omega) ?_)
                  refine (hasInt_c v9 (a : Int) _ Fi _ (by have := firstsR_length q k l ll; rw [← eF] at this; omega) rF').to ?_
                  refine Holds.mp ?_
                  try simp (disch := first | omega | (simp only [ints_length, List.length_replicate, List.length_set] <;> omega)) only [Sall,evalOp,init,binE,binI,unE,convE,okNil,builtE,gv,TD.isAgg,resV,↓reduceIte,Nat.reduceEqDiff,reduceCtorEq,Nat.reduceAdd,Nat.reduceMul,Nat.reduceLeDiff,quietOp,blindOp,Int.reduceEq,Int.reduceLT,Int.reduceLE,Nat.reduceLT,tiA,tiXA, awpI_nil, awpI_cons, stepI_op, loadOk, w64]
                  refine ⟨.inr (.inr (LE.refl _)), ?_⟩
                  have e9 : (!decide ((a : Int) ∈ Fi) == (P.getD a 0 == P.getD (R.getD 0 0).toNat 0)) = false := e8
                  rw [e9]
                  try simp (disch := first | omega | (simp only [ints_length, List.length_replicate, List.length_set] <;> omega)) only [Sall,evalOp,init,binE,binI,unE,convE,okNil,builtE,gv,TD.isAgg,resV,↓reduceIte,Nat.reduceEqDiff,reduceCtorEq,Nat.reduceAdd,Nat.reduceMul,Nat.reduceLeDiff,quietOp,blindOp,Int.reduceEq,Int.reduceLT,Int.reduceLE,Nat.reduceLT,tiA,tiXA, h33, h5, h9, h3, h21, w64]
                  exact ⟨n - (a + 1), by omega, a + 1, by omega, by omega, by omega⟩
                · have e7 : decide ((a : Int) < q) = false := decide_eq_false (by omega)
                  try simp (disch := first | omega | (simp only [ints_length, List.length_replicate, List.length_set] <;> omega)) only [Sall,evalOp,init,binE,binI,unE,convE,okNil,builtE,gv,TD.isAgg,resV,↓reduceIte,Nat.reduceEqDiff,reduceCtorEq,Nat.reduceAdd,Nat.reduceMul,Nat.reduceLeDiff,quietOp,blindOp,Int.reduceEq,Int.reduceLT,Int.reduceLE,Nat.reduceLT,tiA,tiXA, h33, h3, gs, e7]
            · have ek : ((ll.length : Int) == (k : Int)) = false := beq_eq_false_iff_ne.2 (by omega)
              try simp (disch := first | omega | (simp only [ints_length, List.length_replicate, List.length_set] <;> omega)) only [Sall,evalOp,init,binE,binI,unE,convE,okNil,builtE,gv,TD.isAgg,resV,↓reduceIte,Nat.reduceEqDiff,reduceCtorEq,Nat.reduceAdd,Nat.reduceMul,Nat.reduceLeDiff,quietOp,blindOp,Int.reduceEq,Int.reduceLT,Int.reduceLE,Nat.reduceLT,tiA,tiXA, h31, h21, e5, e6, builtE, lF, w64, h4, h3, lx, lu, gs, ek]
  · have hC : (codeS q k l (resB q.toNat k l ll) != 0) = true := by
      unfold codeS
      by_cases h1 : schedB q k l = true
      · rw [if_pos h1, if_neg (fun h => hgood ⟨h1, h⟩)]; rfl
      · rw [if_neg h1]; rfl
    have hR0 : rankR q k l ll = [] := by unfold rankR; rw [if_neg hgood]
    have hR1 : (((rankR q k l ll).length : Nat) : Int) = 0 := by rw [hR0]; rfl
    have c0 : ((0 : Int) == 0) = true := rfl
    try simp (disch := first | omega | (simp only [ints_length, List.length_replicate, List.length_set] <;> omega)) only [Sall,evalOp,init,binE,binI,unE,convE,okNil,builtE,gv,TD.isAgg,resV,↓reduceIte,Nat.reduceEqDiff,reduceCtorEq,Nat.reduceAdd,Nat.reduceMul,Nat.reduceLeDiff,quietOp,blindOp,Int.reduceEq,Int.reduceLT,Int.reduceLE,Nat.reduceLT,tiA,tiXA, bne_self_eq_false, beq_self_eq_true, eb, eb2, hC, builtE, hln1, hR1, c0]
theorem law_Results_c (cv : Value) (nb : Nat) (H : AH) (hc : CodeOk H cv nb) : ACalls Try.prog 10 [cv] H (fun v _ => v = .bool true ∧ True) := law_Results_w resF cv nb H hc
end Go.Proofs.Ytgkmdfjjlghecaa.A
end

section
set_option linter.unusedVariables false
set_option maxRecDepth 100000
namespace Go.Proofs.Ytgkmdfjjlghecaa.A
open Go Go.Abs Go.RowKit
section
variable {K : Type} {enc : TypeId × Value → K} {W : World} {base b0 : Nat} {spare : Nat → Bool} {held : Bool}

end
end Go.Proofs.Ytgkmdfjjlghecaa.A
end

section
set_option linter.unusedVariables false
set_option maxRecDepth 100000
namespace Go.Proofs.Ytgkmdfjjlghecaa.A
open Go Go.Abs Go.RowKit
section
variable {K : Type} {enc : TypeId × Value → K} {W : World} {b0 : Nat} {spare : Nat → Bool} {held : Bool} {v : Value} {d : DataW K} {p : List MemPlace}

theorem cell_of_val {t e : TypeId} (hu : Try.prog.underlying t = some (.slice e)) (hok : Value.okWide Try.prog W .any b0 t v) : Cell.okWide Try.prog W .any 0 t v := by
  unfold Value.okWide at hok
  rw [hu] at hok
  exact hok

theorem cells_slice1 {t e : TypeId} (hu : Try.prog.underlying t = some (.slice e)) (hok : Cell.okWide Try.prog W .any 0 t v) : v.cells.toList = [v] := by
  rcases ok_slice_cell hu hok with rfl | ⟨b, o, n, c, rfl, _⟩ <;> rfl

end
end Go.Proofs.Ytgkmdfjjlghecaa.A
end

section
set_option linter.unusedVariables false
set_option maxRecDepth 100000
namespace Go.Proofs.Ytgkmdfjjlghecaa.A
open Go Go.Abs Go.RowKit
theorem uByte : Try.prog.underlying 5 = some (.int .u8) := by kernel_rfl
theorem uBytes : Try.prog.underlying 62 = some (.slice 5) := by kernel_rfl
theorem cByte : Try.prog.cellsOf 5 = 1 := by kernel_rfl
section
variable {K : Type} {enc : TypeId × Value → K} {W : World} {b0 : Nat} {spare : Nat → Bool} {held : Bool} {v : Value} {d : DataW K} {p : List MemPlace}
theorem open_B (h : DataW.Trod enc Try.prog W 0 spare held 62 v d p) (hok : Value.okWide Try.prog W .any b0 62 v) :
    ∃ nb, CodeOk (given W) v nb ∧ V1 id W.heap.size W v v ∧ nb ≤ 9223372036854775807 := by
  have h0 := cell_of_val uBytes hok
  obtain ⟨fuel, h⟩ := h
  rw [cells_slice1 uBytes h0] at h
  rcases ok_slice_cell uBytes h0 with rfl | ⟨b, o, n, c, rfl, hb, hn⟩
  · exact ⟨0, .inl ⟨rfl, _, _, rfl⟩, .scal _ rfl, by omega⟩
  · refine ⟨n, ?_, V1.sle (ρ := id) b o n c hb, hn⟩
    rcases DataW.trod_slice uBytes h with ⟨h0, _⟩ | ⟨a, len, cap, elems, rest, m, _, hcs, _, _, _, _, hlen, hel, _, _⟩
    · simp at h0
    · simp only [List.cons.injEq, Value.slice.injEq, Option.some.injEq, and_true] at hcs
      obtain ⟨rfl, rfl, rfl⟩ := hcs
      have each : ∀ j, j < n → ∃ z, W.cell? ⟨b, o + j, none⟩ = some (.int .u8 z) ∧ 0 ≤ z ∧ z ≤ 255 := by
        intro j hj
        have h1 := hel j hj
        rw [List.getElem?_eq_getElem (by omega), cByte, Option.bind_eq_some_iff] at h1
        obtain ⟨cs', hc1, hc2⟩ := h1
        obtain ⟨_, hl, hc⟩ := World.cells?_some hc1
        have h2 := hc 0 (by omega)
        obtain ⟨z, hz, _, hw⟩ := DataW.trod_int uByte hc2
        refine ⟨z, ?_, ?_⟩
        · rw [hz] at h2
          rw [Addr.add_lit, Addr.add_lit] at h2
          simpa using h2
        · unfold Lit.wf at hw
          simp only [Bool.and_eq_true, decide_eq_true_eq] at hw
          exact hw
      rcases Nat.eq_zero_or_pos n with h0 | h0
      · exact .inl ⟨h0, _, _, by rw [h0]⟩
      · refine .inr ⟨b, o, none, c, ⟨0, false, absRow W b⟩, rfl, ?_, fun j hj => ?_⟩
        · obtain ⟨z, hz, _⟩ := each 0 h0
          exact (given_cell hz).2.1
        · obtain ⟨z, hz, z1, z2⟩ := each j hj
          exact ⟨z, (given_cell hz).2.2, z1, z2⟩
end
end Go.Proofs.Ytgkmdfjjlghecaa.A
end
