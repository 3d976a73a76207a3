/- Contracts: who can be first, the program's side. And what follows. -/
import Derived.Test.YtpienljnoaendaaGreatM5
set_option linter.unusedSimpArgs false
set_option linter.unusedVariables false
section
set_option maxRecDepth 100000
set_option maxHeartbeats 2000000
namespace Go.Proofs.YtpienljnoaendaaGreat.A
open Go Go.Abs Go.RowKit
def WI (n G a : Nat) (ow : List (List Int)) (rm : List Int) : Prop :=
  (∀ mt : List Bool, mt.length = n → HOk n G ⟨ow, rm, mt⟩) ∧ (∀ g, g < G → (ow.getD g []).length = a - 2 * g - (a - 2 * g - 2)) ∧ ∀ c, rm.getD c 0 ≤ 4294967296
theorem unm_none (n : Nat) : unm (List.replicate n false) < n + 1 := by
  unfold unm; rw [List.count_replicate]; simp
theorem WI.few {n G a : Nat} {ow : List (List Int)} {rm : List Int} (h : WI n G a ow rm) (g : Nat) : (ow.getD g []).length ≤ 2 := by
  by_cases hg : g < G
  · rw [h.2.1 g hg]; omega
  · have := (h.1 (List.replicate n false) (by simp)).ol
    dsimp only at this
    rw [zcU (by omega)]; simp
theorem WI.step {n G a : Nat} {tm : Nat → Nat → Nat} {ow : List (List Int)} {rm : List Int} (htm : ∀ j k, tm j k < n) (h : WI n G a ow rm) (ha : a < 2 * G) (hr : (hiveF tm G (n + 1) ⟨ow, rm, List.replicate n false⟩ (a / 2)).1 = true) :
    WI n G (a + 1) (hiveF tm G (n + 1) ⟨ow, rm, List.replicate n false⟩ (a / 2)).2.ow (hiveF tm G (n + 1) ⟨ow, rm, List.replicate n false⟩ (a / 2)).2.rm := by
  have hok := h.1 (List.replicate n false) (by simp)
  have hR := zeG htm (n + 1) ⟨ow, rm, List.replicate n false⟩ (a / 2) hok (by omega) (unm_none n)
  revert hR hr
  generalize hiveF tm G (n + 1) ⟨ow, rm, List.replicate n false⟩ (a / 2) = R
  intro hr hR
  obtain ⟨y1, y2, y3⟩ := hR.yes hr
  refine ⟨fun mt hmt => ⟨hR.ok.ol, hR.ok.rl, hmt, hR.ok.er, hR.ok.rr⟩, fun g hg => ?_, fun c => ?_⟩
  · have h1 : (R.2.ow.getD g []).length = (ow.getD g []).length + if g = a / 2 then 1 else 0 := y1 g
    rw [h1, h.2.1 g hg]
    split <;> omega
  · have h1 : R.2.rm.getD c 0 ≤ rm.getD c 0 := hR.dec c
    have := h.2.2 c
    omega
theorem zeW (n : Nat) (v : Value) (k : Nat) (l : List Int) (x : Value) (ll : List (List Int)) (a : Int) (H : AH) (hb : schedB n k l = true) (hres : resB n k l ll = true) (hl : ll.length ≤ 4294967296) (hv : Rs 14 H v k l) (hx : Rd2 1 H x ll) (ha : 0 ≤ a ∧ a < n) :
    ACalls Tryz.prog 184 [.agg #[.int .i64 n, v], x, .int .i64 a] H (is (.bool (firstB n k l ll a)) H) := by
  refine zaZ rfl (ACalls.wf (by kernel_rfl) fun hs => za3 [.tmp 6] Tryz.func184 (by kernel_rfl) rfl rfl (Nat.le_of_ble_eq_true rfl) (by kernel_rfl) ?_)
  obtain ⟨hn, hk40, hrounds⟩ := zaC hb
  obtain ⟨hlk, hrs⟩ := zcY hres
  have hone := hv.rd.one
  have up : Up H.next H (H.push ⟨26, true, [.int .i64 n, v]⟩) := (Up.refl _ H).push (Nat.le_refl _) _
  have e1 : (H.push ⟨26, true, [.int .i64 n, v]⟩).row H.next = some ⟨26, true, [.int .i64 n, v]⟩ := by rw [AH.push_row, if_pos rfl]
  have n1 : (H.push ⟨26, true, [.int .i64 n, v]⟩).next = H.next + 1 := rfl
  have sc1 : Sc (H.push ⟨26, true, [.int .i64 n, v]⟩) := Sc.push hs _
  try simp (disch := first | omega | (simp only [L3] <;> omega)) only [Sall,evalOp,init,binA_s,binE,binI,unE,convE,okNil,builtE,gv,TD.isAgg,resV,↓reduceIte,Nat.reduceEqDiff,reduceCtorEq,Nat.reduceAdd,Nat.reduceMul,Nat.reduceLeDiff,za0,za1,Int.reduceEq,Int.reduceLT,Int.reduceLE,Nat.reduceLT,tiA, hone]
  revert up e1 n1 sc1
  generalize H.push ⟨26, true, [.int .i64 n, v]⟩ = H1
  intro up e1 n1 sc1
  have hv1 := hv.rd.same (up.le hs).row
  have hx1 := hx.same (up.le hs).row
  try simp (disch := first | omega | (simp only [L3] <;> omega)) only [Sall,evalOp,init,binA_s,binE,binI,unE,convE,okNil,builtE,gv,TD.isAgg,resV,↓reduceIte,Nat.reduceEqDiff,reduceCtorEq,Nat.reduceAdd,Nat.reduceMul,Nat.reduceLeDiff,za0,za1,Int.reduceEq,Int.reduceLT,Int.reduceLE,Nat.reduceLT,tiA, e1]
  refine (zf6 n v k l x ll H1 hb hres hl hv1 hx1).sc.mono ?_
  rintro pu H2 ⟨⟨up2, hf⟩, sc2⟩
  have n2 := up2.next
  refine Holds.mp ?_
  obtain ⟨pi, pi0, pi1, rfl, pir⟩ := hf.get (by omega)
  have b2 : H2.row H.next = some ⟨26, true, [.int .i64 n, v]⟩ := by rw [up2.row _ (by omega), e1]
  have neA : ¬ H.next = H2.next + 1 := by omega
  have neB : ¬ H.next = H2.next := by omega
  obtain ⟨w, hw1, hw3⟩ := hv.cut (lo := some (ll.length : Int)) (hi := none) (a := ll.length) (b := k) rfl rfl hlk (Nat.le_refl _)
  have hw2 := hw3.rd.len
  have hw4 := hw3.rd.one
  have hv := hv.rd
  have hxl := hx1.len
  try simp (disch := first | omega | (simp only [L3] <;> omega)) only [Sall,evalOp,init,binA_s,binE,binI,unE,convE,okNil,builtE,gv,TD.isAgg,resV,↓reduceIte,Nat.reduceEqDiff,reduceCtorEq,Nat.reduceAdd,Nat.reduceMul,Nat.reduceLeDiff,za0,za1,Int.reduceEq,Int.reduceLT,Int.reduceLE,Nat.reduceLT,tiA, zaN, neA, neB, b2, builtE, hxl]
  obtain ⟨H3, e3⟩ : ∃ H3, H3 = ((H2.push ⟨33, true, []⟩).push ⟨30, true, [.slice none 0 0]⟩).setCells (H2.next + 1) [.slice (some ⟨H2.next, 0, some 1⟩) 0 0] := ⟨_, rfl⟩
  have n3 : H3.next = H2.next + 2 := by rw [e3]; rfl
  have r3 : ∀ j, j < H2.next → H3.row j = H2.row j := fun j hj => by rw [e3, AH.setCells_row, if_neg (by omega), AH.push_row, if_neg (by rw [AH.push_next]; omega), AH.push_row, if_neg (by omega)]
  have sc3 : Sc H3 := by rw [e3]; exact ((sc2.push _).push _).set _ _
  have c3 : H3.row (H2.next + 1) = some ⟨30, true, [.slice (some ⟨H2.next, 0, some 1⟩) 0 0]⟩ := by rw [e3, AH.setCells_row, if_pos rfl, AH.push_row, if_pos (by rw [AH.push_next])]; rfl
  have g3 : Gms (pi + 1) H2.next H3 (gmN n l a (sumsF n (fun _ o => o) (meets n l ll ll.length), []) ll.length 0).2 [] := ⟨by rw [e3, AH.setCells_row, if_neg (by omega), AH.push_row, if_neg (by rw [AH.push_next]; omega), AH.push_row, if_pos rfl], by omega, rfl, fun j hj => absurd hj (Nat.not_lt_zero _)⟩
  have up3 : Up H.next H H3 := ⟨by have := up.next; omega, fun j hj => by rw [r3 j (by omega), up2.row j (by omega), up.row j hj]⟩
  rw [← e3]
  clear e3
  have p3 : H3.row pi = some ⟨2, true, ints (gmN n l a (sumsF n (fun _ o => o) (meets n l ll ll.length), []) ll.length 0).1⟩ := by rw [r3 _ (by omega), pir]; rfl
  have b3 : H3.row H.next = some ⟨26, true, [.int .i64 n, v]⟩ := by rw [r3 _ (by omega), b2]
  have hgm := gmL_ok (a := a) hb hlk
  have gm0 := gm0_ok (n := n) (by omega) (l := l) (ll := ll) (by omega)
  rw [firstB_other hb hlk]
  unfold gmL at hgm ⊢
  have hz : (gmN n l a (sumsF n (fun _ o => o) (meets n l ll ll.length), []) ll.length 0).2.length = 0 := rfl
  revert p3; revert gm0; revert g3; revert hz
  generalize (sumsF n (fun _ o => o) (meets n l ll ll.length), ([] : List (List Int))) = st0 at hgm ⊢
  intro hz g3 gm0 p3
  have hgo : ∀ c, ll.length + c ≤ k → GmOk n (2240 + 28 * c) (gmN n l a st0 ll.length c) := fun c hc => gmN_ok (by omega) gm0 c (fun i hi => hrounds i (by omega)) (by omega)
  refine hw1 _ _ _ _ rfl ?_
  try simp (disch := first | omega | (simp only [L3] <;> omega)) only [Sall,evalOp,init,binA_s,binE,binI,unE,convE,okNil,builtE,gv,TD.isAgg,resV,↓reduceIte,Nat.reduceEqDiff,reduceCtorEq,Nat.reduceAdd,Nat.reduceMul,Nat.reduceLeDiff,za0,za1,Int.reduceEq,Int.reduceLT,Int.reduceLE,Nat.reduceLT,tiA, builtE, hw2]
  refine za7 (fun m t H' => ∃ (c gi : Nat) (vs : List Value), m = (k - ll.length) - c ∧ c ≤ k - ll.length ∧ t 29 = .int .i64 c ∧ t 28 = .int .i64 (k - ll.length : Nat) ∧ t 27 = w ∧ t 7 = .slice (some ⟨pi, 0, some 1⟩) n n ∧ t 8 = .pointer (some ⟨H2.next + 1, 0, none⟩) ∧ t 2 = .int .i64 a ∧ t 3 = .pointer (some ⟨H.next, 0, none⟩) ∧ Up H.next H H' ∧ H'.row H.next = some ⟨26, true, [.int .i64 n, v]⟩ ∧
      H'.row (H2.next + 1) = some ⟨30, true, [.slice (some ⟨gi, 0, some 1⟩) (gmN n l a st0 ll.length c).2.length (gmN n l a st0 ll.length c).2.length]⟩ ∧ H'.row pi = some ⟨2, true, ints (gmN n l a st0 ll.length c).1⟩ ∧ Gms (pi + 1) gi H' (gmN n l a st0 ll.length c).2 vs ∧ Sc H' ∧ gi ≠ H2.next + 1) (k - ll.length) ?_ ?_
  · refine ⟨0, H2.next, [], by omega, by omega, ?_⟩
    try simp (disch := first | omega | (simp only [L3] <;> omega)) only [Sall,evalOp,init,binA_s,binE,binI,unE,convE,okNil,builtE,gv,TD.isAgg,resV,↓reduceIte,Nat.reduceEqDiff,reduceCtorEq,Nat.reduceAdd,Nat.reduceMul,Nat.reduceLeDiff,za0,za1,Int.reduceEq,Int.reduceLT,Int.reduceLE,Nat.reduceLT,tiA, Int.natCast_zero]
    rw [hz]
    exact ⟨up3, b3, c3, p3, g3, sc3⟩
  · rintro m t H' ⟨c, gi, vs, hm, hck, h29, h28, h27, h7, h8, h2, h3, hup, hr1, hc1, hr2, hG, hsc, hgne⟩
    try simp (disch := first | omega | (simp only [L3] <;> omega)) only [Sall,evalOp,init,binA_s,binE,binI,unE,convE,okNil,builtE,gv,TD.isAgg,resV,↓reduceIte,Nat.reduceEqDiff,reduceCtorEq,Nat.reduceAdd,Nat.reduceMul,Nat.reduceLeDiff,za0,za1,Int.reduceEq,Int.reduceLT,Int.reduceLE,Nat.reduceLT,tiA, h29, h28]
    refine za6 (fun h => ?_) (fun h => ?_)
    · obtain ⟨i', o', u', c', r', hwi, hrB, hc', hs', hg'⟩ := hw3.rd.get (by omega)
      have hr' : H'.row i' = some r' := by rw [hup.row _ (hs _ _ hrB), hrB]
      have hrl : (rnd l (ll.length + c)).length = 14 := zbA l (ll.length + c) k hv.1 (by omega)
      have hll := hv.1
      have hseg : seg r'.cells (o' + c * 14) 14 = ints (rnd l (ll.length + c)) := by
        rw [hg' (c * 14) 14 (by omega)]
        unfold rnd
        rw [List.drop_take, List.take_take, List.drop_drop, ← Nat.add_mul, Nat.min_eq_left (by omega)]
      have hHn := hsc _ _ hr1
      have hpn := hsc _ _ hr2
      have hcn := hsc _ _ hc1
      have hlh := hup.next
      have neC : ¬ H.next = H'.next := by omega
      try simp (disch := first | omega | (simp only [L3] <;> omega)) only [Sall,evalOp,init,binA_s,binE,binI,unE,convE,okNil,builtE,gv,TD.isAgg,resV,↓reduceIte,Nat.reduceEqDiff,reduceCtorEq,Nat.reduceAdd,Nat.reduceMul,Nat.reduceLeDiff,za0,za1,Int.reduceEq,Int.reduceLT,Int.reduceLE,Nat.reduceLT,tiA, h29, h27, hwi, hr', hseg, h3, hr1, neC, hrl]
      (repeat refine And.intro (by omega) ?_)
      obtain ⟨H0, e0⟩ : ∃ H0, H0 = (H'.push ⟨69, true, ints (List.replicate 14 0)⟩).setCells H'.next (ints (rnd l (ll.length + c))) := ⟨_, rfl⟩
      have n0 : H0.next = H'.next + 1 := by rw [e0]; rfl
      have r0 : ∀ j, j < H'.next → H0.row j = H'.row j := fun j hj => by rw [e0, AH.setCells_row, if_neg (by omega), AH.push_row, if_neg (by omega)]
      have sc0 : Sc H0 := by rw [e0]; exact (hsc.push _).set _ _
      rw [← e0]
      clear e0
      refine (pairs_c n (rnd l (ll.length + c)) hrl (by omega) H0).sc.mono ?_
      rintro p H4 ⟨⟨up4, hp⟩, sc4⟩
      have hpl := hp.rd.len
      have n4 := up4.next
      have k4 : ∀ j, j < H'.next → H4.row j = H'.row j := fun j hj => by rw [up4.row j (by omega), r0 j hj]
      have hr3 : H4.row H.next = some ⟨26, true, [.int .i64 n, v]⟩ := by rw [k4 _ (by omega), hr1]
      have hr4 : H4.row pi = some ⟨2, true, ints (gmN n l a st0 ll.length c).1⟩ := by rw [k4 _ hpn, hr2]
      have hc4 : H4.row (H2.next + 1) = some ⟨30, true, [.slice (some ⟨gi, 0, some 1⟩) (gmN n l a st0 ll.length c).2.length (gmN n l a st0 ll.length c).2.length]⟩ := by rw [k4 _ hcn, hc1]
      have hG4 := hG.keep (H' := H4) fun j r _ hr => by rw [k4 _ (hsc _ _ hr), hr]
      have hgiH := hsc _ _ hG.row
      have hplen := zbE (rnd l (ll.length + c)) n
      have hround := hrounds (ll.length + c) (by omega)
      have hgc := hgo c (by omega)
      have hgs : gmN n l a st0 ll.length (c + 1) = gmB n l a (gmN n l a st0 ll.length c) (ll.length + c) (pairsL (rnd l (ll.length + c)) n).length := rfl
      have hbo : ∀ b, b ≤ (pairsL (rnd l (ll.length + c)) n).length → GmOk n (2240 + 28 * c + 2 * b) (gmB n l a (gmN n l a st0 ll.length c) (ll.length + c) b) := fun b hb2 => gmB_ok hgc hround b hb2 (by omega)
      have hb0 := gmB_zero n l a (gmN n l a st0 ll.length c) (ll.length + c)
      rw [← hb0] at hr4 hG4 hc4
      have hsuc := fun b hb2 => zhB n l a (gmN n l a st0 ll.length c) (ll.length + c) b hb2
      clear hgc hb0 hG hr2 hc1
      revert hr4 hc4 hG4 hgs hbo hsuc
      generalize gmB n l a (gmN n l a st0 ll.length c) (ll.length + c) = gb
      intro hr4 hc4 hG4 hgs hbo hsuc
      refine Holds.mp ?_
      try simp (disch := first | omega | (simp only [L3] <;> omega)) only [Sall,evalOp,init,binA_s,binE,binI,unE,convE,okNil,builtE,gv,TD.isAgg,resV,↓reduceIte,Nat.reduceEqDiff,reduceCtorEq,Nat.reduceAdd,Nat.reduceMul,Nat.reduceLeDiff,za0,za1,Int.reduceEq,Int.reduceLT,Int.reduceLE,Nat.reduceLT,tiA, h29, h28, h27, h7, h8, h2, h3, builtE, hpl]
      refine za7 (fun z t H5 => ∃ (b gi : Nat) (vs : List Value), z = (pairsL (rnd l (ll.length + c)) n).length - b ∧ b ≤ (pairsL (rnd l (ll.length + c)) n).length ∧ t 38 = .int .i64 b ∧ t 37 = .int .i64 (pairsL (rnd l (ll.length + c)) n).length ∧ t 36 = p ∧ t 29 = .int .i64 c ∧ t 28 = .int .i64 (k - ll.length : Nat) ∧ t 27 = w ∧ t 7 = .slice (some ⟨pi, 0, some 1⟩) n n ∧ t 8 = .pointer (some ⟨H2.next + 1, 0, none⟩) ∧ t 2 = .int .i64 a ∧ t 3 = .pointer (some ⟨H.next, 0, none⟩) ∧ Up H.next H H5 ∧ H4.next ≤ H5.next ∧ H5.row H.next = some ⟨26, true, [.int .i64 n, v]⟩ ∧
          H5.row (H2.next + 1) = some ⟨30, true, [.slice (some ⟨gi, 0, some 1⟩) (gb b).2.length (gb b).2.length]⟩ ∧ Fr2 1 33 2 H0.next H4.next H5 p (pairsL (rnd l (ll.length + c)) n) ∧ H5.row pi = some ⟨2, true, ints (gb b).1⟩ ∧ Gms (pi + 1) gi H5 (gb b).2 vs ∧ Sc H5 ∧ (gi < H0.next ∨ H4.next ≤ gi) ∧ gi ≠ H2.next + 1) (pairsL (rnd l (ll.length + c)) n).length ?_ ?_
      · refine ⟨0, gi, vs, by omega, by omega, ?_⟩
        try simp (disch := first | omega | (simp only [L3] <;> omega)) only [Sall,evalOp,init,binA_s,binE,binI,unE,convE,okNil,builtE,gv,TD.isAgg,resV,↓reduceIte,Nat.reduceEqDiff,reduceCtorEq,Nat.reduceAdd,Nat.reduceMul,Nat.reduceLeDiff,za0,za1,Int.reduceEq,Int.reduceLT,Int.reduceLE,Nat.reduceLT,tiA, Int.natCast_zero, h29, h28, h27, h7, h8, h2, h3]
        exact ⟨⟨by omega, fun j hj => by rw [k4 j (by omega), hup.row j hj]⟩, hr3, hc4, hp, hr4, hG4, sc4, .inl (by omega), hgne⟩
      · rintro z t H5 ⟨b, gi', vs', hzz, hbp, h38, h37, h36, h29, h28, h27, h7, h8, h2, h3, hup5, hn5, hr5, hc5, hp5, hpi5, hG5, sc5, hgi5, hgn5⟩
        try simp (disch := first | omega | (simp only [L3] <;> omega)) only [Sall,evalOp,init,binA_s,binE,binI,unE,convE,okNil,builtE,gv,TD.isAgg,resV,↓reduceIte,Nat.reduceEqDiff,reduceCtorEq,Nat.reduceAdd,Nat.reduceMul,Nat.reduceLeDiff,za0,za1,Int.reduceEq,Int.reduceLT,Int.reduceLE,Nat.reduceLT,tiA, h38, h37]
        refine za6 (fun hh => ?_) (fun hh => ?_)
        · obtain ⟨qi, pvs, px, pm, pb, pc, rfl, q1, q2, q3, q4, q5, q6, q7, q8⟩ := hp5.getF (j := b) (by omega)
          have hpm := q8.lenK1
          obtain ⟨aa, ha1, ha2, ha3⟩ := zbD (rnd l (ll.length + c)) n b (by omega)
          obtain ⟨_, ha4, ha5, _⟩ := zb3 hround (a := aa) (by omega)
          have hs1' := hsuc b (by omega)
          rw [ha3] at q8 hpm hs1'
          simp only [List.length_cons, List.length_nil] at hpm
          obtain rfl : pm = 2 := hpm
          obtain ⟨i6, w1, w2, rfl, w3⟩ := q8.get (by omega)
          obtain ⟨bb, hbb⟩ : ∃ bb, bb = (rnd l (ll.length + c)).getD aa 0 := ⟨_, rfl⟩
          rw [← hbb] at w3 hs1' ha4 ha5
          have i0 : (ints [(aa : Int), bb])[Int.toNat 0]? = some (.int .i64 aa) := rfl
          have i1 : (ints [(aa : Int), bb])[Int.toNat 1]? = some (.int .i64 bb) := rfl
          have hbo5 := hbo b (by omega)
          have hbl := hbo5.len
          have hgl5 := hG5.len
          have sg : gstep a (gb b) [(aa : Int), bb] = if (aa : Int) = a ∨ bb = a then (addAt (gb b).1 a 2, (gb b).2) else ((gb b).1, (gb b).2 ++ [[(aa : Int), bb]]) := rfl
          rw [sg] at hs1'
          have hHn5 := sc5 _ _ hr5
          have hpi6 := sc5 _ _ hpi5
          have hcn5 := sc5 _ _ hc5
          have ne0 : ¬ H.next = pi := by omega
          have ne00 : ¬ H2.next + 1 = pi := by omega
          by_cases c0 : (aa : Int) = a
          · have e0 : ((aa : Int) == a) = true := by rw [c0]; exact beq_self_eq_true _
            rw [if_pos (.inl c0)] at hs1'
            try simp (disch := first | omega | (simp only [L3] <;> omega)) only [Sall,evalOp,init,binA_s,binE,binI,unE,convE,okNil,builtE,gv,TD.isAgg,resV,↓reduceIte,Nat.reduceEqDiff,reduceCtorEq,Nat.reduceAdd,Nat.reduceMul,Nat.reduceLeDiff,za0,za1,Int.reduceEq,Int.reduceLT,Int.reduceLE,Nat.reduceLT,tiA, h38, h37, h36, h29, h28, h27, h7, h8, h2, h3, q3, q5, w3, i0, i1, e0, hpi5, ints_get?, zaH, hbl, ne0, ne00, w64]
            (repeat refine And.intro (by omega) ?_)
            refine ⟨(pairsL (rnd l (ll.length + c)) n).length - (b + 1), by omega, b + 1, gi', vs', rfl, by omega, by omega, hup5.set (by omega) _, hn5, hr5, by rw [hs1']; exact hc5, hp5.same fun j j1 j2 => by rw [AH.setCells_row, if_neg (by omega)], ?_, ?_, sc5.set _ _, hgi5, hgn5⟩
            · rw [hs1']; rfl
            · rw [hs1']; exact hG5.keep fun j r j1 hr => by rw [AH.setCells_row, if_neg (by omega)]; exact hr
          · have e0 : ((aa : Int) == a) = false := beq_eq_false_iff_ne.2 c0
            by_cases c1 : bb = a
            · have e2 : (bb == a) = true := by rw [c1]; exact beq_self_eq_true _
              rw [if_pos (.inr c1)] at hs1'
              try simp (disch := first | omega | (simp only [L3] <;> omega)) only [Sall,evalOp,init,binA_s,binE,binI,unE,convE,okNil,builtE,gv,TD.isAgg,resV,↓reduceIte,Nat.reduceEqDiff,reduceCtorEq,Nat.reduceAdd,Nat.reduceMul,Nat.reduceLeDiff,za0,za1,Int.reduceEq,Int.reduceLT,Int.reduceLE,Nat.reduceLT,tiA, h38, h37, h36, h29, h28, h27, h7, h8, h2, h3, q3, q5, w3, i0, i1, e0, e2, hpi5, ints_get?, zaH, hbl, ne0, ne00, w64]
              (repeat refine And.intro (by omega) ?_)
              refine ⟨(pairsL (rnd l (ll.length + c)) n).length - (b + 1), by omega, b + 1, gi', vs', rfl, by omega, by omega, hup5.set (by omega) _, hn5, hr5, by rw [hs1']; exact hc5, hp5.same fun j j1 j2 => by rw [AH.setCells_row, if_neg (by omega)], ?_, ?_, sc5.set _ _, hgi5, hgn5⟩
              · rw [hs1']; rfl
              · rw [hs1']; exact hG5.keep fun j r j1 hr => by rw [AH.setCells_row, if_neg (by omega)]; exact hr
            · have e2 : (bb == a) = false := beq_eq_false_iff_ne.2 c1
              rw [if_neg (fun h => h.elim c0 c1)] at hs1'
              have zz : zeros 1 [.slice none 0 0] = [.slice none 0 0] := rfl
              have ne1 : ¬ H2.next + 1 = H5.next := by omega
              try simp (disch := first | omega | (simp only [L3] <;> omega)) only [Sall,evalOp,init,binA_s,binE,binI,unE,convE,okNil,builtE,gv,TD.isAgg,resV,↓reduceIte,Nat.reduceEqDiff,reduceCtorEq,Nat.reduceAdd,Nat.reduceMul,Nat.reduceLeDiff,za0,za1,Int.reduceEq,Int.reduceLT,Int.reduceLE,Nat.reduceLT,tiA, h38, h37, h36, h29, h28, h27, h7, h8, h2, h3, q3, q5, w3, i0, i1, e0, e2, hc5, zz, zaO]
              (repeat refine And.intro (by omega) ?_)
              obtain ⟨H6, e6⟩ : ∃ H6, H6 = H5.push ⟨33, true, [.slice (some ⟨i6, 0, some 1⟩) 2 2]⟩ := ⟨_, rfl⟩
              have n6 : H6.next = H5.next + 1 := by rw [e6]; rfl
              have r6 : ∀ j, j < H5.next → H6.row j = H5.row j := fun j hj => by rw [e6, AH.push_row, if_neg (by omega)]
              have sc6 : Sc H6 := by rw [e6]; exact sc5.push _
              rw [← e6]
              clear e6
              have hi6 := sc5 _ _ w3
              have few := (hbo b (by omega)).few
              refine appE_gms (hG5.keep (H' := H6) fun j r _ hr => by rw [r6 _ (sc5 _ _ hr)]; exact hr) sc6 rfl (by decide) (by omega) (ys := [[(aa : Int), bb]]) rfl rfl (by omega) (fun j hj => ⟨i6, by omega, ?_, ?_, ?_⟩) ?_
              · obtain rfl : j = 0 := by omega
                rfl
              · rw [r6 _ hi6, w3]
                obtain rfl : j = 0 := by omega
                rfl
              · obtain rfl : j = 0 := by omega
                rfl
              · intro H7 n7 sc7 s7 hG7
                have hgi6 := sc5 _ _ hG5.row
                have hglo := hG5.glo
                have hgne2 : ∀ j, j ≠ gi' → j < H5.next → H7.row j = H5.row j := fun j j1 j2 => by rw [s7 j (by omega) j1, r6 j j2]
                have hc7 : H7.row (H2.next + 1) = some ⟨30, true, [.slice (some ⟨gi', 0, some 1⟩) (gb b).2.length (gb b).2.length]⟩ := by rw [hgne2 _ (Ne.symm hgn5) hcn5, hc5]
                have ne2 : ¬ H.next = H2.next + 1 := by omega
                have ne3 : ¬ pi = H2.next + 1 := by omega
                try simp (disch := first | omega | (simp only [L3] <;> omega)) only [Sall,evalOp,init,binA_s,binE,binI,unE,convE,okNil,builtE,gv,TD.isAgg,resV,↓reduceIte,Nat.reduceEqDiff,reduceCtorEq,Nat.reduceAdd,Nat.reduceMul,Nat.reduceLeDiff,za0,za1,Int.reduceEq,Int.reduceLT,Int.reduceLE,Nat.reduceLT,tiA, h38, h37, h36, h29, h28, h27, h7, h8, h2, h3, hc7, ne2, ne3, w64]
                refine ⟨(pairsL (rnd l (ll.length + c)) n).length - (b + 1), by omega, b + 1, H6.next, vs' ++ [.slice (some ⟨i6, 0, some 1⟩) 2 2], rfl, by omega, by omega, ⟨by rw [AH.setCells_next]; have := hup5.next; omega, fun j hj => by rw [AH.setCells_row, if_neg (by omega), hgne2 j (by omega) (by omega), hup5.row j hj]⟩, by omega, ?_, ?_, hp5.same fun j j1 j2 => by rw [AH.setCells_row, if_neg (by omega), hgne2 j (by omega) (by omega)], ?_, ?_, sc7.set _ _, .inr (by omega), by omega⟩
                · rw [hgne2 _ (by omega) hHn5]; exact hr5
                · rw [hs1']; simp
                · rw [hgne2 _ (by omega) hpi6, hs1']; exact hpi5
                · rw [hs1']
                  refine hG7.keepT fun j r j1 ht hr => ?_
                  rw [AH.setCells_row, if_neg (fun e => by
                    subst e
                    rw [hc7] at hr
                    cases hr
                    rcases ht with h | h <;> cases h)]
                  exact hr
        · have hbe : b = (pairsL (rnd l (ll.length + c)) n).length := by omega
          rw [hbe, ← hgs] at hc5 hpi5 hG5
          try simp (disch := first | omega | (simp only [L3] <;> omega)) only [Sall,evalOp,init,binA_s,binE,binI,unE,convE,okNil,builtE,gv,TD.isAgg,resV,↓reduceIte,Nat.reduceEqDiff,reduceCtorEq,Nat.reduceAdd,Nat.reduceMul,Nat.reduceLeDiff,za0,za1,Int.reduceEq,Int.reduceLT,Int.reduceLE,Nat.reduceLT,tiA, h29, h28, h27, h7, h8, h2, h3, w64]
          exact ⟨k - ll.length - (c + 1), by omega, c + 1, gi', vs', rfl, by omega, by omega, hup5, hr5, hc5, hpi5, hG5, sc5, hgn5⟩
    · have hce : c = k - ll.length := by omega
      rw [hce] at hc1 hr2 hG
      obtain ⟨st, hst⟩ : ∃ st, st = gmN n l a st0 ll.length (k - ll.length) := ⟨_, rfl⟩
      rw [← hst] at hc1 hr2 hG hgm ⊢
      clear hce hgo p3 hz g3 gm0 hst
      obtain ⟨pts, gs⟩ := st
      dsimp only at hc1 hr2 hG hgm ⊢
      have hHn := hsc _ _ hr1
      have hpn := hsc _ _ hr2
      have hcn := hsc _ _ hc1
      have hln : pts.length = n := hgm.len
      have hbnd : ∀ j, 0 ≤ pts.getD j 0 ∧ pts.getD j 0 ≤ 3360 := fun j => by have := hgm.bnd j; dsimp only at this; omega
      try simp (disch := first | omega | (simp only [L3] <;> omega)) only [Sall,evalOp,init,binA_s,binE,binI,unE,convE,okNil,builtE,gv,TD.isAgg,resV,↓reduceIte,Nat.reduceEqDiff,reduceCtorEq,Nat.reduceAdd,Nat.reduceMul,Nat.reduceLeDiff,za0,za1,Int.reduceEq,Int.reduceLT,Int.reduceLE,Nat.reduceLT,tiA, h7, h8, h2, h3, zaN]
      obtain ⟨H5, e5⟩ : ∃ H5, H5 = ((H'.push ⟨2, true, []⟩).push ⟨33, true, [.slice none 0 0]⟩).setCells (H'.next + 1) [.slice (some ⟨H'.next, 0, some 1⟩) 0 0] := ⟨_, rfl⟩
      have n5 : H5.next = H'.next + 2 := by rw [e5]; rfl
      have r5 : ∀ j, j < H'.next → H5.row j = H'.row j := fun j hj => by rw [e5, AH.setCells_row, if_neg (by omega), AH.push_row, if_neg (by rw [AH.push_next]; omega), AH.push_row, if_neg (by omega)]
      have sc5 : Sc H5 := by rw [e5]; exact ((hsc.push _).push _).set _ _
      have c5 : H5.row (H'.next + 1) = some ⟨33, true, [.slice (some ⟨H'.next, 0, some 1⟩) 0 0]⟩ := by rw [e5, AH.setCells_row, if_pos rfl, AH.push_row, if_pos (by rw [AH.push_next])]; rfl
      have f5 : Fr 1 2 H'.next (H'.next + 1) H5 (.slice (some ⟨H'.next, 0, some 1⟩) 0 0) 0 (roomL 0 pts a) := ⟨rfl, .inr ⟨H'.next, Nat.le_refl _, Nat.lt_succ_self _, rfl, by rw [e5, AH.setCells_row, if_neg (by omega), AH.push_row, if_neg (by rw [AH.push_next]; omega), AH.push_row, if_pos rfl]; rfl⟩⟩
      rw [← e5]
      clear e5
      refine za7 (fun z t H6 => ∃ (b lo hi : Nat) (rv : Value), z = n - b ∧ b ≤ n ∧ t 69 = .int .i64 b ∧ t 68 = .int .i64 n ∧ t 67 = .slice (some ⟨pi, 0, some 1⟩) n n ∧ t 13 = .pointer (some ⟨H'.next + 1, 0, none⟩) ∧ t 7 = .slice (some ⟨pi, 0, some 1⟩) n n ∧ t 8 = .pointer (some ⟨H2.next + 1, 0, none⟩) ∧ t 2 = .int .i64 a ∧ t 3 = .pointer (some ⟨H.next, 0, none⟩) ∧
        H'.next + 2 ≤ H6.next ∧ (∀ j, j < H'.next → H6.row j = H'.row j) ∧ H6.row (H'.next + 1) = some ⟨33, true, [rv]⟩ ∧ Fr 1 2 lo hi H6 rv b (roomL b pts a) ∧ H'.next ≤ lo ∧ lo ≤ hi ∧ hi ≤ H6.next ∧ (hi ≤ H'.next + 1 ∨ H'.next + 2 ≤ lo) ∧ Sc H6 ∧ ∀ j, j < b → ¬ pts.getD a.toNat 0 < pts.getD j 0) n ?_ ?_
      · refine ⟨0, H'.next, H'.next + 1, .slice (some ⟨H'.next, 0, some 1⟩) 0 0, by omega, by omega, ?_⟩
        try simp (disch := first | omega | (simp only [L3] <;> omega)) only [Sall,evalOp,init,binA_s,binE,binI,unE,convE,okNil,builtE,gv,TD.isAgg,resV,↓reduceIte,Nat.reduceEqDiff,reduceCtorEq,Nat.reduceAdd,Nat.reduceMul,Nat.reduceLeDiff,za0,za1,Int.reduceEq,Int.reduceLT,Int.reduceLE,Nat.reduceLT,tiA, Int.natCast_zero, h7, h8, h2, h3, f5]
        exact ⟨by omega, r5, c5, by omega, by omega, sc5, fun j hj => by omega⟩
      · rintro z t H6 ⟨b, lo, hi, rv, hz, hbn, h69, h68, h67, h13, h7, h8, h2, h3, hn6, hr6, hc6, f6, hlo, hlh, hhi, hlc, sc6, hno⟩
        have hr61 : H6.row H.next = some ⟨26, true, [.int .i64 n, v]⟩ := by rw [hr6 _ hHn, hr1]
        have hr62 : H6.row pi = some ⟨2, true, ints pts⟩ := by rw [hr6 _ hpn, hr2]
        have hr63 := hr6 _ hcn
        rw [hc1] at hr63
        try simp (disch := first | omega | (simp only [L3] <;> omega)) only [Sall,evalOp,init,binA_s,binE,binI,unE,convE,okNil,builtE,gv,TD.isAgg,resV,↓reduceIte,Nat.reduceEqDiff,reduceCtorEq,Nat.reduceAdd,Nat.reduceMul,Nat.reduceLeDiff,za0,za1,Int.reduceEq,Int.reduceLT,Int.reduceLE,Nat.reduceLT,tiA, h69, h68]
        refine za6 (fun hh => ?_) (fun hh => ?_)
        · have hba := hbnd a.toNat
          have hbb := hbnd b
          have zz : zeros 1 [.int .i64 0] = [.int .i64 0] := rfl
          have gb : (ints pts)[b]? = some (.int .i64 (pts.getD b 0)) := ints_get? pts b (by omega)
          have ga : (ints pts)[a.toNat]? = some (.int .i64 (pts.getD a.toNat 0)) := ints_get? pts a.toNat (by omega)
          by_cases hov : pts.getD a.toNat 0 < pts.getD b 0
          · have eo : overB n pts a = true := List.any_eq_true.2 ⟨b, List.mem_range.2 (by omega), decide_eq_true hov⟩
            have e1 : decide (pts.getD b 0 > pts.getD a.toNat 0) = true := decide_eq_true hov
            rw [if_pos eo]
            try simp (disch := first | omega | (simp only [L3] <;> omega)) only [Sall,evalOp,init,binA_s,binE,binI,unE,convE,okNil,builtE,gv,TD.isAgg,resV,↓reduceIte,Nat.reduceEqDiff,reduceCtorEq,Nat.reduceAdd,Nat.reduceMul,Nat.reduceLeDiff,za0,za1,Int.reduceEq,Int.reduceLT,Int.reduceLE,Nat.reduceLT,tiA, h69, h67, h7, h2, hr62, ga, gb, hln, e1, decide_true, hov]
            (repeat refine And.intro (by omega) ?_)
            try simp (disch := first | omega | (simp only [L3] <;> omega)) only [Sall,evalOp,init,binA_s,binE,binI,unE,convE,okNil,builtE,gv,TD.isAgg,resV,↓reduceIte,Nat.reduceEqDiff,reduceCtorEq,Nat.reduceAdd,Nat.reduceMul,Nat.reduceLeDiff,za0,za1,Int.reduceEq,Int.reduceLT,Int.reduceLE,Nat.reduceLT,tiA, e1, decide_true, hov]
            exact ⟨by have := hup.next; omega, fun j hj => by rw [hr6 j (by omega), hup.row j hj]⟩
          · have e1 : decide (pts.getD b 0 > pts.getD a.toNat 0) = false := decide_eq_false hov
            try simp (disch := first | omega | (simp only [L3] <;> omega)) only [Sall,evalOp,init,binA_s,binE,binI,unE,convE,okNil,builtE,gv,TD.isAgg,resV,↓reduceIte,Nat.reduceEqDiff,reduceCtorEq,Nat.reduceAdd,Nat.reduceMul,Nat.reduceLeDiff,za0,za1,Int.reduceEq,Int.reduceLT,Int.reduceLE,Nat.reduceLT,tiA, h69, h67, h7, h2, hr62, ga, gb, hln, e1]
            (repeat refine And.intro (by omega) ?_)
            try simp (disch := first | omega | (simp only [L3] <;> omega)) only [Sall,evalOp,init,binA_s,binE,binI,unE,convE,okNil,builtE,gv,TD.isAgg,resV,↓reduceIte,Nat.reduceEqDiff,reduceCtorEq,Nat.reduceAdd,Nat.reduceMul,Nat.reduceLeDiff,za0,za1,Int.reduceEq,Int.reduceLT,Int.reduceLE,Nat.reduceLT,tiA, h69, h67, h7, h2, hr62, ga, gb, hln, e1, h13]
            refine zaR (by kernel_rfl) (by kernel_rfl) ?_
            try simp (disch := first | omega | (simp only [L3] <;> omega)) only [Sall,evalOp,init,binA_s,binE,binI,unE,convE,okNil,builtE,gv,TD.isAgg,resV,↓reduceIte,Nat.reduceEqDiff,reduceCtorEq,Nat.reduceAdd,Nat.reduceMul,Nat.reduceLeDiff,za0,za1,Int.reduceEq,Int.reduceLT,Int.reduceLE,Nat.reduceLT,tiA, h13, h7, h2, hr62, hc6, ga, gb, zz, zaO, hln, w64]
            (repeat refine And.intro (by omega) ?_)
            refine ⟨.inr (.inr (sc6.le _)), ?_⟩
            obtain ⟨H7, e7⟩ : ∃ H7, H7 = H6.push ⟨2, true, [.int .i64 (pts.getD a.toNat 0 - pts.getD b 0)]⟩ := ⟨_, rfl⟩
            have n7 : H7.next = H6.next + 1 := by rw [e7]; rfl
            have r7 : ∀ j, j < H6.next → H7.row j = H6.row j := fun j hj => by rw [e7, AH.push_row, if_neg (by omega)]
            have sc7 : Sc H7 := by rw [e7]; exact sc6.push _
            rw [← e7]
            clear e7
            refine zeQ (k := 1) (lo := lo) (hi := hi) (l := roomL b pts a) (m := [pts.getD a.toNat 0 - pts.getD b 0]) (f6.same fun j _ hj => r7 j (by omega)) rfl (by omega) rfl (by omega) (by decide) (by omega) (by omega) sc7 ?_
            intro v' H8 n8 s8 sc8 f8
            refine ⟨.inr (.inl (by kernel_rfl)), ?_⟩
            have er : roomL b pts a ++ [pts.getD a.toNat 0 - pts.getD b 0] = roomL (b + 1) pts a := by simp [roomL, List.range_succ]
            rw [er] at f8
            have hr8 : ∀ j, j < H'.next → H8.row j = H'.row j := fun j hj => by rw [s8 j (by omega) (by omega), r7 j (by omega), hr6 j hj]
            have hc8 : H8.row (H'.next + 1) = some ⟨33, true, [rv]⟩ := by rw [s8 _ (by omega) (by omega), r7 _ (by omega), hc6]
            have hone8 := f8.rd.one
            try simp (disch := first | omega | (simp only [L3] <;> omega)) only [Sall,evalOp,init,binA_s,binE,binI,unE,convE,okNil,builtE,gv,TD.isAgg,resV,↓reduceIte,Nat.reduceEqDiff,reduceCtorEq,Nat.reduceAdd,Nat.reduceMul,Nat.reduceLeDiff,za0,za1,Int.reduceEq,Int.reduceLT,Int.reduceLE,Nat.reduceLT,tiA, h69, h68, h67, h7, h8, h2, h3, h13, hc8, hone8, w64]
            (repeat refine And.intro (by omega) ?_)
            refine ⟨.inr (.inl (by kernel_rfl)), n - (b + 1), by omega, b + 1, H7.next, H7.next + 1, v', rfl, by omega, by omega, by omega, ?_⟩
            exact ⟨fun j hj => by rw [if_neg (by omega)]; exact hr8 j hj, rfl, f8.same fun j j1 j2 => by rw [AH.setCells_row, if_neg (by omega)], by omega, by omega, by omega, .inr (by omega), sc8.set _ _, fun j hj => by
              by_cases e : j = b
              · rw [e]; exact hov
              · exact hno j (by omega)⟩
        · have hbe : b = n := by omega
          subst hbe
          have eo : ¬ overB b pts a = true := fun h => by
            obtain ⟨j, hj, hd⟩ := List.any_eq_true.1 h
            exact hno j (List.mem_range.1 hj) (of_decide_eq_true hd)
          rw [if_neg eo]
          obtain ⟨ri, ri1, ri2, rfl, rir⟩ := f6.get (by omega)
          have few := hgm.few
          dsimp only at few
          have hgiH := hsc _ _ hG.row
          obtain ⟨G, hGd⟩ : ∃ G, G = gs.length := ⟨_, rfl⟩
          have e9 : zeros G [.slice none 0 0] = List.replicate G (.slice none 0 0) := zeros_nil G
          rw [← hGd] at hr63 ⊢
          have neE : ¬ H2.next = H6.next + 1 := by omega
          have neF : ¬ H2.next = H6.next := by omega
          have neG : ¬ H2.next + 1 = H6.next := by omega
          try simp (disch := first | omega | (simp only [L3] <;> omega)) only [Sall,evalOp,init,binA_s,binE,binI,unE,convE,okNil,builtE,gv,TD.isAgg,resV,↓reduceIte,Nat.reduceEqDiff,reduceCtorEq,Nat.reduceAdd,Nat.reduceMul,Nat.reduceLeDiff,za0,za1,Int.reduceEq,Int.reduceLT,Int.reduceLE,Nat.reduceLT,tiA, h7, h8, h2, h3, h13, hr63, e9, neE, neF, neG]
          (repeat refine And.intro (by omega) ?_)
          try simp (disch := first | omega | (simp only [L3] <;> omega)) only [Sall,evalOp,init,binA_s,binE,binI,unE,convE,okNil,builtE,gv,TD.isAgg,resV,↓reduceIte,Nat.reduceEqDiff,reduceCtorEq,Nat.reduceAdd,Nat.reduceMul,Nat.reduceLeDiff,za0,za1,Int.reduceEq,Int.reduceLT,Int.reduceLE,Nat.reduceLT,tiA, h7, h8, h2, h3, h13, hr63, e9, neE, neF, neG, List.mem_cons, List.not_mem_nil, or_false, forall_eq_or_imp, forall_eq, Array.size_empty]
          obtain ⟨H7, e7⟩ : ∃ H7, H7 = ((((H6.push ⟨33, true, List.replicate G (.slice none 0 0)⟩).push ⟨30, true, [.slice none 0 0]⟩).setCells (H6.next + 1) [.slice (some ⟨H6.next, 0, some 1⟩) G G]).push ⟨199, true, [.nilFunc]⟩).setCells (H6.next + 2) [.func (.func 271) #[] #[.pointer (some ⟨H2.next + 1, 0, none⟩), .pointer (some ⟨H'.next + 1, 0, none⟩), .pointer (some ⟨H6.next + 1, 0, none⟩), .pointer (some ⟨H6.next + 2, 0, none⟩)]] := ⟨_, rfl⟩
          have n7 : H7.next = H6.next + 3 := by rw [e7]; rfl
          have r7 : ∀ j, j < H6.next → H7.row j = H6.row j := fun j hj => by rw [e7]; simp only [AH.setCells_row, AH.push_row, AH.push_next, AH.setCells_next]; rw [if_neg (by omega), if_neg (by omega), if_neg (by omega), if_neg (by omega), if_neg (by omega)]
          have sc7 : Sc H7 := by rw [e7]; exact ((((sc6.push _).push _).set _ _).push _).set _ _
          have o7 : H7.row H6.next = some ⟨33, true, List.replicate G (.slice none 0 0)⟩ := by rw [e7]; simp only [AH.setCells_row, AH.push_row, AH.push_next, AH.setCells_next]; rw [if_neg (by omega), if_neg (by omega), if_neg (by omega), if_neg (by omega), if_true]
          have oc7 : H7.row (H6.next + 1) = some ⟨30, true, [.slice (some ⟨H6.next, 0, some 1⟩) G G]⟩ := by rw [e7]; simp only [AH.setCells_row, AH.push_row, AH.push_next, AH.setCells_next]; rw [if_neg (by omega), if_neg (by omega), if_true, if_true]; rfl
          have gc7 : H7.row (H6.next + 2) = some ⟨199, true, [.func (.func 271) #[] #[.pointer (some ⟨H2.next + 1, 0, none⟩), .pointer (some ⟨H'.next + 1, 0, none⟩), .pointer (some ⟨H6.next + 1, 0, none⟩), .pointer (some ⟨H6.next + 2, 0, none⟩)]]⟩ := by rw [e7]; simp only [AH.setCells_row, AH.push_row, AH.push_next, AH.setCells_next]; rw [if_true, if_true]; rfl
          have le7 : H7.row (H2.next + 1) = some ⟨30, true, [.slice (some ⟨gi, 0, some 1⟩) G G]⟩ := by rw [r7 _ (by omega)]; exact hr63
          have rc7 : H7.row (H'.next + 1) = some ⟨33, true, [.slice (some ⟨ri, 0, some 1⟩) b b]⟩ := by rw [r7 _ (by omega)]; exact hc6
          have s7 : H7.row H.next = some ⟨26, true, [.int .i64 b, v]⟩ := by rw [r7 _ (by omega)]; exact hr61
          have ri7 : H7.row ri = some ⟨2, true, ints (roomL b pts a)⟩ := by rw [r7 _ (by omega)]; exact rir
          rw [← e7]
          clear e7
          have hgm7 : GmR (H6.next + 3) ri H6.next G (tmG gs) H7 (.slice (some ⟨gi, 0, some 1⟩) G G) := by
            refine ⟨gi, vs, rfl, by omega, by omega, by omega, by rw [r7 _ (by omega), hr6 _ hgiH]; exact hG.row, fun j hj => ?_⟩
            obtain ⟨q, q1, q2, q3, q4⟩ := hG.at_ j (by omega)
            have hq := hsc _ _ q3
            refine ⟨q, by omega, by omega, by omega, q2, ?_⟩
            rw [r7 _ (by omega), hr6 _ hq, q3]
            have := tmG_pair hgm (g := j) (by dsimp only; omega)
            dsimp only at this
            rw [this]
          have htm : ∀ j k', tmG gs j k' < b := tmG_lt hgm (by omega)
          obtain ⟨tm, htmd⟩ : ∃ tm, tm = tmG gs := ⟨_, rfl⟩
          rw [← htmd] at htm hgm7 ⊢
          clear htmd
          have hru : ∀ c, (roomL b pts a).getD c 0 ≤ 4294967296 := fun c => by
            by_cases hc : c < b
            · rw [zdP hc]; have := hbnd a.toNat; have := hbnd c; omega
            · rw [List.getD_eq_getElem?_getD, List.getElem?_eq_none (by rw [zc8]; omega)]; show (0 : Int) ≤ _; omega
          have hnil : ∀ g, (List.replicate G ([] : List Int)).getD g [] = [] := fun g => by
            rw [List.getD_eq_getElem?_getD, List.getElem?_replicate]; split <;> rfl
          have hW0 : WI b G 0 (List.replicate G []) (roomL b pts a) := by
            refine ⟨fun mt hmt => ⟨by simp, zc8 _ _ _, hmt, fun g x hx => ?_, fun c hc => ?_⟩, fun g hg => ?_, hru⟩
            · have hx : x ∈ (List.replicate G ([] : List Int)).getD g [] := hx
              rw [hnil] at hx; simp at hx
            · show 0 ≤ (roomL b pts a).getD c 0
              rw [zdP hc]
              have := hno c hc
              omega
            · rw [hnil]; simp
          have hO0 : OwR (H6.next + 3) H6.next H7 (List.replicate G []) (List.replicate G (.slice none 0 0)) (fun g => g) := by
            refine ⟨o7, by simp, fun g hg => .inl ⟨?_, hnil g⟩, fun g g' _ _ h => absurd (hnil g) h⟩
            rw [List.length_replicate] at hg
            rw [List.getElem?_replicate, if_pos hg]
          obtain ⟨rm0, hrm0⟩ : ∃ rm0, rm0 = roomL b pts a := ⟨_, rfl⟩
          rw [← hrm0] at ri7 hW0 ⊢
          have upH : ∀ H8 : AH, H6.next + 3 ≤ H8.next → (∀ j, j < H6.next + 3 → j ≠ ri → j ≠ H6.next → H8.row j = H7.row j) → Up H.next H H8 := fun H8 h1 h2 => ⟨by have := hup.next; omega, fun j hj => by
            rw [h2 j (by omega) (by omega) (by omega), r7 j (by omega), hr6 j (by omega), hup.row j hj]⟩
          rw [show List.range' 0 (2 * G) = List.range' (2 * 0) (2 * G - 2 * 0) from rfl]
          refine za7 (fun z t H8 => ∃ (g : Nat) (ow : List (List Int)) (rm : List Int), z = G - g ∧ g ≤ G ∧ t 95 = .int .i64 g ∧ t 94 = .int .i64 G ∧ t 17 = .pointer (some ⟨H6.next + 2, 0, none⟩) ∧ t 3 = .pointer (some ⟨H.next, 0, none⟩) ∧
            allH tm b G (List.range' (2 * 0) (2 * G - 2 * 0)) (List.replicate G []) rm0 = allH tm b G (List.range' (2 * g) (2 * G - 2 * g)) ow rm ∧ WI b G (2 * g) ow rm ∧
            (∃ vs q, OwR (H6.next + 3) H6.next H8 ow vs q) ∧ H8.row ri = some ⟨2, true, ints rm⟩ ∧ (∀ j, j < H6.next + 3 → j ≠ ri → j ≠ H6.next → H8.row j = H7.row j) ∧ H6.next + 3 ≤ H8.next ∧ Sc H8) G ?_ ?_
          · refine ⟨0, List.replicate G [], rm0, by omega, by omega, ?_⟩
            try simp (disch := first | omega | (simp only [L3] <;> omega)) only [Sall,evalOp,init,binA_s,binE,binI,unE,convE,okNil,builtE,gv,TD.isAgg,resV,↓reduceIte,Nat.reduceEqDiff,reduceCtorEq,Nat.reduceAdd,Nat.reduceMul,Nat.reduceLeDiff,za0,za1,Int.reduceEq,Int.reduceLT,Int.reduceLE,Nat.reduceLT,tiA, Int.natCast_zero, h3]
            exact ⟨hW0, ⟨_, _, hO0⟩, ri7, by omega, sc7⟩
          · rintro z t H8 ⟨g, ow, rm, hz, hgG, h95, h94, h17, h3, hAll, hW, hO, hrm, hfx, hn8, sc8⟩
            rw [hAll]
            try simp (disch := first | omega | (simp only [L3] <;> omega)) only [Sall,evalOp,init,binA_s,binE,binI,unE,convE,okNil,builtE,gv,TD.isAgg,resV,↓reduceIte,Nat.reduceEqDiff,reduceCtorEq,Nat.reduceAdd,Nat.reduceMul,Nat.reduceLeDiff,za0,za1,Int.reduceEq,Int.reduceLT,Int.reduceLE,Nat.reduceLT,tiA, h95, h94]
            refine za6 (fun hh => ?_) (fun hh => ?_)
            · try simp (disch := first | omega | (simp only [L3] <;> omega)) only [Sall,evalOp,init,binA_s,binE,binI,unE,convE,okNil,builtE,gv,TD.isAgg,resV,↓reduceIte,Nat.reduceEqDiff,reduceCtorEq,Nat.reduceAdd,Nat.reduceMul,Nat.reduceLeDiff,za0,za1,Int.reduceEq,Int.reduceLT,Int.reduceLE,Nat.reduceLT,tiA, h95, h94, h17, h3]
              rw [show List.range' (2 * g) (2 * G - 2 * g) = List.range' (2 * g + 0) (2 * G - (2 * g + 0)) from rfl]
              refine za7 (fun y t H9 => ∃ (z : Nat) (ow' : List (List Int)) (rm' : List Int), y = 2 - z ∧ z ≤ 2 ∧ t 98 = .int .i64 z ∧ t 18 = .int .i64 g ∧ t 95 = .int .i64 g ∧ t 94 = .int .i64 G ∧ t 17 = .pointer (some ⟨H6.next + 2, 0, none⟩) ∧ t 3 = .pointer (some ⟨H.next, 0, none⟩) ∧
                allH tm b G (List.range' (2 * g + 0) (2 * G - (2 * g + 0))) ow rm = allH tm b G (List.range' (2 * g + z) (2 * G - (2 * g + z))) ow' rm' ∧ WI b G (2 * g + z) ow' rm' ∧
                (∃ vs q, OwR (H6.next + 3) H6.next H9 ow' vs q) ∧ H9.row ri = some ⟨2, true, ints rm'⟩ ∧ (∀ j, j < H6.next + 3 → j ≠ ri → j ≠ H6.next → H9.row j = H7.row j) ∧ H6.next + 3 ≤ H9.next ∧ Sc H9) 2 ?_ ?_
              · refine ⟨0, ow, rm, by omega, by omega, ?_⟩
                try simp (disch := first | omega | (simp only [L3] <;> omega)) only [Sall,evalOp,init,binA_s,binE,binI,unE,convE,okNil,builtE,gv,TD.isAgg,resV,↓reduceIte,Nat.reduceEqDiff,reduceCtorEq,Nat.reduceAdd,Nat.reduceMul,Nat.reduceLeDiff,za0,za1,Int.reduceEq,Int.reduceLT,Int.reduceLE,Nat.reduceLT,tiA, Int.natCast_zero, h95, h94, h17, h3]
                exact ⟨hW, hO, hrm, hfx, hn8, sc8⟩
              · rintro y t H9 ⟨z', ow', rm', hy, hz2, h98, h18, h95, h94, h17, h3, hAll', hW', ⟨vs', q', hO'⟩, hrm', hfx', hn9, sc9⟩
                rw [hAll']
                try simp (disch := first | omega | (simp only [L3] <;> omega)) only [Sall,evalOp,init,binA_s,binE,binI,unE,convE,okNil,builtE,gv,TD.isAgg,resV,↓reduceIte,Nat.reduceEqDiff,reduceCtorEq,Nat.reduceAdd,Nat.reduceMul,Nat.reduceLeDiff,za0,za1,Int.reduceEq,Int.reduceLT,Int.reduceLE,Nat.reduceLT,tiA, h98]
                refine za6 (fun h2 => ?_) (fun h2 => ?_)
                · rw [show 2 * G - (2 * g + z') = (2 * G - (2 * g + z' + 1)) + 1 by omega, List.range'_succ]
                  have hst : allH tm b G ((2 * g + z') :: List.range' (2 * g + z' + 1) (2 * G - (2 * g + z' + 1))) ow' rm' = (if (hiveF tm G (b + 1) ⟨ow', rm', List.replicate b false⟩ ((2 * g + z') / 2)).1 = true then allH tm b G (List.range' (2 * g + z' + 1) (2 * G - (2 * g + z' + 1))) (hiveF tm G (b + 1) ⟨ow', rm', List.replicate b false⟩ ((2 * g + z') / 2)).2.ow (hiveF tm G (b + 1) ⟨ow', rm', List.replicate b false⟩ ((2 * g + z') / 2)).2.rm else false) := rfl
                  rw [hst]
                  have hWs := hW'.step (tm := tm) htm (by omega)
                  have hg2 : (2 * g + z') / 2 = g := by omega
                  rw [hg2] at hWs ⊢
                  have s9 := hfx' H.next (by omega) (by omega) (by omega)
                  rw [s7] at s9
                  have gc9 := hfx' (H6.next + 2) (by omega) (by omega) (by omega)
                  rw [gc7] at gc9
                  have ez : zeros b [.bool false] = bools (List.replicate b false) := zfK b
                  try simp (disch := first | omega | (simp only [L3] <;> omega)) only [Sall,evalOp,init,binA_s,binE,binI,unE,convE,okNil,builtE,gv,TD.isAgg,resV,↓reduceIte,Nat.reduceEqDiff,reduceCtorEq,Nat.reduceAdd,Nat.reduceMul,Nat.reduceLeDiff,za0,za1,Int.reduceEq,Int.reduceLT,Int.reduceLE,Nat.reduceLT,tiA, h98, h18, h95, h94, h17, h3, s9, gc9, ez]
                  refine zaR (by kernel_rfl) (by kernel_rfl) ?_
                  try simp (disch := first | omega | (simp only [L3] <;> omega)) only [Sall,evalOp,init,binA_s,binE,binI,unE,convE,okNil,builtE,gv,TD.isAgg,resV,↓reduceIte,Nat.reduceEqDiff,reduceCtorEq,Nat.reduceAdd,Nat.reduceMul,Nat.reduceLeDiff,za0,za1,Int.reduceEq,Int.reduceLT,Int.reduceLE,Nat.reduceLT,tiA, h98, h18, h95, h94, h17, h3, s9, gc9, ez]
                  (repeat refine And.intro (by omega) ?_)
                  refine ⟨.inr (.inr (sc9.le _)), ?_⟩
                  obtain ⟨H10, e10⟩ : ∃ H10, H10 = H9.push ⟨4, true, bools (List.replicate b false)⟩ := ⟨_, rfl⟩
                  have n10 : H10.next = H9.next + 1 := by rw [e10]; rfl
                  have r10 : ∀ j, j < H9.next → H10.row j = H9.row j := fun j hj => by rw [e10, AH.push_row, if_neg (by omega)]
                  have m10 : H10.row H9.next = some ⟨4, true, bools (List.replicate b false)⟩ := by rw [e10, AH.push_row, if_pos rfl]
                  have sc10 : Sc H10 := by rw [e10]; exact sc9.push _
                  rw [← e10]
                  clear e10
                  have hcall := hive_c b G ⟨by omega, by omega⟩ tm htm (.slice (some ⟨gi, 0, some 1⟩) G G) (H2.next + 1) (H'.next + 1) (H6.next + 1) (H6.next + 2) ri H6.next (H6.next + 3) (by omega) ⟨by omega, by omega, by omega, by omega, by omega, by omega⟩ ⟨by omega, by omega, by omega, by omega⟩ ⟨by omega, by omega, by omega, by omega⟩ H7 le7 rc7 oc7 gc7 hgm7 (b + 1) ⟨ow', rm', List.replicate b false⟩ g H9.next H10 (hW'.1 _ (by simp)) hW'.few hW'.2.2 (by omega) (unm_none b)
                    ⟨by rw [r10 _ (by omega)]; exact hrm', m10, ⟨vs', q', hO'.keep (by omega) fun j r hr _ => by rw [r10 _ (sc9 _ _ hr)]; exact hr⟩, fun j j1 j2 j3 => by rw [r10 _ (by omega)]; exact hfx' j j1 j2 j3, by omega, sc10⟩ (by omega)
                  revert hcall hWs
                  generalize hiveF tm G (b + 1) ⟨ow', rm', List.replicate b false⟩ g = R
                  intro hWs hcall
                  refine hcall.fin ?_
                  rintro H11 ⟨hS, hn11⟩
                  obtain ⟨rb, s'⟩ := R
                  obtain ⟨vs2, q2, hO2⟩ := hS.ow
                  refine ⟨.inr (.inl (by kernel_rfl)), ?_⟩
                  have hS1 := hS.rm
                  have hS2 := hS.fix
                  have hS3 := hS.nxt
                  have hS4 := hS.sc
                  dsimp only at hS1 hO2 hWs
                  obtain hrb | hrb : rb = true ∨ rb = false := by cases rb <;> simp
                  · subst hrb
                    try simp (disch := first | omega | (simp only [L3] <;> omega)) only [Sall,evalOp,init,binA_s,binE,binI,unE,convE,okNil,builtE,gv,TD.isAgg,resV,↓reduceIte,Nat.reduceEqDiff,reduceCtorEq,Nat.reduceAdd,Nat.reduceMul,Nat.reduceLeDiff,za0,za1,Int.reduceEq,Int.reduceLT,Int.reduceLE,Nat.reduceLT,tiA, h98, h18, h95, h94, h17, h3, w64]
                    (repeat refine And.intro (by omega) ?_)
                    exact ⟨2 - (z' + 1), by omega, z' + 1, s'.ow, s'.rm, rfl, by omega, by omega, rfl, hWs rfl, ⟨vs2, q2, hO2⟩, hS1, hS2, hS3, hS4⟩
                  · subst hrb
                    try simp (disch := first | omega | (simp only [L3] <;> omega)) only [Sall,evalOp,init,binA_s,binE,binI,unE,convE,okNil,builtE,gv,TD.isAgg,resV,↓reduceIte,Nat.reduceEqDiff,reduceCtorEq,Nat.reduceAdd,Nat.reduceMul,Nat.reduceLeDiff,za0,za1,Int.reduceEq,Int.reduceLT,Int.reduceLE,Nat.reduceLT,tiA, h98]
                    exact upH _ hS3 hS2
                · have hze : z' = 2 := by omega
                  subst hze
                  try simp (disch := first | omega | (simp only [L3] <;> omega)) only [Sall,evalOp,init,binA_s,binE,binI,unE,convE,okNil,builtE,gv,TD.isAgg,resV,↓reduceIte,Nat.reduceEqDiff,reduceCtorEq,Nat.reduceAdd,Nat.reduceMul,Nat.reduceLeDiff,za0,za1,Int.reduceEq,Int.reduceLT,Int.reduceLE,Nat.reduceLT,tiA, h95, h94, h17, h3, w64]
                  exact ⟨G - (g + 1), by omega, g + 1, ow', rm', rfl, by omega, by omega, rfl, hW', ⟨vs', q', hO'⟩, hrm', hfx', hn9, sc9⟩
            · have hge : g = G := by omega
              subst hge
              rw [Nat.sub_self]
              try simp (disch := first | omega | (simp only [L3] <;> omega)) only [Sall,evalOp,init,binA_s,binE,binI,unE,convE,okNil,builtE,gv,TD.isAgg,resV,↓reduceIte,Nat.reduceEqDiff,reduceCtorEq,Nat.reduceAdd,Nat.reduceMul,Nat.reduceLeDiff,za0,za1,Int.reduceEq,Int.reduceLT,Int.reduceLE,Nat.reduceLT,tiA, true_and]
              exact ⟨rfl, upH _ hn8 hfx⟩
end Go.Proofs.YtpienljnoaendaaGreat.A
end

section
set_option maxRecDepth 100000
set_option maxHeartbeats 2000000
namespace Go.Proofs.YtpienljnoaendaaGreat.A
open Go Go.Abs Go.RowKit
def canR (q : Int) (k : Nat) (l : List Int) (ll : List (List Int)) (a : Int) : Bool := schedB q k l && (resB q.toNat k l ll && decide (0 ≤ a ∧ a ≤ q - 1)) && firstB q.toNat k l ll a
def zd0 (n k : Nat) (l : List Int) (ll : List (List Int)) : Nat → List Int
  | 0 => []
  | b + 1 => zd0 n k l ll b ++ if firstB n k l ll b = true then [(b : Int)] else []
theorem zdX (n k : Nat) (l : List Int) (ll : List (List Int)) : ∀ b, (zd0 n k l ll b).length ≤ b
  | 0 => Nat.le_refl _
  | b + 1 => by
    have := zdX n k l ll b
    unfold zd0
    rw [List.length_append]
    split <;> simp <;> omega
def zdD (q : Int) (k : Nat) (l : List Int) (ll : List (List Int)) : List Int := if schedB q k l = true ∧ resB q.toNat k l ll = true then zd0 q.toNat k l ll q.toNat else []
theorem firstsR_length (q : Int) (k : Nat) (l : List Int) (ll : List (List Int)) : (zdD q k l ll).length ≤ 14 := by
  unfold zdD
  split
  · rename_i h
    obtain ⟨h2, _, _⟩ := zaC h.1
    have := zdX q.toNat k l ll q.toNat
    omega
  · simp
theorem canCode_c (q : Int) (v : Value) (a : Int) (p0 p1 : Nat) (H : AH) (hq : 2 ≤ q ∧ q ≤ 14) (hone : v.oneCell' = true) (h0 : H.row p0 = some ⟨26, true, [.int .i64 q, v]⟩) (h1 : H.row p1 = some ⟨2, true, [.int .i64 a]⟩) :
    ACalls Tryz.prog 183 [.pointer (some ⟨p0, 0, none⟩), .pointer (some ⟨p1, 0, none⟩)] H (is (.bool (decide (0 ≤ a ∧ a ≤ q - 1))) H) := by
  refine za3 [.tmp 2] Tryz.func183 (by kernel_rfl) rfl rfl (Nat.le_of_ble_eq_true rfl) (by kernel_rfl) ?_
  try simp (disch := first | omega | (simp only [L3] <;> omega)) only [Sall,evalOp,init,binA_s,binE,binI,unE,convE,okNil,builtE,gv,TD.isAgg,resV,↓reduceIte,Nat.reduceEqDiff,reduceCtorEq,Nat.reduceAdd,Nat.reduceMul,Nat.reduceLeDiff,za0,za1,Int.reduceEq,Int.reduceLT,Int.reduceLE,Nat.reduceLT,tiA, h0, h1, hone]
  refine (zd5 q v a H hq hone).to ?_
  try simp (disch := first | omega | (simp only [L3] <;> omega)) only [Sall,evalOp,init,binA_s,binE,binI,unE,convE,okNil,builtE,gv,TD.isAgg,resV,↓reduceIte,Nat.reduceEqDiff,reduceCtorEq,Nat.reduceAdd,Nat.reduceMul,Nat.reduceLeDiff,za0,za1,Int.reduceEq,Int.reduceLT,Int.reduceLE,Nat.reduceLT,tiA, is]
theorem CanBeFirst_c (q : Int) (v : Value) (k : Nat) (l : List Int) (x : Value) (ll : List (List Int)) (a : Int) (H : AH) (hv : Rs 14 H v k l) (hk : k ≤ 4294967296) (hx : Rd2 1 H x ll) (hl : ll.length ≤ 4294967296) (hl2 : ∀ y ∈ ll, y.length ≤ 4294967296)
    (_ : -9223372036854775808 ≤ a ∧ a ≤ 9223372036854775807) :
    ACalls Tryz.prog 59 [.agg #[.int .i64 q, v], x, .int .i64 a] H (is (.tuple #[.bool (canR q k l ll a), .int .i64 (codeS q k l (resB q.toNat k l ll && decide (0 ≤ a ∧ a ≤ q - 1)))]) H) := by
  refine ACalls.wf (by kernel_rfl) fun hs => zaZ (by simp [flat, Abs.scal]) (za3 [.tmp 6, .tmp 7] Tryz.func59 (by kernel_rfl) rfl rfl (Nat.le_of_ble_eq_true rfl) (by kernel_rfl) ?_)
  have hone := hv.rd.one
  try simp (disch := first | omega | (simp only [L3] <;> omega)) only [Sall,evalOp,init,binA_s,binE,binI,unE,convE,okNil,builtE,gv,TD.isAgg,resV,↓reduceIte,Nat.reduceEqDiff,reduceCtorEq,Nat.reduceAdd,Nat.reduceMul,Nat.reduceLeDiff,za0,za1,Int.reduceEq,Int.reduceLT,Int.reduceLE,Nat.reduceLT,tiA, hone]
  have o1 := ((Ow.refl hs).push ⟨26, true, [.int .i64 q, v]⟩).push ⟨2, true, [.int .i64 a]⟩
  obtain ⟨H1, eg⟩ : ∃ H1, H1 = (H.push ⟨26, true, [.int .i64 q, v]⟩).push ⟨2, true, [.int .i64 a]⟩ := ⟨_, rfl⟩
  rw [← eg] at o1 ⊢
  clear eg
  have g0 := (o1.rowAt 0 rfl).1
  have g1 := (o1.rowAt 1 rfl).1
  have hv1 := hv.same (o1.old hs)
  have hx1 := hx.same (o1.old hs)
  try simp (disch := first | omega | (simp only [L3] <;> omega)) only [Sall,evalOp,init,binA_s,binE,binI,unE,convE,okNil,builtE,gv,TD.isAgg,resV,↓reduceIte,Nat.reduceEqDiff,reduceCtorEq,Nat.reduceAdd,Nat.reduceMul,Nat.reduceLeDiff,za0,za1,Int.reduceEq,Int.reduceLT,Int.reduceLE,Nat.reduceLT,tiA, hone, g0, List.mem_cons, List.not_mem_nil, or_false, forall_eq_or_imp, forall_eq, Array.size_empty]
  refine (zbO q v k l x ll 183 [.pointer (some ⟨H.next, 0, none⟩), .pointer (some ⟨H.next + 1, 0, none⟩)] (decide (0 ≤ a ∧ a ≤ q - 1)) H1 hv1.rd hk hx1 hl hl2 ?_).to ?_
  · intro H' up' hb _
    obtain ⟨h2, _, _⟩ := zaC hb
    exact canCode_c q v a _ _ H' h2 hone (by rw [up'.row _ (o1.rowAt 0 rfl).2.2, g0]) (by rw [up'.row _ (show H.next + 1 < H1.next from (o1.rowAt 1 rfl).2.2)]; exact g1)
  by_cases hok : schedB q k l = true ∧ (resB q.toNat k l ll && decide (0 ≤ a ∧ a ≤ q - 1)) = true
  · obtain ⟨hb, hok2⟩ := hok
    unfold canR
    rw [zbF hb hok2, hb, hok2]
    rw [Bool.and_eq_true] at hok2
    obtain ⟨hres, hteam⟩ := hok2
    have hteam := of_decide_eq_true hteam
    obtain ⟨h2, hk40, _⟩ := zaC hb
    obtain ⟨n, rfl⟩ : ∃ n : Nat, q = n := ⟨q.toNat, by omega⟩
    rw [Int.toNat_natCast] at hres ⊢
    have g1' : H1.row (H.next + 1) = some ⟨2, true, [.int .i64 a]⟩ := g1
    try simp (disch := first | omega | (simp only [L3] <;> omega)) only [Sall,evalOp,init,binA_s,binE,binI,unE,convE,okNil,builtE,gv,TD.isAgg,resV,↓reduceIte,Nat.reduceEqDiff,reduceCtorEq,Nat.reduceAdd,Nat.reduceMul,Nat.reduceLeDiff,za0,za1,Int.reduceEq,Int.reduceLT,Int.reduceLE,Nat.reduceLT,tiA, bne_self_eq_false, g0, g1', hone]
    refine (zeW n v k l x ll a H1 hb hres hl hv1 hx1 ⟨by omega, by omega⟩).to ?_
    try simp (disch := first | omega | (simp only [L3] <;> omega)) only [Sall,evalOp,init,binA_s,binE,binI,unE,convE,okNil,builtE,gv,TD.isAgg,resV,↓reduceIte,Nat.reduceEqDiff,reduceCtorEq,Nat.reduceAdd,Nat.reduceMul,Nat.reduceLeDiff,za0,za1,Int.reduceEq,Int.reduceLT,Int.reduceLE,Nat.reduceLT,tiA, Bool.true_and, Bool.and_self]
    exact o1.up
  · have ec := zcH hok
    have er : canR q k l ll a = false := by
      unfold canR
      rw [← Bool.not_eq_true, Bool.and_eq_true, Bool.and_eq_true]
      exact fun h => hok h.1
    rw [er]
    try simp (disch := first | omega | (simp only [L3] <;> omega)) only [Sall,evalOp,init,binA_s,binE,binI,unE,convE,okNil,builtE,gv,TD.isAgg,resV,↓reduceIte,Nat.reduceEqDiff,reduceCtorEq,Nat.reduceAdd,Nat.reduceMul,Nat.reduceLeDiff,za0,za1,Int.reduceEq,Int.reduceLT,Int.reduceLE,Nat.reduceLT,tiA, ec]
    exact o1.up
theorem specCanBeFirst_c (q : Int) (v : Value) (k : Nat) (l : List Int) (x : Value) (ll : List (List Int)) (a : Int) (H : AH) (hv : Rd 14 H v k l) (hk : k ≤ 4294967296) (hx : Rd2 1 H x ll) (hl : ll.length ≤ 4294967296) (hl2 : ∀ y ∈ ll, y.length ≤ 4294967296)
    (_ : -9223372036854775808 ≤ a ∧ a ≤ 9223372036854775807) :
    ACalls Tryz.prog 60 [.agg #[.int .i64 q, v], x, .int .i64 a] H (is (.tuple #[.bool (canR q k l ll a), .int .i64 (codeS q k l (resB q.toNat k l ll && decide (0 ≤ a ∧ a ≤ q - 1)))]) H) := by
  refine ACalls.wf (by kernel_rfl) fun hs => zaZ (by simp [flat, Abs.scal]) (za3 [.tmp 6, .tmp 7] Tryz.func60 (by kernel_rfl) rfl rfl (Nat.le_of_ble_eq_true rfl) (by kernel_rfl) ?_)
  have hone := hv.one
  have zz : zeros 1 [.int .i64 0] = [.int .i64 0] := rfl
  try simp (disch := first | omega | (simp only [L3] <;> omega)) only [Sall,evalOp,init,binA_s,binE,binI,unE,convE,okNil,builtE,gv,TD.isAgg,resV,↓reduceIte,Nat.reduceEqDiff,reduceCtorEq,Nat.reduceAdd,Nat.reduceMul,Nat.reduceLeDiff,za0,za1,Int.reduceEq,Int.reduceLT,Int.reduceLE,Nat.reduceLT,tiA, hone, zz]
  have o1 := ((Ow.refl hs).push ⟨26, true, [.int .i64 q, v]⟩).pushSl (k := 1) (n := 1) (ty := 2) (vs := ints [a]) rfl
  obtain ⟨H1, eg⟩ : ∃ H1, H1 = (H.push ⟨26, true, [.int .i64 q, v]⟩).push ⟨2, true, ints [a]⟩ := ⟨_, rfl⟩
  rw [← eg] at o1
  have eg' : (H.push ⟨26, true, [.int .i64 q, v]⟩).push ⟨2, true, [.int .i64 a]⟩ = H1 := eg.symm
  rw [eg']
  clear eg eg'
  have g0 := (o1.rowAt 0 rfl).1
  have hv1 := hv.same (o1.old hs)
  have hx1 := hx.same (o1.old hs)
  refine (zeD q v k l x ll _ 1 [a] H1 hv1 hk hx1 hl hl2 (o1.rd 1 rfl) (by omega)).to ?_
  have eall : ((List.range 1).all fun i => decide (0 ≤ [a].getD i 0 ∧ [a].getD i 0 ≤ q - 1)) = decide (0 ≤ a ∧ a ≤ q - 1) := by
    show (decide (0 ≤ a ∧ a ≤ q - 1) && true) = _
    rw [Bool.and_true]
  rw [eall]
  by_cases hok : schedB q k l = true ∧ (resB q.toNat k l ll && decide (0 ≤ a ∧ a ≤ q - 1)) = true
  · obtain ⟨hb, hok2⟩ := hok
    unfold canR
    rw [zbF hb hok2, hb, hok2]
    rw [Bool.and_eq_true] at hok2
    obtain ⟨hres, hteam⟩ := hok2
    have hteam := of_decide_eq_true hteam
    obtain ⟨h2, hk40, _⟩ := zaC hb
    obtain ⟨n, rfl⟩ : ∃ n : Nat, q = n := ⟨q.toNat, by omega⟩
    rw [Int.toNat_natCast] at hres ⊢
    try simp (disch := first | omega | (simp only [L3] <;> omega)) only [Sall,evalOp,init,binA_s,binE,binI,unE,convE,okNil,builtE,gv,TD.isAgg,resV,↓reduceIte,Nat.reduceEqDiff,reduceCtorEq,Nat.reduceAdd,Nat.reduceMul,Nat.reduceLeDiff,za0,za1,Int.reduceEq,Int.reduceLT,Int.reduceLE,Nat.reduceLT,tiA, bne_self_eq_false, g0, hone]
    refine (l10First_c n v k l x ll a H1 hb hres hl hv1 hx1 ⟨by omega, by omega⟩).to ?_
    try simp (disch := first | omega | (simp only [L3] <;> omega)) only [Sall,evalOp,init,binA_s,binE,binI,unE,convE,okNil,builtE,gv,TD.isAgg,resV,↓reduceIte,Nat.reduceEqDiff,reduceCtorEq,Nat.reduceAdd,Nat.reduceMul,Nat.reduceLeDiff,za0,za1,Int.reduceEq,Int.reduceLT,Int.reduceLE,Nat.reduceLT,tiA, Bool.true_and, Bool.and_self]
    exact o1.up
  · have ec := zcH hok
    have er : canR q k l ll a = false := by
      unfold canR
      rw [← Bool.not_eq_true, Bool.and_eq_true, Bool.and_eq_true]
      exact fun h => hok h.1
    rw [er]
    try simp (disch := first | omega | (simp only [L3] <;> omega)) only [Sall,evalOp,init,binA_s,binE,binI,unE,convE,okNil,builtE,gv,TD.isAgg,resV,↓reduceIte,Nat.reduceEqDiff,reduceCtorEq,Nat.reduceAdd,Nat.reduceMul,Nat.reduceLeDiff,za0,za1,Int.reduceEq,Int.reduceLT,Int.reduceLE,Nat.reduceLT,tiA, ec]
    exact o1.up
theorem FirstTeams_c (q : Int) (v : Value) (k : Nat) (l : List Int) (x : Value) (ll : List (List Int)) (H : AH) (hv : Rs 14 H v k l) (hk : k ≤ 4294967296) (hx : Rd2 1 H x ll) (hl : ll.length ≤ 4294967296) (hl2 : ∀ y ∈ ll, y.length ≤ 4294967296) :
    ACalls Tryz.prog 62 [.agg #[.int .i64 q, v], x] H (fun r H' => ∃ u, r = .tuple #[u, .int .i64 (codeS q k l (resB q.toNat k l ll))] ∧ Up H.next H H' ∧ Fr 1 2 H.next H'.next H' u (zdD q k l ll).length (zdD q k l ll)) := by
  refine ACalls.wf (by kernel_rfl) fun hs => za3 [.tmp 4, .tmp 5] Tryz.func62 (by kernel_rfl) rfl rfl (Nat.le_of_ble_eq_true rfl) (by kernel_rfl) ?_
  have hone := hv.rd.one
  try simp (disch := first | omega | (simp only [L3] <;> omega)) only [Sall,evalOp,init,binA_s,binE,binI,unE,convE,okNil,builtE,gv,TD.isAgg,resV,↓reduceIte,Nat.reduceEqDiff,reduceCtorEq,Nat.reduceAdd,Nat.reduceMul,Nat.reduceLeDiff,za0,za1,Int.reduceEq,Int.reduceLT,Int.reduceLE,Nat.reduceLT,tiA, hone]
  have o1 := (Ow.refl hs).push ⟨26, true, [.int .i64 q, v]⟩
  revert o1
  generalize H.push ⟨26, true, [.int .i64 q, v]⟩ = H1
  intro o1
  have hv1 := hv.same (o1.old hs)
  have hx1 := hx.same (o1.old hs)
  have g0 := (o1.rowAt 0 rfl).1
  refine (zbO q v k l x ll 105 [] true H1 hv1.rd hk hx1 hl hl2 fun H' _ _ _ => zh6 H').to ?_
  rw [Bool.and_true]
  by_cases hok : schedB q k l = true ∧ resB q.toNat k l ll = true
  · obtain ⟨hb, hres⟩ := hok
    obtain ⟨h2, _, _⟩ := zaC hb
    obtain ⟨n, rfl⟩ : ∃ n : Nat, q = n := ⟨q.toNat, by omega⟩
    unfold zdD
    rw [if_pos ⟨hb, hres⟩, zbF hb hres]
    rw [Int.toNat_natCast] at hres ⊢
    have ne1 : ¬ H.next = H1.next := by have := (o1.rowAt 0 rfl).2.2; omega
    try simp (disch := first | omega | (simp only [L3] <;> omega)) only [Sall,evalOp,init,binA_s,binE,binI,unE,convE,okNil,builtE,gv,TD.isAgg,resV,↓reduceIte,Nat.reduceEqDiff,reduceCtorEq,Nat.reduceAdd,Nat.reduceMul,Nat.reduceLeDiff,za0,za1,Int.reduceEq,Int.reduceLT,Int.reduceLE,Nat.reduceLT,tiA, bne_self_eq_false, g0, zaN, ne1]
    have o2 := o1.pushSl (k := 1) (n := 0) (ty := 2) (vs := []) rfl
    revert o2
    generalize H1.push ⟨2, true, []⟩ = H2
    intro o2
    refine za7 (fun z t H' => ∃ (b : Nat) (u : Value), z = n - b ∧ b ≤ n ∧ t 18 = .int .i64 b ∧ t 17 = .int .i64 n ∧ t 7 = u ∧ t 1 = x ∧ t 2 = .pointer (some ⟨H.next, 0, none⟩) ∧
      Ow H H' [.row H.next ⟨26, true, [.int .i64 n, v]⟩, .sl 1 2 u (zd0 n k l ll b).length (ints (zd0 n k l ll b))]) n ?_ ?_
    · refine ⟨0, .slice (some ⟨H1.next, 0, some 1⟩) 0 0, by omega, by omega, ?_⟩
      try simp (disch := first | omega | (simp only [L3] <;> omega)) only [Sall,evalOp,init,binA_s,binE,binI,unE,convE,okNil,builtE,gv,TD.isAgg,resV,↓reduceIte,Nat.reduceEqDiff,reduceCtorEq,Nat.reduceAdd,Nat.reduceMul,Nat.reduceLeDiff,za0,za1,Int.reduceEq,Int.reduceLT,Int.reduceLE,Nat.reduceLT,tiA, Int.natCast_zero]
      exact o2
    · rintro z t H' ⟨b, u, hz, hbn, h18, h17, h7, h1, h2', o3⟩
      have g3 := (o3.rowAt 0 rfl).1
      try simp (disch := first | omega | (simp only [L3] <;> omega)) only [Sall,evalOp,init,binA_s,binE,binI,unE,convE,okNil,builtE,gv,TD.isAgg,resV,↓reduceIte,Nat.reduceEqDiff,reduceCtorEq,Nat.reduceAdd,Nat.reduceMul,Nat.reduceLeDiff,za0,za1,Int.reduceEq,Int.reduceLT,Int.reduceLE,Nat.reduceLT,tiA, h18, h17]
      refine za6 (fun hh => ?_) (fun hh => ?_)
      · try simp (disch := first | omega | (simp only [L3] <;> omega)) only [Sall,evalOp,init,binA_s,binE,binI,unE,convE,okNil,builtE,gv,TD.isAgg,resV,↓reduceIte,Nat.reduceEqDiff,reduceCtorEq,Nat.reduceAdd,Nat.reduceMul,Nat.reduceLeDiff,za0,za1,Int.reduceEq,Int.reduceLT,Int.reduceLE,Nat.reduceLT,tiA, h18, h1, h2', g3, hone]
        refine (zeW n v k l x ll b H' hb hres hl (hv.same (o3.old hs)) (hx.same (o3.old hs)) ⟨by omega, by omega⟩).to ?_
        have hfl := zdX n k l ll b
        have es : zd0 n k l ll (b + 1) = zd0 n k l ll b ++ if firstB n k l ll b = true then [(b : Int)] else [] := rfl
        obtain hc | hc : firstB n k l ll b = true ∨ firstB n k l ll b = false := by cases firstB n k l ll b <;> simp
        · rw [if_pos hc] at es
          have zz : zeros 1 [.int .i64 0] = [.int .i64 0] := rfl
          try simp (disch := first | omega | (simp only [L3] <;> omega)) only [Sall,evalOp,init,binA_s,binE,binI,unE,convE,okNil,builtE,gv,TD.isAgg,resV,↓reduceIte,Nat.reduceEqDiff,reduceCtorEq,Nat.reduceAdd,Nat.reduceMul,Nat.reduceLeDiff,za0,za1,Int.reduceEq,Int.reduceLT,Int.reduceLE,Nat.reduceLT,tiA, hc, h18, h17, h7, h1, h2', zz, zaO]
          (repeat refine And.intro (by omega) ?_)
          refine (o3.tmp ⟨2, true, [.int .i64 b]⟩).app 1 rfl rfl (by omega) rfl (by omega) (by decide) (by omega) ?_
          intro v' H4 n4 o4
          try simp (disch := first | omega | (simp only [L3] <;> omega)) only [Sall,evalOp,init,binA_s,binE,binI,unE,convE,okNil,builtE,gv,TD.isAgg,resV,↓reduceIte,Nat.reduceEqDiff,reduceCtorEq,Nat.reduceAdd,Nat.reduceMul,Nat.reduceLeDiff,za0,za1,Int.reduceEq,Int.reduceLT,Int.reduceLE,Nat.reduceLT,tiA, h18, h17, h7, h1, h2', w64]
          exact ⟨n - (b + 1), by omega, b + 1, v', rfl, by omega, by omega, rfl, by rw [es, List.length_append, ← zaU]; exact o4⟩
        · rw [if_neg (by rw [hc]; simp), List.append_nil] at es
          try simp (disch := first | omega | (simp only [L3] <;> omega)) only [Sall,evalOp,init,binA_s,binE,binI,unE,convE,okNil,builtE,gv,TD.isAgg,resV,↓reduceIte,Nat.reduceEqDiff,reduceCtorEq,Nat.reduceAdd,Nat.reduceMul,Nat.reduceLeDiff,za0,za1,Int.reduceEq,Int.reduceLT,Int.reduceLE,Nat.reduceLT,tiA, hc, h18, h17, h7, h1, h2', w64]
          exact ⟨n - (b + 1), by omega, b + 1, u, rfl, by omega, by omega, rfl, by rw [es]; exact o3⟩
      · have hbe : b = n := by omega
        subst hbe
        have hu := o3.one 1 rfl
        try simp (disch := first | omega | (simp only [L3] <;> omega)) only [Sall,evalOp,init,binA_s,binE,binI,unE,convE,okNil,builtE,gv,TD.isAgg,resV,↓reduceIte,Nat.reduceEqDiff,reduceCtorEq,Nat.reduceAdd,Nat.reduceMul,Nat.reduceLeDiff,za0,za1,Int.reduceEq,Int.reduceLT,Int.reduceLE,Nat.reduceLT,tiA, h7, hu]
        exact ⟨u, rfl, o3.up, o3.fr 1 rfl⟩
  · have ec := zcH hok
    unfold zdD
    rw [if_neg hok]
    try simp (disch := first | omega | (simp only [L3] <;> omega)) only [Sall,evalOp,init,binA_s,binE,binI,unE,convE,okNil,builtE,gv,TD.isAgg,resV,↓reduceIte,Nat.reduceEqDiff,reduceCtorEq,Nat.reduceAdd,Nat.reduceMul,Nat.reduceLeDiff,za0,za1,Int.reduceEq,Int.reduceLT,Int.reduceLE,Nat.reduceLT,tiA, ec]
    exact ⟨_, rfl, o1.up, fr_nil _ _ _ _⟩
end Go.Proofs.YtpienljnoaendaaGreat.A
end

section
set_option maxRecDepth 100000
set_option maxHeartbeats 2000000
namespace Go.Proofs.YtpienljnoaendaaGreat.A
open Go Go.Abs Go.RowKit
def mtM (M : List (List Int)) (a b : Nat) : Bool := decide (0 < (M.getD a []).getD b 0)
structure CallOk (n : Nat) (M : List (List Int)) (mv : Value) (g : FuncId) (caps : List Value) (b0 : Nat) {σ : Type} (Inv : σ → AH → Prop) (step : σ → List Int → Bool × σ) : Prop where
  n14 : n ≤ 14
  ml : M.length = n
  mr : ∀ a, a < n → (M.getD a []).length = n
  low : ∀ s H H', Inv s H → (∀ i, i < b0 → H'.row i = H.row i) → Inv s H'
  met : ∀ s H, Inv s H → Rd2 1 H mv M
  call : ∀ s r H, Inv s H → b0 ≤ H.next → Sc H → NowOk n r → ACalls Tryz.prog g (.agg (ints r).toArray :: caps) H (fun v H' => v = .bool (step s r).1 ∧ Inv (step s r).2 H' ∧ H.next ≤ H'.next ∧ Sc H' ∧ ∀ i, b0 ≤ i → i < H.next → H'.row i = H.row i)
theorem put_c {σ : Type} {n : Nat} {M : List (List Int)} {mv : Value} {g : FuncId} {caps : List Value} {b0 : Nat} {Inv : σ → AH → Prop} {step : σ → List Int → Bool × σ} (hC : CallOk n M mv g caps b0 Inv step)
    (nc ni wc mc pc : Nat) (hb : b0 ≤ nc ∧ b0 ≤ ni ∧ b0 ≤ wc ∧ b0 ≤ mc ∧ b0 ≤ pc) (hne : nc ≠ ni ∧ wc ≠ ni ∧ mc ≠ ni ∧ pc ≠ ni) (hone : mv.oneCell' = true) :
    ∀ (f : Nat) (now : List Int) (a : Nat) (s : σ) (H : AH), NowOk n now → a ≤ n → n - a < f → Inv s H → Sc H → H.row ni = some ⟨69, true, ints now⟩ → H.row nc = some ⟨2, true, [.int .i64 n]⟩ → H.row mc = some ⟨30, true, [mv]⟩ →
      H.row wc = some ⟨141, true, [.func (.func g) #[] caps.toArray]⟩ → H.row pc = some ⟨116, true, [.func (.func 267) #[] #[.pointer (some ⟨nc, 0, none⟩), .pointer (some ⟨ni, 0, none⟩), .pointer (some ⟨wc, 0, none⟩), .pointer (some ⟨mc, 0, none⟩), .pointer (some ⟨pc, 0, none⟩)]]⟩ →
      ACalls Tryz.prog 267 [.int .i64 a, .pointer (some ⟨nc, 0, none⟩), .pointer (some ⟨ni, 0, none⟩), .pointer (some ⟨wc, 0, none⟩), .pointer (some ⟨mc, 0, none⟩), .pointer (some ⟨pc, 0, none⟩)] H (fun v H' => v = .bool (foldE step (matF n (mtM M) f now a) s).1 ∧ Inv (foldE step (matF n (mtM M) f now a) s).2 H' ∧ H.next ≤ H'.next ∧ Sc H' ∧ (∀ i, b0 ≤ i → i < H.next → i ≠ ni → H'.row i = H.row i) ∧ ((foldE step (matF n (mtM M) f now a) s).1 = true → H'.row ni = H.row ni)) := by
  intro f
  induction f with
  | zero => intro now a s H _ _ h; omega
  | succ f ih =>
    intro now a s H hnow han hf hI hs hni hnc hmc hwc hpc
    obtain ⟨b1, b2, b3, b4, b5⟩ := hb
    obtain ⟨d1, d2, d3, d4⟩ := hne
    have hn14 := hC.n14
    refine za3 [.tmp 7] Tryz.func267 (by kernel_rfl) rfl rfl (Nat.le_of_ble_eq_true rfl) (by kernel_rfl) ?_
    try simp (disch := first | omega | (simp only [L3] <;> omega)) only [Sall,evalOp,init,binA_s,binE,binI,unE,convE,okNil,builtE,gv,TD.isAgg,resV,↓reduceIte,Nat.reduceEqDiff,reduceCtorEq,Nat.reduceAdd,Nat.reduceMul,Nat.reduceLeDiff,za0,za1,Int.reduceEq,Int.reduceLT,Int.reduceLE,Nat.reduceLT,tiA,tiXA, true_and]
    refine za7 (fun z t H' => H' = H ∧ ∃ c : Nat, z = n - c ∧ c ≤ n ∧ t 0 = .int .i64 c ∧ fstF now (n - a) a = fstF now (n - c) c ∧ t 1 = .pointer (some ⟨nc, 0, none⟩) ∧ t 2 = .pointer (some ⟨ni, 0, none⟩) ∧ t 3 = .pointer (some ⟨wc, 0, none⟩) ∧ t 4 = .pointer (some ⟨mc, 0, none⟩) ∧ t 5 = .pointer (some ⟨pc, 0, none⟩)) (n - a) ?_ ?_
    · refine ⟨rfl, a, rfl, han, ?_⟩
      try simp (disch := first | omega | (simp only [L3] <;> omega)) only [Sall,evalOp,init,binA_s,binE,binI,unE,convE,okNil,builtE,gv,TD.isAgg,resV,↓reduceIte,Nat.reduceEqDiff,reduceCtorEq,Nat.reduceAdd,Nat.reduceMul,Nat.reduceLeDiff,za0,za1,Int.reduceEq,Int.reduceLT,Int.reduceLE,Nat.reduceLT,tiA,tiXA, true_and]
    · rintro z t H' ⟨rfl, c, hz, hcn, h0, hfst, h1, h2, h3, h4, h5⟩
      have hget := ints_get? now
      have hnl := hnow.1
      by_cases c1 : c < n
      · have c1' : decide ((c : Int) < (n : Int)) = true := decide_eq_true (by omega)
        by_cases c2 : now.getD c 0 = (c : Int)
        · have e2 : (now.getD c 0 != (c : Int)) = false := by rw [c2]; exact bne_self_eq_false _
          have hA : fstF now (n - a) a = c := hfst.trans (zi9 c1 c2)
          try simp (disch := first | omega | (simp only [L3] <;> omega)) only [Sall,evalOp,init,binA_s,binE,binI,unE,convE,okNil,builtE,gv,TD.isAgg,resV,↓reduceIte,Nat.reduceEqDiff,reduceCtorEq,Nat.reduceAdd,Nat.reduceMul,Nat.reduceLeDiff,za0,za1,Int.reduceEq,Int.reduceLT,Int.reduceLE,Nat.reduceLT,tiA,tiXA, h0, h1, hnc, c1', h2, hni, hget, hnl, e2]
          (repeat refine And.intro (by omega) ?_)
          have e3 : ((c : Int) == (n : Int)) = false := beq_eq_false_iff_ne.2 (by omega)
          try simp (disch := first | omega | (simp only [L3] <;> omega)) only [Sall,evalOp,init,binA_s,binE,binI,unE,convE,okNil,builtE,gv,TD.isAgg,resV,↓reduceIte,Nat.reduceEqDiff,reduceCtorEq,Nat.reduceAdd,Nat.reduceMul,Nat.reduceLeDiff,za0,za1,Int.reduceEq,Int.reduceLT,Int.reduceLE,Nat.reduceLT,tiA,tiXA, h0, h1, hnc, e3, h2, hni, hget, hnl, e2, w64]
          -- the second loop
          have hac := (zgQ now (n - a) a).1
          rw [hA] at hac
          have hm : matF n (mtM M) (f + 1) now a = (List.range' (c + 1) (n - (c + 1))).flatMap fun b => matB (matF n (mtM M) f) (mtM M) now c b := by
            show (if _ then _ else _) = _
            rw [hA, if_neg (by omega)]
          rw [hm]
          obtain ⟨F, hF⟩ : ∃ F, F = fun b => matB (matF n (mtM M) f) (mtM M) now c b := ⟨_, rfl⟩
          rw [← hF]
          refine za7 (fun z t H2 => ∃ (b : Nat) (s' : σ), z = n - b ∧ c + 1 ≤ b ∧ b ≤ n ∧ t 8 = .int .i64 b ∧ t 0 = .int .i64 c ∧ t 1 = .pointer (some ⟨nc, 0, none⟩) ∧ t 2 = .pointer (some ⟨ni, 0, none⟩) ∧ t 3 = .pointer (some ⟨wc, 0, none⟩) ∧ t 4 = .pointer (some ⟨mc, 0, none⟩) ∧ t 5 = .pointer (some ⟨pc, 0, none⟩) ∧
            foldE step ((List.range' (c + 1) (n - (c + 1))).flatMap F) s = foldE step ((List.range' b (n - b)).flatMap F) s' ∧ Inv s' H2 ∧ H'.next ≤ H2.next ∧ Sc H2 ∧ (∀ i, b0 ≤ i → i < H'.next → i ≠ ni → H2.row i = H'.row i) ∧ H2.row ni = H'.row ni) (n - (c + 1)) ?_ ?_
          · refine ⟨c + 1, s, rfl, Nat.le_refl _, by omega, ?_⟩
            try simp (disch := first | omega | (simp only [L3] <;> omega)) only [Sall,evalOp,init,binA_s,binE,binI,unE,convE,okNil,builtE,gv,TD.isAgg,resV,↓reduceIte,Nat.reduceEqDiff,reduceCtorEq,Nat.reduceAdd,Nat.reduceMul,Nat.reduceLeDiff,za0,za1,Int.reduceEq,Int.reduceLT,Int.reduceLE,Nat.reduceLT,tiA,tiXA, h0, h1, h2, h3, h4, h5]
            exact ⟨rfl, hI, hs⟩
          · rintro z t H2 ⟨b, s', hz, hcb, hbn, h8, h0, h1, h2, h3, h4, h5, hEq, hI2, hn2, hs2, hfr, hni2⟩
            rw [hEq]
            have knc := hfr nc b1 (hs _ _ hnc) d1
            have kmc := hfr mc b4 (hs _ _ hmc) d3
            have kwc := hfr wc b3 (hs _ _ hwc) d2
            have kpc := hfr pc b5 (hs _ _ hpc) d4
            rw [hnc] at knc
            rw [hmc] at kmc
            rw [hwc] at kwc
            rw [hpc] at kpc
            rw [hni] at hni2
            by_cases c3 : b < n
            · have c3' : decide ((b : Int) < (n : Int)) = true := decide_eq_true (by omega)
              rw [show n - b = (n - (b + 1)) + 1 by omega, List.range'_succ, List.flatMap_cons, zf5]
              have hFb : F b = matB (matF n (mtM M) f) (mtM M) now c b := by rw [hF]
              by_cases c4 : now.getD b 0 = (b : Int)
              · have e4 : (now.getD b 0 != (b : Int)) = false := by rw [c4]; exact bne_self_eq_false _
                obtain ⟨mi, mo, mu, mcc, mr, mx, mm, rfl, mr1, mr2, mr3, mr4⟩ := (hC.met s' H2 hI2).get (j := c) (by rw [hC.ml]; omega)
                have hmm := mr3.lenK1
                rw [hC.mr c (by omega)] at hmm
                obtain ⟨qi, qo, qu, qc, qr, rfl, q1, q2, q3, q4⟩ := mr3.get (by omega)
                have hml := hC.ml
                have q3b := q3 b (by omega)
                have gmr : ((c : Int)).toNat = c := rfl
                by_cases c5 : 0 < (M.getD c []).getD b 0
                · have e5 : decide (0 < (M.getD c []).getD b 0) = true := decide_eq_true c5
                  have hF0 : F b = [] := by rw [hFb]; unfold matB; rw [if_pos (.inr e5)]
                  rw [hF0, show foldE step ([] : List (List Int)) s' = (true, s') from rfl, if_pos rfl]
                  try simp (disch := first | omega | (simp only [L3] <;> omega)) only [Sall,evalOp,init,binA_s,binE,binI,unE,convE,okNil,builtE,gv,TD.isAgg,resV,↓reduceIte,Nat.reduceEqDiff,reduceCtorEq,Nat.reduceAdd,Nat.reduceMul,Nat.reduceLeDiff,za0,za1,Int.reduceEq,Int.reduceLT,Int.reduceLE,Nat.reduceLT,tiA,tiXA, h8, h1, knc, c3', h2, hni2, hget, hnl, e4, h4, kmc, h0, mr1, mr2, mr4, q1, q3b, e5, hml]
                  (repeat refine And.intro (by omega) ?_)
                  try simp (disch := first | omega | (simp only [L3] <;> omega)) only [Sall,evalOp,init,binA_s,binE,binI,unE,convE,okNil,builtE,gv,TD.isAgg,resV,↓reduceIte,Nat.reduceEqDiff,reduceCtorEq,Nat.reduceAdd,Nat.reduceMul,Nat.reduceLeDiff,za0,za1,Int.reduceEq,Int.reduceLT,Int.reduceLE,Nat.reduceLT,tiA,tiXA, h8, h1, knc, c3', h2, h3, h5, hni2, hget, hnl, e4, h4, kmc, h0, mr1, mr2, mr4, q1, q3b, e5, hml, w64]
                  exact ⟨n - (b + 1), by omega, b + 1, s', rfl, by omega, by omega, rfl, rfl, hI2, hn2, hs2, hfr, hni.symm⟩
                · have e5 : decide (0 < (M.getD c []).getD b 0) = false := decide_eq_false c5
                  have hF0 : F b = matF n (mtM M) f (meetN now c b) (c + 1) := by
                    rw [hFb]; unfold matB
                    rw [if_neg (fun h => h.elim (fun h => h c4) (fun h => by unfold mtM at h; rw [e5] at h; cases h))]
                  rw [hF0]
                  try simp (disch := first | omega | (simp only [L3] <;> omega)) only [Sall,evalOp,init,binA_s,binE,binI,unE,convE,okNil,builtE,gv,TD.isAgg,resV,↓reduceIte,Nat.reduceEqDiff,reduceCtorEq,Nat.reduceAdd,Nat.reduceMul,Nat.reduceLeDiff,za0,za1,Int.reduceEq,Int.reduceLT,Int.reduceLE,Nat.reduceLT,tiA,tiXA, h8, h1, knc, c3', h2, hni2, hget, hnl, e4, h4, kmc, h0, mr1, mr2, mr4, q1, q3b, e5, hml]
                  (repeat refine And.intro (by omega) ?_)
                  try simp (disch := first | omega | (simp only [L3] <;> omega)) only [Sall,evalOp,init,binA_s,binE,binI,unE,convE,okNil,builtE,gv,TD.isAgg,resV,↓reduceIte,Nat.reduceEqDiff,reduceCtorEq,Nat.reduceAdd,Nat.reduceMul,Nat.reduceLeDiff,za0,za1,Int.reduceEq,Int.reduceLT,Int.reduceLE,Nat.reduceLT,tiA,tiXA, h8, h1, knc, c3', h2, hni2, hget, hnl, e4, h4, kmc, h0, mr1, mr2, mr4, q1, q3b, e5, hml]
                  refine (meet_c ni 69 c b now H2 hni2 hnl ⟨by omega, by omega⟩ ⟨by omega, by omega⟩).to ?_
                  obtain ⟨H3, e3⟩ : ∃ H3, H3 = H2.setCells ni (ints ((now.set (c : Int).toNat (b : Int)).set (b : Int).toNat (c : Int))) := ⟨_, rfl⟩
                  have k3 : H3.row ni = some ⟨69, true, ints (meetN now c b)⟩ := by rw [e3, AH.setCells_row, if_pos rfl, hni2]; rfl
                  have r3 : ∀ j, j ≠ ni → H3.row j = H2.row j := fun j hj => by rw [e3, AH.setCells_row, if_neg hj]
                  have n3 : H3.next = H2.next := by rw [e3]; rfl
                  have s3 : Sc H3 := by rw [e3]; exact hs2.set _ _
                  rw [← e3]
                  clear e3
                  have kpc3 := r3 pc d4
                  rw [kpc] at kpc3
                  try simp (disch := first | omega | (simp only [L3] <;> omega)) only [Sall,evalOp,init,binA_s,binE,binI,unE,convE,okNil,builtE,gv,TD.isAgg,resV,↓reduceIte,Nat.reduceEqDiff,reduceCtorEq,Nat.reduceAdd,Nat.reduceMul,Nat.reduceLeDiff,za0,za1,Int.reduceEq,Int.reduceLT,Int.reduceLE,Nat.reduceLT,tiA,tiXA, h0, h5, kpc3, w64]
                  refine (ih (meetN now c b) (c + 1) s' H3 (hnow.meet hn14 c1 c3) (by omega) (by omega) (hC.low _ _ _ hI2 fun i hi => r3 i (by omega)) s3 k3 (by rw [r3 nc d1]; exact knc) (by rw [r3 mc d3]; exact kmc) (by rw [r3 wc d2]; exact kwc) kpc3).fin ?_
                  rintro H4 ⟨i1, i2, i3, i4, i5⟩
                  revert i1 i5
                  generalize foldE step (matF n (mtM M) f (meetN now c b) (c + 1)) s' = R
                  intro i1 i5
                  obtain ⟨rb, s''⟩ := R
                  have fr4 : ∀ i, b0 ≤ i → i < H'.next → i ≠ ni → H4.row i = H'.row i := fun i j1 j2 j3 => by rw [i4 i j1 (by omega) j3, r3 i j3, hfr i j1 j2 j3]
                  obtain hrb | hrb : rb = true ∨ rb = false := by cases rb <;> simp
                  · subst hrb
                    have k4 := i5 rfl
                    rw [k3] at k4
                    have ml4 : (meetN now c b).length = 14 := by rw [zc6, hnl]
                    have mb4 := meetN_back hnl (show c < 14 by omega) (show b < 14 by omega) c2 c4
                    have ml5 : ((meetN now c b).set c (c : Int)).length = 14 := by rw [List.length_set, ml4]
                    try simp (disch := first | omega | (simp only [L3] <;> omega)) only [Sall,evalOp,init,binA_s,binE,binI,unE,convE,okNil,builtE,gv,TD.isAgg,resV,↓reduceIte,Nat.reduceEqDiff,reduceCtorEq,Nat.reduceAdd,Nat.reduceMul,Nat.reduceLeDiff,za0,za1,Int.reduceEq,Int.reduceLT,Int.reduceLE,Nat.reduceLT,tiA,tiXA, h0, h8, h1, h2, h3, h4, h5, k4, ml4, ml5, zaH, AH.setCells_setCells, mb4, w64]
                    (repeat refine And.intro (by omega) ?_)
                    try simp (disch := first | omega | (simp only [L3] <;> omega)) only [Sall,evalOp,init,binA_s,binE,binI,unE,convE,okNil,builtE,gv,TD.isAgg,resV,↓reduceIte,Nat.reduceEqDiff,reduceCtorEq,Nat.reduceAdd,Nat.reduceMul,Nat.reduceLeDiff,za0,za1,Int.reduceEq,Int.reduceLT,Int.reduceLE,Nat.reduceLT,tiA,tiXA, h0, h8, h1, h2, h3, h4, h5, k4, ml4, ml5, zaH, AH.setCells_setCells, mb4, w64]
                    exact ⟨n - (b + 1), by omega, b + 1, s'', rfl, by omega, by omega, rfl, rfl, hC.low _ _ _ i1 (fun i hi => by rw [AH.setCells_row, if_neg (by omega)]), by omega, i3.set _ _, fun i j1 j2 j3 => by rw [if_neg j3]; exact fr4 i j1 j2 j3, hni.symm⟩
                  · subst hrb
                    try simp (disch := first | omega | (simp only [L3] <;> omega)) only [Sall,evalOp,init,binA_s,binE,binI,unE,convE,okNil,builtE,gv,TD.isAgg,resV,↓reduceIte,Nat.reduceEqDiff,reduceCtorEq,Nat.reduceAdd,Nat.reduceMul,Nat.reduceLeDiff,za0,za1,Int.reduceEq,Int.reduceLT,Int.reduceLE,Nat.reduceLT,tiA,tiXA, h0, h8]
                    exact ⟨i1, by omega, i3, fr4, fun h => h.elim⟩
              · have e4 : (now.getD b 0 != (b : Int)) = true := by simpa using c4
                have hF0 : F b = [] := by rw [hFb]; unfold matB; rw [if_pos (.inl c4)]
                rw [hF0, show foldE step ([] : List (List Int)) s' = (true, s') from rfl, if_pos rfl]
                try simp (disch := first | omega | (simp only [L3] <;> omega)) only [Sall,evalOp,init,binA_s,binE,binI,unE,convE,okNil,builtE,gv,TD.isAgg,resV,↓reduceIte,Nat.reduceEqDiff,reduceCtorEq,Nat.reduceAdd,Nat.reduceMul,Nat.reduceLeDiff,za0,za1,Int.reduceEq,Int.reduceLT,Int.reduceLE,Nat.reduceLT,tiA,tiXA, h8, h1, knc, c3', h2, hni2, hget, hnl, e4, h0]
                (repeat refine And.intro (by omega) ?_)
                try simp (disch := first | omega | (simp only [L3] <;> omega)) only [Sall,evalOp,init,binA_s,binE,binI,unE,convE,okNil,builtE,gv,TD.isAgg,resV,↓reduceIte,Nat.reduceEqDiff,reduceCtorEq,Nat.reduceAdd,Nat.reduceMul,Nat.reduceLeDiff,za0,za1,Int.reduceEq,Int.reduceLT,Int.reduceLE,Nat.reduceLT,tiA,tiXA, h8, h1, knc, c3', h2, h3, h4, h5, hni2, hget, hnl, e4, h0, w64]
                exact ⟨n - (b + 1), by omega, b + 1, s', rfl, by omega, by omega, rfl, rfl, hI2, hn2, hs2, hfr, hni.symm⟩
            · have c3' : decide ((b : Int) < (n : Int)) = false := decide_eq_false (by omega)
              rw [show n - b = 0 by omega, List.range'_zero, List.flatMap_nil, show foldE step ([] : List (List Int)) s' = (true, s') from rfl]
              try simp (disch := first | omega | (simp only [L3] <;> omega)) only [Sall,evalOp,init,binA_s,binE,binI,unE,convE,okNil,builtE,gv,TD.isAgg,resV,↓reduceIte,Nat.reduceEqDiff,reduceCtorEq,Nat.reduceAdd,Nat.reduceMul,Nat.reduceLeDiff,za0,za1,Int.reduceEq,Int.reduceLT,Int.reduceLE,Nat.reduceLT,tiA,tiXA, h8, h1, knc, c3']
              exact ⟨hI2, hn2, hs2, hfr, fun _ => by rw [hni2, hni]⟩
        · have e2 : (now.getD c 0 != (c : Int)) = true := by simpa using c2
          try simp (disch := first | omega | (simp only [L3] <;> omega)) only [Sall,evalOp,init,binA_s,binE,binI,unE,convE,okNil,builtE,gv,TD.isAgg,resV,↓reduceIte,Nat.reduceEqDiff,reduceCtorEq,Nat.reduceAdd,Nat.reduceMul,Nat.reduceLeDiff,za0,za1,Int.reduceEq,Int.reduceLT,Int.reduceLE,Nat.reduceLT,tiA,tiXA, h0, h1, hnc, c1', h2, hni, hget, hnl, e2]
          (repeat refine And.intro (by omega) ?_)
          try simp (disch := first | omega | (simp only [L3] <;> omega)) only [Sall,evalOp,init,binA_s,binE,binI,unE,convE,okNil,builtE,gv,TD.isAgg,resV,↓reduceIte,Nat.reduceEqDiff,reduceCtorEq,Nat.reduceAdd,Nat.reduceMul,Nat.reduceLeDiff,za0,za1,Int.reduceEq,Int.reduceLT,Int.reduceLE,Nat.reduceLT,tiA,tiXA, h0, h1, h2, h3, h4, h5, w64]
          exact ⟨n - (c + 1), by omega, c + 1, rfl, by omega, rfl, hfst.trans (zgB c1 c2)⟩
      · have hce : c = n := by omega
        subst hce
        have c1' : decide ((c : Int) < (c : Int)) = false := decide_eq_false (by omega)
        have e3 : ((c : Int) == (c : Int)) = true := beq_self_eq_true _
        have hm : matF c (mtM M) (f + 1) now a = [now] := by
          show (if _ then _ else _) = _
          rw [hfst, fstF_end, if_pos rfl]
        rw [hm, foldE_one]
        try simp (disch := first | omega | (simp only [L3] <;> omega)) only [Sall,evalOp,init,binA_s,binE,binI,unE,convE,okNil,builtE,gv,TD.isAgg,resV,↓reduceIte,Nat.reduceEqDiff,reduceCtorEq,Nat.reduceAdd,Nat.reduceMul,Nat.reduceLeDiff,za0,za1,Int.reduceEq,Int.reduceLT,Int.reduceLE,Nat.reduceLT,tiA,tiXA, h0, h1, hnc, c1', e3, h3, hwc, h2, hni, hnl]
        refine (hC.call s now H' hI (by have := hs _ _ hnc; omega) hs hnow).fin ?_
        rintro H4 ⟨i1, i2, i3, i4⟩
        try simp (disch := first | omega | (simp only [L3] <;> omega)) only [Sall,evalOp,init,binA_s,binE,binI,unE,convE,okNil,builtE,gv,TD.isAgg,resV,↓reduceIte,Nat.reduceEqDiff,reduceCtorEq,Nat.reduceAdd,Nat.reduceMul,Nat.reduceLeDiff,za0,za1,Int.reduceEq,Int.reduceLT,Int.reduceLE,Nat.reduceLT,tiA,tiXA, h0]
        exact ⟨i1, i2, i3, fun i j1 j2 _ => i4 i j1 j2, fun _ => i4 ni b2 (hs _ _ hni)⟩
theorem rounds_c {σ : Type} {n : Nat} {M : List (List Int)} {mv : Value} {g : FuncId} {caps : List Value} {Inv : σ → AH → Prop} {step : σ → List Int → Bool × σ} (s : σ) (H : AH) (hC : CallOk n M mv g caps H.next Inv step) (hI : Inv s H) (hone : mv.oneCell' = true) :
    ACalls Tryz.prog 168 [.int .i64 n, mv, .func (.func g) #[] caps.toArray] H (fun v H' => v = .bool (foldE step (matF n (mtM M) (n + 1) (freeL n) 0) s).1 ∧ Inv (foldE step (matF n (mtM M) (n + 1) (freeL n) 0) s).2 H' ∧ H.next ≤ H'.next ∧ Sc H') := by
  refine ACalls.wf (by kernel_rfl) fun hs => za3 [.tmp 6] Tryz.func168 (by kernel_rfl) rfl rfl (Nat.le_of_ble_eq_true rfl) (by kernel_rfl) ?_
  have hn14 := hC.n14
  have hac := zfE hone
  have hput := put_c hC H.next (H.next + 3) (H.next + 2) (H.next + 1) (H.next + 4) ⟨by omega, by omega, by omega, by omega, by omega⟩ ⟨by omega, by omega, by omega, by omega⟩ hone (n + 1) (freeL n) 0 s
  have hnow : NowOk n (freeL n) := ⟨zaD n, fun j hj => by
    have : (freeL (n : Int)).getD j 0 = (j : Int) := by
      unfold freeL
      rw [List.getD_eq_getElem?_getD, List.getElem?_map, List.getElem?_range (by omega)]
      show (if (j : Int) < (n : Int) then (j : Int) else 0) = j
      rw [if_pos (by omega)]
    omega⟩
  have hfl := zaD (n : Int)
  have hfree := free_c (n : Int) (by omega)
  revert hput hnow hfl hfree
  generalize foldE step (matF n (mtM M) (n + 1) (freeL n) 0) s = R
  generalize freeL (n : Int) = L0
  intro hput hnow hfl hfree
  try simp (disch := first | omega | (simp only [L3] <;> omega)) only [Sall,evalOp,init,binA_s,binE,binI,unE,convE,okNil,builtE,gv,TD.isAgg,resV,↓reduceIte,Nat.reduceEqDiff,reduceCtorEq,Nat.reduceAdd,Nat.reduceMul,Nat.reduceLeDiff,za0,za1,Int.reduceEq,Int.reduceLT,Int.reduceLE,Nat.reduceLT,tiA,tiXA, hone, hac]
  have o1 := (((Ow.refl hs).push ⟨2, true, [.int .i64 n]⟩).push ⟨30, true, [mv]⟩).push ⟨141, true, [.func (.func g) #[] caps.toArray]⟩
  obtain ⟨H1, e1⟩ : ∃ H1, H1 = ((H.push ⟨2, true, [.int .i64 n]⟩).push ⟨30, true, [mv]⟩).push ⟨141, true, [.func (.func g) #[] caps.toArray]⟩ := ⟨_, rfl⟩
  have n1 : H1.next = H.next + 3 := by rw [e1]; rfl
  rw [← e1] at o1 ⊢
  clear e1
  refine (hfree H1).to ?_
  have hseg : seg (ints L0) 0 14 = ints L0 := zh2 _ hfl
  refine Holds.mp ?_
  have e22 : H.next + 2 + 2 = H.next + 4 := rfl
  have hmem : ∀ v ∈ [Value.pointer (some ⟨H.next, 0, none⟩), .pointer (some ⟨H.next + 3, 0, none⟩), .pointer (some ⟨H.next + 2, 0, none⟩), .pointer (some ⟨H.next + 1, 0, none⟩), .pointer (some ⟨H.next + 4, 0, none⟩)], v.oneCell' = true := by simp [Value.oneCell']
  try simp (disch := first | omega | (simp only [L3] <;> omega)) only [Sall,evalOp,init,binA_s,binE,binI,unE,convE,okNil,builtE,gv,TD.isAgg,resV,↓reduceIte,Nat.reduceEqDiff,reduceCtorEq,Nat.reduceAdd,Nat.reduceMul,Nat.reduceLeDiff,za0,za1,Int.reduceEq,Int.reduceLT,Int.reduceLE,Nat.reduceLT,tiA,tiXA, hfl, hseg, n1, e22]
  refine ⟨hmem, ?_⟩
  obtain ⟨H2, e2⟩ : ∃ H2, H2 = ((((H1.push ⟨69, true, ints (List.replicate 14 0)⟩).setCells (H.next + 3) (ints L0)).push ⟨116, true, [.nilFunc]⟩).setCells (H.next + 4) [.func (.func 267) #[] #[.pointer (some ⟨H.next, 0, none⟩), .pointer (some ⟨H.next + 3, 0, none⟩), .pointer (some ⟨H.next + 2, 0, none⟩), .pointer (some ⟨H.next + 1, 0, none⟩), .pointer (some ⟨H.next + 4, 0, none⟩)]]) := ⟨_, rfl⟩
  have q0 : ∀ i, i < H.next + 3 → H2.row i = H1.row i := fun i hi => by
    rw [e2]; simp only [AH.setCells_row, AH.push_row, AH.push_next, AH.setCells_next, n1]
    rw [if_neg (by omega), if_neg (by omega), if_neg (by omega), if_neg (by omega)]
  have q1 : H2.row (H.next + 3) = some ⟨69, true, ints L0⟩ := by
    rw [e2]; simp only [AH.setCells_row, AH.push_row, AH.push_next, AH.setCells_next, n1]
    rw [if_neg (by omega), if_neg (by omega), if_true, if_true]; rfl
  have q2 : H2.row (H.next + 4) = some ⟨116, true, [.func (.func 267) #[] #[.pointer (some ⟨H.next, 0, none⟩), .pointer (some ⟨H.next + 3, 0, none⟩), .pointer (some ⟨H.next + 2, 0, none⟩), .pointer (some ⟨H.next + 1, 0, none⟩), .pointer (some ⟨H.next + 4, 0, none⟩)]]⟩ := by
    rw [e2]; simp only [AH.setCells_row, AH.push_row, AH.push_next, AH.setCells_next, n1, e22]
    rfl
  have n2 : H2.next = H.next + 5 := by rw [e2]; simp only [AH.setCells_next, AH.push_next, n1]
  have s2 : Sc H2 := by rw [e2]; exact (((o1.sc.push _).set _ _).push _).set _ _
  rw [← e2]
  clear e2
  have g0 := (o1.rowAt 0 rfl).1
  have g1 : H1.row (H.next + 1) = _ := (o1.rowAt 1 rfl).1
  have g2 : H1.row (H.next + 2) = _ := (o1.rowAt 2 rfl).1
  refine (hput H2 hnow (by omega) (by omega) (hC.low _ _ _ hI fun i hi => by rw [q0 i (by omega), o1.low i hi]) s2 q1 (by rw [q0 _ (by omega)]; exact g0) (by rw [q0 _ (by omega)]; exact g1) (by rw [q0 _ (by omega)]; exact g2) q2).fin ?_
  rintro H3 ⟨i1, i2, i3, i4, i5⟩
  refine Holds.mp ?_
  try simp (disch := first | omega | (simp only [L3] <;> omega)) only [Sall,evalOp,init,binA_s,binE,binI,unE,convE,okNil,builtE,gv,TD.isAgg,resV,↓reduceIte,Nat.reduceEqDiff,reduceCtorEq,Nat.reduceAdd,Nat.reduceMul,Nat.reduceLeDiff,za0,za1,Int.reduceEq,Int.reduceLT,Int.reduceLE,Nat.reduceLT,tiA,tiXA, true_and]
  exact ⟨i1, by omega, i3⟩
end Go.Proofs.YtpienljnoaendaaGreat.A
end

section
set_option maxRecDepth 100000
set_option maxHeartbeats 2000000
namespace Go.Proofs.YtpienljnoaendaaGreat.A
open Go Go.Abs Go.RowKit
theorem renumbered_c (n : Nat) (now R : List Int) (pv : Value) (H : AH) (hn : n ≤ 14) (hp : PermN n R) (hnow : NowOk n now) (hR : Rd 1 H pv n R) :
    ACalls Tryz.prog 170 [.agg (ints now).toArray, .int .i64 n, pv] H (is (.agg (ints (renF R now n)).toArray) H) := by
  refine zaZ (zd9 _) (ACalls.wf (by kernel_rfl) fun hs => za3 [.cell 6 69] Tryz.func170 (by kernel_rfl) rfl rfl (Nat.le_of_ble_eq_true rfl) (by kernel_rfl) ?_)
  have hnl := hnow.1
  try simp (disch := first | omega | (simp only [L3] <;> omega)) only [Sall,evalOp,init,binA_s,binE,binI,unE,convE,okNil,builtE,gv,TD.isAgg,resV,↓reduceIte,Nat.reduceEqDiff,reduceCtorEq,Nat.reduceAdd,Nat.reduceMul,Nat.reduceLeDiff,za0,za1,Int.reduceEq,Int.reduceLT,Int.reduceLE,Nat.reduceLT,tiA,tiXA, hnl]
  have o1 := ((((Ow.refl hs).push ⟨69, true, ints now⟩).push ⟨69, true, ints (List.replicate 14 0)⟩).push ⟨69, true, ints (List.replicate 14 0)⟩).putRow 2 rfl (cs' := ints (List.replicate 14 0))
  refine za7 (fun z t H' => ∃ c : Nat, z = n - c ∧ c ≤ n ∧ t 11 = .int .i64 c ∧ t 10 = .int .i64 n ∧ t 2 = pv ∧ t 3 = .pointer (some ⟨H.next, 0, none⟩) ∧ t 6 = .pointer (some ⟨H.next + 1, 0, none⟩) ∧ t 7 = .pointer (some ⟨H.next + 2, 0, none⟩) ∧
    Ow H H' [.row H.next ⟨69, true, ints now⟩, .row (H.next + 1) ⟨69, true, ints (List.replicate 14 0)⟩, .row (H.next + 2) ⟨69, true, ints (renF R now c)⟩]) n ?_ ?_
  · refine ⟨0, by omega, by omega, ?_⟩
    try simp (disch := first | omega | (simp only [L3] <;> omega)) only [Sall,evalOp,init,binA_s,binE,binI,unE,convE,okNil,builtE,gv,TD.isAgg,resV,↓reduceIte,Nat.reduceEqDiff,reduceCtorEq,Nat.reduceAdd,Nat.reduceMul,Nat.reduceLeDiff,za0,za1,Int.reduceEq,Int.reduceLT,Int.reduceLE,Nat.reduceLT,tiA,tiXA, Int.natCast_zero]
    exact o1
  · rintro z t H' ⟨c, hz, hcn, h11, h10, h2, h3, h6, h7, o2⟩
    have g0 := (o2.rowAt 0 rfl).1
    have g1 := (o2.rowAt 1 rfl).1
    have g2 := (o2.rowAt 2 rfl).1
    have hrl := zb2 R now c
    try simp (disch := first | omega | (simp only [L3] <;> omega)) only [Sall,evalOp,init,binA_s,binE,binI,unE,convE,okNil,builtE,gv,TD.isAgg,resV,↓reduceIte,Nat.reduceEqDiff,reduceCtorEq,Nat.reduceAdd,Nat.reduceMul,Nat.reduceLeDiff,za0,za1,Int.reduceEq,Int.reduceLT,Int.reduceLE,Nat.reduceLT,tiA,tiXA, h11, h10]
    refine za6 (fun hh => ?_) (fun hh => ?_)
    · have hR' := hR.same (o2.old hs)
      obtain ⟨qi, qo, qu, qc, qr, ev, q1, q2, q3, q4⟩ := hR'.get (by omega)
      have hx := hnow.2 c (by omega)
      have hrc := hp.rng c (by omega)
      have k1 := q3 c (by omega)
      have k2 := q3 (now.getD c 0).toNat (by omega)
      have k3 := ints_get? now c (by omega)
      try simp (disch := first | omega | (simp only [L3] <;> omega)) only [Sall,evalOp,init,binA_s,binE,binI,unE,convE,okNil,builtE,gv,TD.isAgg,resV,↓reduceIte,Nat.reduceEqDiff,reduceCtorEq,Nat.reduceAdd,Nat.reduceMul,Nat.reduceLeDiff,za0,za1,Int.reduceEq,Int.reduceLT,Int.reduceLE,Nat.reduceLT,tiA,tiXA, h11, h3, h2, h7]
      refine zaR (by kernel_rfl) (by kernel_rfl) ?_
      try simp (disch := first | omega | (simp only [L3] <;> omega)) only [Sall,evalOp,init,binA_s,binE,binI,unE,convE,okNil,builtE,gv,TD.isAgg,resV,↓reduceIte,Nat.reduceEqDiff,reduceCtorEq,Nat.reduceAdd,Nat.reduceMul,Nat.reduceLeDiff,za0,za1,Int.reduceEq,Int.reduceLT,Int.reduceLE,Nat.reduceLT,tiA,tiXA, h11, h3, h2, h7, ev, q1, k1, k2, k3, g0, g1, g2, hnl, hrl, zaH, w64]
      (repeat refine And.intro (by omega) ?_)
      try simp (disch := first | omega | (simp only [L3] <;> omega)) only [Sall,evalOp,init,binA_s,binE,binI,unE,convE,okNil,builtE,gv,TD.isAgg,resV,↓reduceIte,Nat.reduceEqDiff,reduceCtorEq,Nat.reduceAdd,Nat.reduceMul,Nat.reduceLeDiff,za0,za1,Int.reduceEq,Int.reduceLT,Int.reduceLE,Nat.reduceLT,tiA,tiXA, h11, h10, h3, h2, h6, h7, ev, q1, k1, k2, k3, g0, g1, g2, hnl, hrl, zaH, w64]
      have o3 := o2.putRow 2 rfl (cs' := ints (renF R now (c + 1)))
      exact ⟨.inr (.inl (by kernel_rfl)), n - (c + 1), by omega, c + 1, rfl, by omega, by omega, o3⟩
    · have hce : c = n := by omega
      subst hce
      have o3 := o2.putRow 1 rfl (cs' := ints (renF R now c))
      have hne := o2.ne (j := 1) (k := 2) rfl rfl (by omega) (fun S h => h.1) (fun S h => h.1)
      try simp (disch := first | omega | (simp only [L3] <;> omega)) only [Sall,evalOp,init,binA_s,binE,binI,unE,convE,okNil,builtE,gv,TD.isAgg,resV,↓reduceIte,Nat.reduceEqDiff,reduceCtorEq,Nat.reduceAdd,Nat.reduceMul,Nat.reduceLeDiff,za0,za1,Int.reduceEq,Int.reduceLT,Int.reduceLE,Nat.reduceLT,tiA,tiXA, h7, h6, g2, g1, hrl]
      exact o3.up
theorem nextIn_c (n : Nat) (v rv : Value) (now R l0 : List Int) (b0 : Bool) (sc rc oi fi : Nat) (H : AH) (hn : n ≤ 14) (hp : PermN n R) (hnow : NowOk n now) (hone : v.oneCell' = true) (hR : Rd 1 H rv n R) (hl0 : l0.length = 14)
    (hsc : H.row sc = some ⟨26, true, [.int .i64 n, v]⟩) (hrc : H.row rc = some ⟨33, true, [rv]⟩) (hoi : H.row oi = some ⟨69, true, ints l0⟩) (hfi : H.row fi = some ⟨4, true, [.bool b0]⟩) (hne : oi ≠ fi) :
    ACalls Tryz.prog 169 [.agg (ints now).toArray, .pointer (some ⟨sc, 0, none⟩), .pointer (some ⟨rc, 0, none⟩), .pointer (some ⟨oi, 0, none⟩), .pointer (some ⟨fi, 0, none⟩)] H (fun r H' => r = .bool false ∧ H.next ≤ H'.next ∧ Sc H' ∧ (∀ i, i < H.next → i ≠ oi → i ≠ fi → H'.row i = H.row i) ∧ H'.row oi = some ⟨69, true, ints (renF R now n)⟩ ∧ H'.row fi = some ⟨4, true, [.bool true]⟩) := by
  refine ACalls.wf (by kernel_rfl) fun hs => za3 [.tmp 6] Tryz.func169 (by kernel_rfl) rfl rfl (Nat.le_of_ble_eq_true rfl) (by kernel_rfl) ?_
  have hnl := hnow.1
  have hR1 := hR.one
  have e1 : ¬ sc = H.next := by have := hs _ _ hsc; omega
  have e2 : ¬ rc = H.next := by have := hs _ _ hrc; omega
  have e3 : ¬ oi = H.next := by have := hs _ _ hoi; omega
  have e4 : ¬ fi = H.next := by have := hs _ _ hfi; omega
  have e5 : ¬ fi = oi := Ne.symm hne
  try simp (disch := first | omega | (simp only [L3] <;> omega)) only [Sall,evalOp,init,binA_s,binE,binI,unE,convE,okNil,builtE,gv,TD.isAgg,resV,↓reduceIte,Nat.reduceEqDiff,reduceCtorEq,Nat.reduceAdd,Nat.reduceMul,Nat.reduceLeDiff,za0,za1,Int.reduceEq,Int.reduceLT,Int.reduceLE,Nat.reduceLT,tiA,tiXA, hnl, hsc, hrc, hR1, hone, e1, e2]
  refine (renumbered_c n now R rv _ hn hp hnow (hR.same (Sc.le hs _).row)).to ?_
  have hrl := zb2 R now n
  refine Holds.mp ?_
  try simp (disch := first | omega | (simp only [L3] <;> omega)) only [Sall,evalOp,init,binA_s,binE,binI,unE,convE,okNil,builtE,gv,TD.isAgg,resV,↓reduceIte,Nat.reduceEqDiff,reduceCtorEq,Nat.reduceAdd,Nat.reduceMul,Nat.reduceLeDiff,za0,za1,Int.reduceEq,Int.reduceLT,Int.reduceLE,Nat.reduceLT,tiA,tiXA, hrl, hl0, hoi, hfi, e3, e4, e5, hne]
  refine ⟨by omega, ((Sc.push hs _).set _ _).set _ _, fun i i1 i2 i3 => ?_⟩
  rw [if_neg i3, if_neg i2, if_neg (by omega)]
end Go.Proofs.YtpienljnoaendaaGreat.A
end

section
set_option maxRecDepth 100000
set_option maxHeartbeats 2000000
namespace Go.Proofs.YtpienljnoaendaaGreat.A
open Go Go.Abs Go.RowKit
def rB (M : List (List Int)) (i b : Nat) : List Bool := (List.range b).map fun j => mtM M i j
def mB (n : Nat) (M : List (List Int)) (a : Nat) : List (List Bool) := (List.range a).map fun i => rB M i n
theorem rB_succ (M : List (List Int)) (i b : Nat) : rB M i (b + 1) = rB M i b ++ [mtM M i b] := by simp [rB, List.range_succ]
theorem mB_succ (n : Nat) (M : List (List Int)) (a : Nat) : mB n M (a + 1) = mB n M a ++ [rB M a n] := by simp [mB, List.range_succ]
theorem rB_length (M : List (List Int)) (i b : Nat) : (rB M i b).length = b := by simp [rB]
theorem zhR (n : Nat) (M : List (List Int)) (a : Nat) : (mB n M a).length = a := by simp [mB]
theorem mB_get (n : Nat) (M : List (List Int)) {a i : Nat} (h : i < a) : (mB n M a).getD i [] = rB M i n := by simp [mB, List.getD_eq_getElem?_getD, h]
def RdB (H : AH) (v : Value) (n : Nat) (mt : Nat → Nat → Bool) : Prop :=
  ∃ i o u c r, v = .slice (some ⟨i, o, u⟩) n c ∧ H.row i = some r ∧ ∀ a, a < n → ∃ qi qo qu qc qr, r.cells[o + a]? = some (.slice (some ⟨qi, qo, qu⟩) n qc) ∧ H.row qi = some qr ∧ ∀ b, b < n → qr.cells[qo + b]? = some (.bool (mt a b))
theorem RdB.same {H H' : AH} {v : Value} {n : Nat} {mt : Nat → Nat → Bool} (h : RdB H v n mt) (hs : ∀ i r, H.row i = some r → H'.row i = some r) : RdB H' v n mt := by
  obtain ⟨i, o, u, c, r, hv, hr, ha⟩ := h
  refine ⟨i, o, u, c, r, hv, hs _ _ hr, fun a han => ?_⟩
  obtain ⟨qi, qo, qu, qc, qr, h1, h2, h3⟩ := ha a han
  exact ⟨qi, qo, qu, qc, qr, h1, hs _ _ h2, h3⟩
theorem RdB.one {H : AH} {v : Value} {n : Nat} {mt : Nat → Nat → Bool} (h : RdB H v n mt) : v.oneCell' = true := by
  obtain ⟨i, o, u, c, r, rfl, _⟩ := h; rfl
theorem Ow.rdB {B H : AH} {L : List Th} (h : Ow B H L) (k : Nat) {ty ty' : TypeId} {v : Value} {n : Nat} {M : List (List Int)} (hn : 0 < n) (hk : L[k]? = some (.sl2 Value.bool ty ty' v (mB n M n))) : RdB H v n (mtM M) := by
  have hl := zhR n M n
  obtain ⟨i, vs, x, _, _, hv, hr, hvl, _⟩ := h.get2 k hk (j := 0) (by omega)
  rw [hl] at hv hvl
  refine ⟨i, 0, some 1, n, _, hv, hr, fun a ha => ?_⟩
  obtain ⟨i', vs', x', _, _, hv', hr', _, hx, _, hq⟩ := h.get2 k hk (j := a) (by omega)
  rw [hl] at hv'
  rw [hv] at hv'
  cases hv'
  rw [hr] at hr'
  cases hr'
  rw [mB_get n M ha, rB_length] at hq
  obtain ⟨q, _, _, _, rfl, hqr⟩ := hq hn
  refine ⟨q, 0, some 1, n, _, by rw [Nat.zero_add]; exact hx, hqr, fun b hb => ?_⟩
  rw [Nat.zero_add]
  simp [rB, hb]
theorem l02Met_c (n : Nat) (v : Value) (k : Nat) (l : List Int) (H : AH) (hb : schedB n k l = true) (hv : Rd 14 H v k l) (hk : k ≤ 4294967296) :
    ACalls Tryz.prog 173 [.agg #[.int .i64 n, v]] H (fun u H' => Ow H H' [.sl2 Value.bool 89 4 u (mB n (meetM n l k) n)]) := by
  refine ACalls.wf (by kernel_rfl) fun hs => za3 [.tmp 2] Tryz.func173 (by kernel_rfl) rfl rfl (Nat.le_of_ble_eq_true rfl) (by kernel_rfl) ?_
  obtain ⟨hn, _, _⟩ := zaC hb
  have hone := hv.one
  try simp (disch := first | omega | (simp only [L3] <;> omega)) only [Sall,evalOp,init,binA_s,binE,binI,unE,convE,okNil,builtE,gv,TD.isAgg,resV,↓reduceIte,Nat.reduceEqDiff,reduceCtorEq,Nat.reduceAdd,Nat.reduceMul,Nat.reduceLeDiff,za0,za1,Int.reduceEq,Int.reduceLT,Int.reduceLE,Nat.reduceLT,tiA,tiXA, hone]
  have o1 := (Ow.refl hs).push ⟨26, true, [.int .i64 n, v]⟩
  revert o1
  generalize H.push ⟨26, true, [.int .i64 n, v]⟩ = H1
  intro o1
  have g0 := (o1.rowAt 0 rfl).1
  try simp (disch := first | omega | (simp only [L3] <;> omega)) only [Sall,evalOp,init,binA_s,binE,binI,unE,convE,okNil,builtE,gv,TD.isAgg,resV,↓reduceIte,Nat.reduceEqDiff,reduceCtorEq,Nat.reduceAdd,Nat.reduceMul,Nat.reduceLeDiff,za0,za1,Int.reduceEq,Int.reduceLT,Int.reduceLE,Nat.reduceLT,tiA,tiXA, hone, g0]
  refine (l01Meetings_c n v k l H1 hb (hv.same (o1.old hs)) hk).sc.mono ?_
  rintro tv H2 ⟨⟨up2, hf⟩, sc2⟩
  have o2 := o1.call (Ow.of_fr2 up2 sc2 hf)
  have htv := hf.rd.one
  have hsq := zh4 n l k
  have hml : (meetM n l k).length = n := hsq.1
  have hmr := hsq.2
  clear hf up2
  generalize meetM n l k = M at o2 hml hmr hsq ⊢
  refine Holds.mp ?_
  try simp (disch := first | omega | (simp only [L3] <;> omega)) only [Sall,evalOp,init,binA_s,binE,binI,unE,convE,okNil,builtE,gv,TD.isAgg,resV,↓reduceIte,Nat.reduceEqDiff,reduceCtorEq,Nat.reduceAdd,Nat.reduceMul,Nat.reduceLeDiff,za0,za1,Int.reduceEq,Int.reduceLT,Int.reduceLE,Nat.reduceLT,tiA,tiXA, htv, zaN]
  have o3 := o2.pushSl2 Value.bool 89 4
  refine za7 (fun z t H' => ∃ (a : Nat) (u : Value), z = n - a ∧ a ≤ n ∧ t 5 = .int .i64 a ∧ t 3 = tv ∧ t 4 = u ∧ Ow H H' [.row H.next ⟨26, true, [.int .i64 n, v]⟩, .sl2 (Value.int .i64) 33 2 tv M, .sl2 Value.bool 89 4 u (mB n M a)]) n ?_ ?_
  · refine ⟨0, .slice (some ⟨H2.next, 0, some 1⟩) 0 0, by omega, by omega, ?_⟩
    try simp (disch := first | omega | (simp only [L3] <;> omega)) only [Sall,evalOp,init,binA_s,binE,binI,unE,convE,okNil,builtE,gv,TD.isAgg,resV,↓reduceIte,Nat.reduceEqDiff,reduceCtorEq,Nat.reduceAdd,Nat.reduceMul,Nat.reduceLeDiff,za0,za1,Int.reduceEq,Int.reduceLT,Int.reduceLE,Nat.reduceLT,tiA,tiXA, Int.natCast_zero]
    exact o3
  · rintro z t H' ⟨a, u, hz, han, h5, h3, h4, o4⟩
    have hln := (o4.rd2 1 rfl).len
    try simp (disch := first | omega | (simp only [L3] <;> omega)) only [Sall,evalOp,init,binA_s,binE,binI,unE,convE,okNil,builtE,gv,TD.isAgg,resV,↓reduceIte,Nat.reduceEqDiff,reduceCtorEq,Nat.reduceAdd,Nat.reduceMul,Nat.reduceLeDiff,za0,za1,Int.reduceEq,Int.reduceLT,Int.reduceLE,Nat.reduceLT,tiA,tiXA, h5, h3, builtE, hln, hml]
    refine za6 (fun hh => ?_) (fun hh => ?_)
    · try simp (disch := first | omega | (simp only [L3] <;> omega)) only [Sall,evalOp,init,binA_s,binE,binI,unE,convE,okNil,builtE,gv,TD.isAgg,resV,↓reduceIte,Nat.reduceEqDiff,reduceCtorEq,Nat.reduceAdd,Nat.reduceMul,Nat.reduceLeDiff,za0,za1,Int.reduceEq,Int.reduceLT,Int.reduceLE,Nat.reduceLT,tiA,tiXA, h5, h3, h4, zaN]
      have o5 := o4.pushSl (k := 1) (n := 0) (ty := 4) (vs := bools (rB M a 0)) rfl
      refine za7 (fun z t H' => ∃ (b : Nat) (w : Value), z = n - b ∧ b ≤ n ∧ t 7 = .int .i64 b ∧ t 5 = .int .i64 a ∧ t 3 = tv ∧ t 4 = u ∧ t 6 = w ∧ Ow H H' [.row H.next ⟨26, true, [.int .i64 n, v]⟩, .sl2 (Value.int .i64) 33 2 tv M, .sl2 Value.bool 89 4 u (mB n M a), .sl 1 4 w b (bools (rB M a b))]) n ?_ ?_
      · refine ⟨0, .slice (some ⟨H'.next, 0, some 1⟩) 0 0, by omega, by omega, ?_⟩
        try simp (disch := first | omega | (simp only [L3] <;> omega)) only [Sall,evalOp,init,binA_s,binE,binI,unE,convE,okNil,builtE,gv,TD.isAgg,resV,↓reduceIte,Nat.reduceEqDiff,reduceCtorEq,Nat.reduceAdd,Nat.reduceMul,Nat.reduceLeDiff,za0,za1,Int.reduceEq,Int.reduceLT,Int.reduceLE,Nat.reduceLT,tiA,tiXA, Int.natCast_zero, h5, h3, h4]
        exact o5
      · rintro z t H5 ⟨b, w, hz, hbn, h7, h5, h3, h4, h6, o6⟩
        have hln := (o6.rd2 1 rfl).len
        try simp (disch := first | omega | (simp only [L3] <;> omega)) only [Sall,evalOp,init,binA_s,binE,binI,unE,convE,okNil,builtE,gv,TD.isAgg,resV,↓reduceIte,Nat.reduceEqDiff,reduceCtorEq,Nat.reduceAdd,Nat.reduceMul,Nat.reduceLeDiff,za0,za1,Int.reduceEq,Int.reduceLT,Int.reduceLE,Nat.reduceLT,tiA,tiXA, h7, h3, builtE, hln, hml]
        refine za6 (fun hh => ?_) (fun hh => ?_)
        · obtain ⟨i, vs, x, _, _, ev, hr, hvl, hx, hx1, hq⟩ := o6.get2 1 rfl (j := a) (by omega)
          rw [hml] at ev
          rw [hmr a (by omega)] at hq
          obtain ⟨q, _, _, hqi, rfl, hqr⟩ := hq (by omega)
          have hqr' : H5.row q = some ⟨2, true, ints (M.getD a [])⟩ := hqr
          have k1 := ints_get? (M.getD a []) b (by rw [hmr a (by omega)]; omega)
          have zz : zeros 1 [.bool false] = [.bool false] := rfl
          have en : ¬ q = H5.next := by omega
          try simp (disch := first | omega | (simp only [L3] <;> omega)) only [Sall,evalOp,init,binA_s,binE,binI,unE,convE,okNil,builtE,gv,TD.isAgg,resV,↓reduceIte,Nat.reduceEqDiff,reduceCtorEq,Nat.reduceAdd,Nat.reduceMul,Nat.reduceLeDiff,za0,za1,Int.reduceEq,Int.reduceLT,Int.reduceLE,Nat.reduceLT,tiA,tiXA, h7, h5, h3, h4, h6, ev, hr, hx, hqr', k1, zz, zaO, hvl]
          (repeat refine And.intro (by omega) ?_)
          try simp (disch := first | omega | (simp only [L3] <;> omega)) only [Sall,evalOp,init,binA_s,binE,binI,unE,convE,okNil,builtE,gv,TD.isAgg,resV,↓reduceIte,Nat.reduceEqDiff,reduceCtorEq,Nat.reduceAdd,Nat.reduceMul,Nat.reduceLeDiff,za0,za1,Int.reduceEq,Int.reduceLT,Int.reduceLE,Nat.reduceLT,tiA,tiXA, h7, h5, h3, h4, h6, ev, hr, hx, hqr', k1, zz, zaO, hvl]
          refine (o6.tmp ⟨4, true, [.bool (decide (0 < (M.getD a []).getD b 0))]⟩).app 3 rfl rfl (by omega) rfl (by omega) (by decide) (by omega) ?_
          intro v' H6 n6 o7
          try simp (disch := first | omega | (simp only [L3] <;> omega)) only [Sall,evalOp,init,binA_s,binE,binI,unE,convE,okNil,builtE,gv,TD.isAgg,resV,↓reduceIte,Nat.reduceEqDiff,reduceCtorEq,Nat.reduceAdd,Nat.reduceMul,Nat.reduceLeDiff,za0,za1,Int.reduceEq,Int.reduceLT,Int.reduceLE,Nat.reduceLT,tiA,tiXA, h7, h5, h3, h4, w64]
          exact ⟨n - (b + 1), by omega, b + 1, v', rfl, by omega, by omega, rfl, by rw [rB_succ, show bools (rB M a b ++ [mtM M a b]) = bools (rB M a b) ++ [.bool (mtM M a b)] by simp [bools]]; exact o7⟩
        · have hbe : b = n := by omega
          subst hbe
          have hw := o6.one 3 rfl
          have zz : zeros 1 [.slice none 0 0] = [.slice none 0 0] := rfl
          have hml2 := zhR b M a
          have hw1 := zbK hw
          have hw2 := zbB hw
          have hw3 := fun r => ok_one (r := r) hw
          try simp (disch := first | omega | (simp only [L3] <;> omega)) only [Sall,evalOp,init,binA_s,binE,binI,unE,convE,okNil,builtE,gv,TD.isAgg,resV,↓reduceIte,Nat.reduceEqDiff,reduceCtorEq,Nat.reduceAdd,Nat.reduceMul,Nat.reduceLeDiff,za0,za1,Int.reduceEq,Int.reduceLT,Int.reduceLE,Nat.reduceLT,tiA,tiXA, h5, h3, h4, h6, hw, hw1, hw2, hw3, zz, zaO]
          (repeat refine And.intro (by omega) ?_)
          refine (o6.tmp ⟨89, true, [w]⟩).app2 (l := rB M a b) 2 3 rfl rfl (by omega) rfl (by decide) (by omega) ?_
          intro v' H6 n6 o7
          try simp (disch := first | omega | (simp only [L3] <;> omega)) only [Sall,evalOp,init,binA_s,binE,binI,unE,convE,okNil,builtE,gv,TD.isAgg,resV,↓reduceIte,Nat.reduceEqDiff,reduceCtorEq,Nat.reduceAdd,Nat.reduceMul,Nat.reduceLeDiff,za0,za1,Int.reduceEq,Int.reduceLT,Int.reduceLE,Nat.reduceLT,tiA,tiXA, h5, h3, w64]
          have o8 : Ow H H6 ([.row H.next ⟨26, true, [.int .i64 b, v]⟩, .sl2 (Value.int .i64) 33 2 tv M, .sl2 Value.bool 89 4 v' (mB b M a ++ [rB M a b])] ++ [.no]) := o7
          exact ⟨b - (a + 1), by omega, a + 1, v', rfl, by omega, by omega, rfl, by rw [mB_succ]; exact o8.left⟩
    · have hae : a = n := by omega
      subst hae
      try simp (disch := first | omega | (simp only [L3] <;> omega)) only [Sall,evalOp,init,binA_s,binE,binI,unE,convE,okNil,builtE,gv,TD.isAgg,resV,↓reduceIte,Nat.reduceEqDiff,reduceCtorEq,Nat.reduceAdd,Nat.reduceMul,Nat.reduceLeDiff,za0,za1,Int.reduceEq,Int.reduceLT,Int.reduceLE,Nat.reduceLT,tiA,tiXA, h4]
      exact o4.sub (fun _ => 2) (fun j hj => by obtain rfl : j = 0 := by simp at hj; omega
                                                rfl) fun i j hi hj _ => by simp at hi hj; omega
theorem fstF_skip (now : List Int) (n : Nat) : ∀ a, a ≤ n → (∀ j, j < a → now.getD j 0 ≠ (j : Int)) → fstF now n 0 = fstF now (n - a) a
  | 0, _, _ => rfl
  | a + 1, h, hn => by rw [fstF_skip now n a (by omega) fun j hj => hn j (by omega), zgB (by omega) (hn a (by omega))]
def headR (n : Nat) (R : List Int) (ls : List (List Int)) : List Int := match ls.head? with | some r => renF R r n | none => List.replicate 14 0
def headB (ls : List (List Int)) : Bool := ls.head?.isSome
theorem zcR (n : Nat) (R : List Int) (ls : List (List Int)) : (headR n R ls).length = 14 := by
  unfold headR; split
  · exact zb2 _ _ _
  · rfl
theorem zfF {n : Nat} {R : List Int} {xs ys : List (List Int)} (h : xs.head? = ys.head?) : headR n R xs = headR n R ys ∧ headB xs = headB ys := by
  unfold headR headB; rw [h]; exact ⟨rfl, rfl⟩
theorem head_app (xs ys : List (List Int)) : (xs ++ ys).head? = if xs.head?.isSome = true then xs.head? else ys.head? := by
  cases xs <;> rfl
theorem l10Next_c (n : Nat) (hn : 0 < n ∧ n ≤ 14) (mt0 : Nat → Nat → Bool) (mv rv : Value) (R : List Int) (hp : PermN n R) :
    ∀ (f : Nat) (now : List Int) (a : Nat) (H : AH), NowOk n now → a ≤ n → (∀ j, j < a → now.getD j 0 ≠ (j : Int)) → n - a < f → RdB H mv n mt0 → Rd 1 H rv n R →
      ACalls Tryz.prog 172 [mv, rv, .agg (ints (renF R now n)).toArray] H (is (.tuple #[.agg (ints (headR n R (matF n (fun i k => mt0 (R.getD i 0).toNat (R.getD k 0).toNat) f now a))).toArray, .bool (headB (matF n (fun i k => mt0 (R.getD i 0).toNat (R.getD k 0).toNat) f now a))]) H) := by
  intro f
  induction f with
  | zero => intro now a H _ _ _ h; omega
  | succ f ih =>
    intro now a H hnow han hmet hf hM hR
    have hfl : flat (.tuple #[.agg (ints (headR n R (matF n (fun i k => mt0 (R.getD i 0).toNat (R.getD k 0).toNat) (f + 1) now a))).toArray, .bool (headB (matF n (fun i k => mt0 (R.getD i 0).toNat (R.getD k 0).toNat) (f + 1) now a))]) = true := by
      have := zd9 (headR n R (matF n (fun i k => mt0 (R.getD i 0).toNat (R.getD k 0).toNat) (f + 1) now a))
      simp only [flat, List.all_toArray, List.all_cons, List.all_nil, Bool.and_true, this, Abs.scal]
    refine zaZ hfl (ACalls.wf (by kernel_rfl) fun hs => za3 [.cell 6 69, .tmp 7] Tryz.func172 (by kernel_rfl) rfl rfl (Nat.le_of_ble_eq_true rfl) (by kernel_rfl) ?_)
    clear hfl
    have hrl := zb2 R now n
    have hRl := hR.len
    have hsk := fstF_skip now n a han hmet
    obtain ⟨mt, hmt⟩ : ∃ mt, mt = fun i k => mt0 (R.getD i 0).toNat (R.getD k 0).toNat := ⟨_, rfl⟩
    rw [← hmt] at ih ⊢
    obtain ⟨L0, hL0⟩ : ∃ L0, L0 = renF R now n := ⟨_, rfl⟩
    have hiff : ∀ j, j < n → (L0.getD (R.getD j 0).toNat 0 = R.getD j 0 ↔ now.getD j 0 = (j : Int)) := fun j hj => by rw [hL0]; exact ren_iff hn.2 hp hnow hj
    have hmeet : ∀ i k, i < n → k < n → i ≠ k → (L0.set (R.getD i 0).toNat (R.getD k 0)).set (R.getD k 0).toNat (R.getD i 0) = renF R (meetN now i k) n := fun i k hi hk hik => by rw [hL0]; exact ren_meet hn.2 hp hnow hi hk hik
    have hL0' : L0 = renF R now n := hL0
    rw [← hL0] at hrl ⊢
    clear hL0
    try simp (disch := first | omega | (simp only [L3] <;> omega)) only [Sall,evalOp,init,binA_s,binE,binI,unE,convE,okNil,builtE,gv,TD.isAgg,resV,↓reduceIte,Nat.reduceEqDiff,reduceCtorEq,Nat.reduceAdd,Nat.reduceMul,Nat.reduceLeDiff,za0,za1,Int.reduceEq,Int.reduceLT,Int.reduceLE,Nat.reduceLT,tiA,tiXA, hrl]
    have o1 := ((Ow.refl hs).push ⟨69, true, ints L0⟩).push ⟨69, true, ints (List.replicate 14 0)⟩
    refine za7 (fun z t H' => ∃ c : Nat, z = n - c ∧ c ≤ n ∧ t 8 = .int .i64 c ∧ t 0 = mv ∧ t 1 = rv ∧ t 5 = .pointer (some ⟨H.next, 0, none⟩) ∧ t 6 = .pointer (some ⟨H.next + 1, 0, none⟩) ∧ fstF now n 0 = fstF now (n - c) c ∧
      Ow H H' [.row H.next ⟨69, true, ints L0⟩, .row (H.next + 1) ⟨69, true, ints (List.replicate 14 0)⟩]) n ?_ ?_
    · refine ⟨0, by omega, by omega, ?_⟩
      try simp (disch := first | omega | (simp only [L3] <;> omega)) only [Sall,evalOp,init,binA_s,binE,binI,unE,convE,okNil,builtE,gv,TD.isAgg,resV,↓reduceIte,Nat.reduceEqDiff,reduceCtorEq,Nat.reduceAdd,Nat.reduceMul,Nat.reduceLeDiff,za0,za1,Int.reduceEq,Int.reduceLT,Int.reduceLE,Nat.reduceLT,tiA,tiXA, Int.natCast_zero]
      exact ⟨rfl, o1⟩
    · rintro z t H' ⟨c, hz, hcn, h8, h0, h1, h5, h6, hfst, o2⟩
      have g0 := (o2.rowAt 0 rfl).1
      have hR' := hR.same (o2.old hs)
      obtain ⟨qi, qo, qu, qc, qr, ev, q1, q2, q3, q4⟩ := hR'.get (by omega)
      by_cases c1 : c < n
      · have c1' : decide ((c : Int) < (n : Int)) = true := decide_eq_true (by omega)
        have e3 : ((c : Int) == (n : Int)) = false := beq_eq_false_iff_ne.2 (by omega)
        have hrc := hp.rng c c1
        have k1 := q3 c (by omega)
        have k2 := ints_get? L0 (R.getD c 0).toNat (by omega)
        by_cases c2 : now.getD c 0 = (c : Int)
        · have e2 : (L0.getD (R.getD c 0).toNat 0 != R.getD c 0) = false := by rw [(hiff c c1).2 c2]; exact bne_self_eq_false _
          have hA : fstF now (n - a) a = c := hsk.symm.trans (hfst.trans (zi9 c1 c2))
          have hac := (zgQ now (n - a) a).1
          rw [hA] at hac
          have hm : matF n mt (f + 1) now a = (List.range' (c + 1) (n - (c + 1))).flatMap fun b => matB (matF n mt f) mt now c b := by
            show (if _ then _ else _) = _
            rw [hA, if_neg (by omega)]
          rw [hm]
          obtain ⟨F, hF⟩ : ∃ F, F = fun b => matB (matF n mt f) mt now c b := ⟨_, rfl⟩
          rw [← hF]
          try simp (disch := first | omega | (simp only [L3] <;> omega)) only [Sall,evalOp,init,binA_s,binE,binI,unE,convE,okNil,builtE,gv,TD.isAgg,resV,↓reduceIte,Nat.reduceEqDiff,reduceCtorEq,Nat.reduceAdd,Nat.reduceMul,Nat.reduceLeDiff,za0,za1,Int.reduceEq,Int.reduceLT,Int.reduceLE,Nat.reduceLT,tiA,tiXA, h8, h1, builtE, hRl, c1', ev, q1, k1, h5, g0, k2, e2, hrl]
          refine zaR (by kernel_rfl) (by kernel_rfl) ?_
          try simp (disch := first | omega | (simp only [L3] <;> omega)) only [Sall,evalOp,init,binA_s,binE,binI,unE,convE,okNil,builtE,gv,TD.isAgg,resV,↓reduceIte,Nat.reduceEqDiff,reduceCtorEq,Nat.reduceAdd,Nat.reduceMul,Nat.reduceLeDiff,za0,za1,Int.reduceEq,Int.reduceLT,Int.reduceLE,Nat.reduceLT,tiA,tiXA, h8, h1, builtE, hRl, c1', ev, q1, k1, h5, g0, k2, e2, hrl]
          (repeat refine And.intro (by omega) ?_)
          try simp (disch := first | omega | (simp only [L3] <;> omega)) only [Sall,evalOp,init,binA_s,binE,binI,unE,convE,okNil,builtE,gv,TD.isAgg,resV,↓reduceIte,Nat.reduceEqDiff,reduceCtorEq,Nat.reduceAdd,Nat.reduceMul,Nat.reduceLeDiff,za0,za1,Int.reduceEq,Int.reduceLT,Int.reduceLE,Nat.reduceLT,tiA,tiXA, h8, h1, builtE, hRl, c1', e3, ev, q1, k1, h5, g0, k2, e2, hrl]
          refine ⟨⟨by omega, by omega⟩, ?_⟩
          refine za7 (fun z t H' => ∃ k : Nat, z = n - k ∧ c + 1 ≤ k ∧ k ≤ n ∧ t 10 = .int .i64 k ∧ t 9 = .int .i64 (R.getD c 0) ∧ t 0 = mv ∧ t 1 = rv ∧ t 5 = .pointer (some ⟨H.next, 0, none⟩) ∧ t 6 = .pointer (some ⟨H.next + 1, 0, none⟩) ∧
            ((List.range' (c + 1) (n - (c + 1))).flatMap F).head? = ((List.range' k (n - k)).flatMap F).head? ∧
            Ow H H' [.row H.next ⟨69, true, ints L0⟩, .row (H.next + 1) ⟨69, true, ints (List.replicate 14 0)⟩]) (n - (c + 1)) ?_ ?_
          · refine ⟨c + 1, by omega, by omega, by omega, ?_⟩
            try simp (disch := first | omega | (simp only [L3] <;> omega)) only [Sall,evalOp,init,binA_s,binE,binI,unE,convE,okNil,builtE,gv,TD.isAgg,resV,↓reduceIte,Nat.reduceEqDiff,reduceCtorEq,Nat.reduceAdd,Nat.reduceMul,Nat.reduceLeDiff,za0,za1,Int.reduceEq,Int.reduceLT,Int.reduceLE,Nat.reduceLT,tiA,tiXA, h0, h1, h5, h6, w64]
            exact ⟨rfl, o2⟩
          · rintro z t H2 ⟨k, hz, hck, hkn, h10, h9, h0, h1, h5, h6, hEq, o3⟩
            obtain ⟨hE1, hE2⟩ := zfF (n := n) (R := R) hEq
            rw [hE1, hE2]
            have g0 := (o3.rowAt 0 rfl).1
            have g1 := (o3.rowAt 1 rfl).1
            have b0 := (o3.rowAt 0 rfl).2
            have b1 := (o3.rowAt 1 rfl).2
            have hR' := hR.same (o3.old hs)
            have hRl' := hR'.len
            obtain ⟨qi, qo, qu, qc, qr, ev, q1, q2, q3, q4⟩ := hR'.get (by omega)
            by_cases c3 : k < n
            · have c3' : decide ((k : Int) < (n : Int)) = true := decide_eq_true (by omega)
              have hrk := hp.rng k c3
              have k1 := q3 k (by omega)
              have k2 := ints_get? L0 (R.getD k 0).toNat (by omega)
              have hFb : F k = matB (matF n mt f) mt now c k := by rw [hF]
              rw [show n - k = (n - (k + 1)) + 1 by omega, List.range'_succ, List.flatMap_cons] at hEq ⊢
              by_cases c4 : now.getD k 0 = (k : Int)
              · have e4 : (L0.getD (R.getD k 0).toNat 0 != R.getD k 0) = false := by rw [(hiff k c3).2 c4]; exact bne_self_eq_false _
                obtain ⟨mi, mo, mu, mc, mr, em, mr1, mr2⟩ := hM.same (o3.old hs)
                obtain ⟨wi, wo, wu, wc, wr, wr1, wr2, wr3⟩ := mr2 (R.getD c 0).toNat (by omega)
                have wr4 := wr3 (R.getD k 0).toNat (by omega)
                obtain hm5 | hm5 : mt0 (R.getD c 0).toNat (R.getD k 0).toNat = true ∨ mt0 (R.getD c 0).toNat (R.getD k 0).toNat = false := by cases mt0 (R.getD c 0).toNat (R.getD k 0).toNat <;> simp
                · rw [hm5] at wr4
                  have hF0 : F k = [] := by rw [hFb]; unfold matB; rw [if_pos (.inr (by rw [hmt]; exact hm5))]
                  rw [hF0, List.nil_append] at hEq ⊢
                  try simp (disch := first | omega | (simp only [L3] <;> omega)) only [Sall,evalOp,init,binA_s,binE,binI,unE,convE,okNil,builtE,gv,TD.isAgg,resV,↓reduceIte,Nat.reduceEqDiff,reduceCtorEq,Nat.reduceAdd,Nat.reduceMul,Nat.reduceLeDiff,za0,za1,Int.reduceEq,Int.reduceLT,Int.reduceLE,Nat.reduceLT,tiA,tiXA, h10, h1, builtE, hRl', c3', ev, q1, k1, h5, g0, k2, e4, hrl, h0, h9, em, mr1, wr1, wr2, wr4]
                  (repeat refine And.intro (by omega) ?_)
                  try simp (disch := first | omega | (simp only [L3] <;> omega)) only [Sall,evalOp,init,binA_s,binE,binI,unE,convE,okNil,builtE,gv,TD.isAgg,resV,↓reduceIte,Nat.reduceEqDiff,reduceCtorEq,Nat.reduceAdd,Nat.reduceMul,Nat.reduceLeDiff,za0,za1,Int.reduceEq,Int.reduceLT,Int.reduceLE,Nat.reduceLT,tiA,tiXA, h10, h1, h0, h5, h6, h9, k1, k2, e4, em, mr1, wr1, wr2, wr4, g0, hrl, w64]
                  (repeat refine And.intro (by omega) ?_)
                  try simp (disch := first | omega | (simp only [L3] <;> omega)) only [Sall,evalOp,init,binA_s,binE,binI,unE,convE,okNil,builtE,gv,TD.isAgg,resV,↓reduceIte,Nat.reduceEqDiff,reduceCtorEq,Nat.reduceAdd,Nat.reduceMul,Nat.reduceLeDiff,za0,za1,Int.reduceEq,Int.reduceLT,Int.reduceLE,Nat.reduceLT,tiA,tiXA, h10, h1, h0, h5, h6, h9, k1, k2, e4, em, mr1, wr1, wr2, wr4, g0, hrl, w64]
                  exact ⟨n - (k + 1), by omega, k + 1, rfl, by omega, by omega, by omega, hEq, o3⟩
                · rw [hm5] at wr4
                  have hF0 : F k = matF n mt f (meetN now c k) (c + 1) := by
                    rw [hFb]; unfold matB
                    rw [if_neg (fun h => h.elim (fun h => h c4) (fun h => by rw [hmt] at h; dsimp only at h; rw [hm5] at h; cases h))]
                  rw [hF0] at hEq ⊢
                  have hme := hmeet c k c1 c3 (by omega)
                  have hll : (L0.set (R.getD c 0).toNat (R.getD k 0)).length = 14 := by rw [List.length_set, hrl]
                  try simp (disch := first | omega | (simp only [L3] <;> omega)) only [Sall,evalOp,init,binA_s,binE,binI,unE,convE,okNil,builtE,gv,TD.isAgg,resV,↓reduceIte,Nat.reduceEqDiff,reduceCtorEq,Nat.reduceAdd,Nat.reduceMul,Nat.reduceLeDiff,za0,za1,Int.reduceEq,Int.reduceLT,Int.reduceLE,Nat.reduceLT,tiA,tiXA, h10, h1, builtE, hRl', c3', ev, q1, k1, h5, g0, k2, e4, hrl, h0, h9, em, mr1, wr1, wr2, wr4]
                  (repeat refine And.intro (by omega) ?_)
                  try simp (disch := first | omega | (simp only [L3] <;> omega)) only [Sall,evalOp,init,binA_s,binE,binI,unE,convE,okNil,builtE,gv,TD.isAgg,resV,↓reduceIte,Nat.reduceEqDiff,reduceCtorEq,Nat.reduceAdd,Nat.reduceMul,Nat.reduceLeDiff,za0,za1,Int.reduceEq,Int.reduceLT,Int.reduceLE,Nat.reduceLT,tiA,tiXA, h10, h1, h0, h5, h6, h9, k1, k2, e4, em, mr1, wr1, wr2, wr4, g0, hrl]
                  (repeat refine And.intro (by omega) ?_)
                  try simp (disch := first | omega | (simp only [L3] <;> omega)) only [Sall,evalOp,init,binA_s,binE,binI,unE,convE,okNil,builtE,gv,TD.isAgg,resV,↓reduceIte,Nat.reduceEqDiff,reduceCtorEq,Nat.reduceAdd,Nat.reduceMul,Nat.reduceLeDiff,za0,za1,Int.reduceEq,Int.reduceLT,Int.reduceLE,Nat.reduceLT,tiA,tiXA, h10, h1, h0, h5, h6, h9, k1, k2, e4, em, mr1, wr1, wr2, wr4, g0, hrl, hll, zaH, zbM]
                  (repeat refine And.intro (by omega) ?_)
                  try simp (disch := first | omega | (simp only [L3] <;> omega)) only [Sall,evalOp,init,binA_s,binE,binI,unE,convE,okNil,builtE,gv,TD.isAgg,resV,↓reduceIte,Nat.reduceEqDiff,reduceCtorEq,Nat.reduceAdd,Nat.reduceMul,Nat.reduceLeDiff,za0,za1,Int.reduceEq,Int.reduceLT,Int.reduceLE,Nat.reduceLT,tiA,tiXA, h10, h1, h0, h5, h6, h9, k1, k2, e4, em, mr1, wr1, wr2, wr4, g0, hrl, hll, zaH, zbM]
                  refine ⟨by simp [hrl], ?_⟩
                  rw [hme, ← em, ← ev]
                  have hrl2 := zb2 R (meetN now c k) n
                  have hmet2 : ∀ j, j < c + 1 → (meetN now c k).getD j 0 ≠ (j : Int) := fun j hj => by
                    rw [zdS hnow.1 (by omega) (by omega), if_neg (by omega)]
                    by_cases e : j = c
                    · rw [if_pos e]; omega
                    · rw [if_neg e]
                      by_cases e2 : j < a
                      · exact hmet j e2
                      · have := zh5 now (n - a) a j (by omega) (by rw [hA]; omega)
                        exact this
                  have o4 := o3.tmp ⟨69, true, ints (renF R (meetN now c k) n)⟩
                  refine (ih (meetN now c k) (c + 1) _ (hnow.meet hn.2 c1 c3) (by omega) hmet2 (by omega) (hM.same (o4.old hs)) (hR.same (o4.old hs))).to ?_
                  have hlX := zcR n R (matF n mt f (meetN now c k) (c + 1))
                  obtain ⟨X, hX⟩ : ∃ X, X = matF n mt f (meetN now c k) (c + 1) := ⟨_, rfl⟩
                  rw [← hX] at hlX hEq ⊢
                  obtain ⟨Y, hY⟩ : ∃ Y, Y = (List.range' (k + 1) (n - (k + 1))).flatMap F := ⟨_, rfl⟩
                  rw [← hY] at hEq ⊢
                  have hap := head_app X Y
                  have o6 := (o4.push ⟨69, true, ints (List.replicate 14 0)⟩).putRow 2 rfl (cs' := ints (headR n R X))
                  have ne1 : ¬ H.next + 1 = H2.next := by omega
                  have ne2 : ¬ H.next = H2.next := by omega
                  obtain hB | hB : headB X = true ∨ headB X = false := by cases headB X <;> simp
                  · rw [if_pos (show X.head?.isSome = true from hB)] at hap
                    obtain ⟨hE3, hE4⟩ := zfF (n := n) (R := R) hap
                    rw [hE3, hE4, hB]
                    refine Holds.mp ?_
                    try simp (disch := first | omega | (simp only [L3] <;> omega)) only [Sall,evalOp,init,binA_s,binE,binI,unE,convE,okNil,builtE,gv,TD.isAgg,resV,↓reduceIte,Nat.reduceEqDiff,reduceCtorEq,Nat.reduceAdd,Nat.reduceMul,Nat.reduceLeDiff,za0,za1,Int.reduceEq,Int.reduceLT,Int.reduceLE,Nat.reduceLT,tiA,tiXA, hlX, hB, h6, g1, ne1, ne2]
                    exact (o6.putRow 1 rfl (cs' := ints (headR n R X))).up
                  · rw [if_neg (by unfold headB at hB; rw [hB]; simp)] at hap
                    refine Holds.mp ?_
                    try simp (disch := first | omega | (simp only [L3] <;> omega)) only [Sall,evalOp,init,binA_s,binE,binI,unE,convE,okNil,builtE,gv,TD.isAgg,resV,↓reduceIte,Nat.reduceEqDiff,reduceCtorEq,Nat.reduceAdd,Nat.reduceMul,Nat.reduceLeDiff,za0,za1,Int.reduceEq,Int.reduceLT,Int.reduceLE,Nat.reduceLT,tiA,tiXA, hlX, hB, h10, h9, h0, h1, h5, h6, w64]
                    have o7 : Ow H _ ([.row H.next ⟨69, true, ints L0⟩, .row (H.next + 1) ⟨69, true, ints (List.replicate 14 0)⟩] ++ [.row (H2.next + 1) ⟨69, true, ints (headR n R X)⟩]) := o6
                    exact ⟨n - (k + 1), by omega, k + 1, rfl, by omega, by omega, by omega, (hEq.trans hap).trans (by rw [hY]), o7.left⟩
              · have e4 : (L0.getD (R.getD k 0).toNat 0 != R.getD k 0) = true := by
                  rw [bne_iff_ne]; exact fun e => c4 ((hiff k c3).1 e)
                have hF0 : F k = [] := by rw [hFb]; unfold matB; rw [if_pos (.inl c4)]
                rw [hF0, List.nil_append] at hEq ⊢
                try simp (disch := first | omega | (simp only [L3] <;> omega)) only [Sall,evalOp,init,binA_s,binE,binI,unE,convE,okNil,builtE,gv,TD.isAgg,resV,↓reduceIte,Nat.reduceEqDiff,reduceCtorEq,Nat.reduceAdd,Nat.reduceMul,Nat.reduceLeDiff,za0,za1,Int.reduceEq,Int.reduceLT,Int.reduceLE,Nat.reduceLT,tiA,tiXA, h10, h1, builtE, hRl', c3', ev, q1, k1, h5, g0, k2, e4, hrl, h0, h9]
                (repeat refine And.intro (by omega) ?_)
                try simp (disch := first | omega | (simp only [L3] <;> omega)) only [Sall,evalOp,init,binA_s,binE,binI,unE,convE,okNil,builtE,gv,TD.isAgg,resV,↓reduceIte,Nat.reduceEqDiff,reduceCtorEq,Nat.reduceAdd,Nat.reduceMul,Nat.reduceLeDiff,za0,za1,Int.reduceEq,Int.reduceLT,Int.reduceLE,Nat.reduceLT,tiA,tiXA, h10, h1, h0, h5, h6, h9, k1, k2, e4, g0, hrl, w64]
                (repeat refine And.intro (by omega) ?_)
                try simp (disch := first | omega | (simp only [L3] <;> omega)) only [Sall,evalOp,init,binA_s,binE,binI,unE,convE,okNil,builtE,gv,TD.isAgg,resV,↓reduceIte,Nat.reduceEqDiff,reduceCtorEq,Nat.reduceAdd,Nat.reduceMul,Nat.reduceLeDiff,za0,za1,Int.reduceEq,Int.reduceLT,Int.reduceLE,Nat.reduceLT,tiA,tiXA, h10, h1, h0, h5, h6, h9, k1, k2, e4, g0, hrl, w64]
                exact ⟨n - (k + 1), by omega, k + 1, rfl, by omega, by omega, by omega, hEq, o3⟩
            · have c3' : decide ((k : Int) < (n : Int)) = false := decide_eq_false (by omega)
              rw [show n - k = 0 by omega, List.range'_zero, List.flatMap_nil]
              have hn0 : headR n R [] = List.replicate 14 0 := rfl
              have hn1 : headB [] = false := rfl
              rw [hn0, hn1]
              try simp (disch := first | omega | (simp only [L3] <;> omega)) only [Sall,evalOp,init,binA_s,binE,binI,unE,convE,okNil,builtE,gv,TD.isAgg,resV,↓reduceIte,Nat.reduceEqDiff,reduceCtorEq,Nat.reduceAdd,Nat.reduceMul,Nat.reduceLeDiff,za0,za1,Int.reduceEq,Int.reduceLT,Int.reduceLE,Nat.reduceLT,tiA,tiXA, h10, h1, h6, g1, builtE, hRl', c3']
              exact (o3.putRow 1 rfl (cs' := ints (List.replicate 14 0))).up
        · have e2 : (L0.getD (R.getD c 0).toNat 0 != R.getD c 0) = true := by
            rw [bne_iff_ne]; exact fun e => c2 ((hiff c c1).1 e)
          try simp (disch := first | omega | (simp only [L3] <;> omega)) only [Sall,evalOp,init,binA_s,binE,binI,unE,convE,okNil,builtE,gv,TD.isAgg,resV,↓reduceIte,Nat.reduceEqDiff,reduceCtorEq,Nat.reduceAdd,Nat.reduceMul,Nat.reduceLeDiff,za0,za1,Int.reduceEq,Int.reduceLT,Int.reduceLE,Nat.reduceLT,tiA,tiXA, h8, h1, builtE, hRl, c1', ev, q1, k1, h5, g0, k2, e2, hrl]
          refine zaR (by kernel_rfl) (by kernel_rfl) ?_
          try simp (disch := first | omega | (simp only [L3] <;> omega)) only [Sall,evalOp,init,binA_s,binE,binI,unE,convE,okNil,builtE,gv,TD.isAgg,resV,↓reduceIte,Nat.reduceEqDiff,reduceCtorEq,Nat.reduceAdd,Nat.reduceMul,Nat.reduceLeDiff,za0,za1,Int.reduceEq,Int.reduceLT,Int.reduceLE,Nat.reduceLT,tiA,tiXA, h8, h1, builtE, hRl, c1', ev, q1, k1, h5, g0, k2, e2, hrl]
          (repeat refine And.intro (by omega) ?_)
          try simp (disch := first | omega | (simp only [L3] <;> omega)) only [Sall,evalOp,init,binA_s,binE,binI,unE,convE,okNil,builtE,gv,TD.isAgg,resV,↓reduceIte,Nat.reduceEqDiff,reduceCtorEq,Nat.reduceAdd,Nat.reduceMul,Nat.reduceLeDiff,za0,za1,Int.reduceEq,Int.reduceLT,Int.reduceLE,Nat.reduceLT,tiA,tiXA, h8, h1, h0, h5, h6, e2, w64]
          exact ⟨n - (c + 1), by omega, c + 1, rfl, by omega, by omega, hfst.trans (zgB c1 c2), o2⟩
      · have hce : c = n := by omega
        subst hce
        have c1' : decide ((c : Int) < (c : Int)) = false := decide_eq_false (by omega)
        have e3 : ((c : Int) == (c : Int)) = true := beq_self_eq_true _
        have hm : matF c mt (f + 1) now a = [now] := by
          show (if _ then _ else _) = _
          rw [← hsk, hfst, fstF_end, if_pos rfl]
        have g1 := (o2.rowAt 1 rfl).1
        have hn0 : headR c R [now] = L0 := hL0'.symm
        have hn1 : headB [now] = true := rfl
        rw [hm, hn0, hn1]
        try simp (disch := first | omega | (simp only [L3] <;> omega)) only [Sall,evalOp,init,binA_s,binE,binI,unE,convE,okNil,builtE,gv,TD.isAgg,resV,↓reduceIte,Nat.reduceEqDiff,reduceCtorEq,Nat.reduceAdd,Nat.reduceMul,Nat.reduceLeDiff,za0,za1,Int.reduceEq,Int.reduceLT,Int.reduceLE,Nat.reduceLT,tiA,tiXA, h8, h1, builtE, hRl, c1', e3]
        refine zaR (by kernel_rfl) (by kernel_rfl) ?_
        try simp (disch := first | omega | (simp only [L3] <;> omega)) only [Sall,evalOp,init,binA_s,binE,binI,unE,convE,okNil,builtE,gv,TD.isAgg,resV,↓reduceIte,Nat.reduceEqDiff,reduceCtorEq,Nat.reduceAdd,Nat.reduceMul,Nat.reduceLeDiff,za0,za1,Int.reduceEq,Int.reduceLT,Int.reduceLE,Nat.reduceLT,tiA,tiXA, h8, h1, builtE, hRl, c1', e3, h5, h6, g0, g1, hrl]
        exact (o2.putRow 1 rfl (cs' := ints L0)).up
end Go.Proofs.YtpienljnoaendaaGreat.A
end

section
set_option maxRecDepth 100000
set_option maxHeartbeats 2000000
namespace Go.Proofs.YtpienljnoaendaaGreat.A
open Go Go.Abs Go.RowKit
theorem third1_c (b own : Int) (pp : Nat) (pv : Value) (m : Nat) (pts : List Int) (H : AH) (hp : H.row pp = some ⟨33, true, [pv]⟩) (hv : Rd 1 H pv m pts) (hb : 0 ≤ b ∧ b < m) :
    ACalls Tryz.prog 296 [.int .i64 b, .int .i64 own, .pointer (some ⟨pp, 0, none⟩)] H (is (.int .i64 (IntKind.i64.wrap (own * pts.getD b.toNat 0))) H) := by
  refine za3 [.tmp 5] Tryz.func296 (by kernel_rfl) rfl rfl (Nat.le_of_ble_eq_true rfl) (by kernel_rfl) ?_
  obtain ⟨i, o, u, c, r, rfl, hr, hc, hs, _⟩ := hv.get (by omega)
  have h1 := hs b.toNat (by omega)
  try simp (disch := first | omega | (simp only [L3] <;> omega)) only [Sall,evalOp,init,binA_s,binE,binI,unE,convE,okNil,builtE,gv,TD.isAgg,resV,↓reduceIte,Nat.reduceEqDiff,reduceCtorEq,Nat.reduceAdd,Nat.reduceMul,Nat.reduceLeDiff,za0,za1,Int.reduceEq,Int.reduceLT,Int.reduceLE,Nat.reduceLT,tiA, hp, hr, h1, is]
  exact hb
theorem third_c (n : Nat) (v : Value) (k : Nat) (l : List Int) (x : Value) (ll : List (List Int)) (H : AH) (hb : schedB n k l = true) (hres : resB n k l ll = true) (hl : ll.length ≤ 4294967296) (hv : Rd 14 H v k l) (hx : Rd2 1 H x ll) :
    ACalls Tryz.prog 262 [.agg #[.int .i64 n, v], x] H (fun u H' => Up H.next H H' ∧ Fr 1 2 H.next H'.next H' u n (sumsF n (fun b o => IntKind.i64.wrap (o * (sumsF n (fun _ o => o) (meets n l ll ll.length)).getD b.toNat 0)) (meets n l ll ll.length))) := by
  refine ACalls.wf (by kernel_rfl) fun hs => za3 [.tmp 4] Tryz.func262 (by kernel_rfl) rfl rfl (Nat.le_of_ble_eq_true rfl) (by kernel_rfl) ?_
  have hone := hv.one
  have up : Up H.next H (H.push ⟨26, true, [.int .i64 n, v]⟩) := (Up.refl _ H).push (Nat.le_refl _) _
  have e1 : (H.push ⟨26, true, [.int .i64 n, v]⟩).row H.next = some ⟨26, true, [.int .i64 n, v]⟩ := by rw [AH.push_row, if_pos rfl]
  have n1 : (H.push ⟨26, true, [.int .i64 n, v]⟩).next = H.next + 1 := rfl
  try simp (disch := first | omega | (simp only [L3] <;> omega)) only [Sall,evalOp,init,binA_s,binE,binI,unE,convE,okNil,builtE,gv,TD.isAgg,resV,↓reduceIte,Nat.reduceEqDiff,reduceCtorEq,Nat.reduceAdd,Nat.reduceMul,Nat.reduceLeDiff,za0,za1,Int.reduceEq,Int.reduceLT,Int.reduceLE,Nat.reduceLT,tiA, hone]
  revert up e1 n1
  generalize H.push ⟨26, true, [.int .i64 n, v]⟩ = H1
  intro up e1 n1
  refine (zf6 n v k l x ll H1 hb hres hl (hv.same (up.le hs).row) (hx.same (up.le hs).row)).mono ?_
  rintro u H2 ⟨up2, hf⟩
  have n2 := up2.next
  have u2 : Up H.next H H2 := up.trans up2 (by omega)
  have e2 : H2.row H.next = some ⟨26, true, [.int .i64 n, v]⟩ := by rw [up2.row _ (by omega), e1]
  have hu := hf.rd.one
  have ne : ¬ H.next = H2.next := by omega
  refine Holds.mp ?_
  try simp (disch := first | omega | (simp only [L3] <;> omega)) only [Sall,evalOp,init,binA_s,binE,binI,unE,convE,okNil,builtE,gv,TD.isAgg,resV,↓reduceIte,Nat.reduceEqDiff,reduceCtorEq,Nat.reduceAdd,Nat.reduceMul,Nat.reduceLeDiff,za0,za1,Int.reduceEq,Int.reduceLT,Int.reduceLE,Nat.reduceLT,tiA, hone, hu, e2, ne, zbM, List.mem_cons, List.not_mem_nil, or_false, forall_eq_or_imp, forall_eq, Array.size_empty]
  obtain ⟨H3, e3⟩ : ∃ H3, H3 = H2.push ⟨33, true, [u]⟩ := ⟨_, rfl⟩
  have s3 : ∀ i, i < H2.next → H3.row i = H2.row i := fun i hi => by rw [e3, AH.push_row, if_neg (by omega)]
  have r3 : H3.row H2.next = some ⟨33, true, [u]⟩ := by rw [e3, AH.push_row, if_pos rfl]
  have n3 : H3.next = H2.next + 1 := by rw [e3]; rfl
  rw [← e3]
  clear e3
  have u3 : Up H.next H H3 := ⟨by have := u2.next; omega, fun i hi => by rw [s3 i (by omega), u2.row i hi]⟩
  have hf3 : Fr 1 2 H1.next H2.next H3 u n (sumsF n (fun _ o => o) (meets n l ll ll.length)) := hf.same fun i _ hi => s3 i hi
  refine (zhK n v k l x ll 296 [.pointer (some ⟨H2.next, 0, none⟩)] (fun b o => IntKind.i64.wrap (o * (sumsF n (fun _ o => o) (meets n l ll ll.length)).getD b.toNat 0)) H3 hb hres hl (hv.same (u3.le hs).row) (hx.same (u3.le hs).row) ?_).mono ?_
  · intro H' b own up' hb' _
    exact third1_c b own H2.next u n _ H' (by rw [up'.row _ (by omega), r3]) (hf3.same (fun i _ hi => up'.row i (by omega))).rd hb'
  · rintro w H4 ⟨up4, hg⟩
    refine Holds.mp ?_
    try simp (disch := first | omega | (simp only [L3] <;> omega)) only [Sall,evalOp,init,binA_s,binE,binI,unE,convE,okNil,builtE,gv,TD.isAgg,resV,↓reduceIte,Nat.reduceEqDiff,reduceCtorEq,Nat.reduceAdd,Nat.reduceMul,Nat.reduceLeDiff,za0,za1,Int.reduceEq,Int.reduceLT,Int.reduceLE,Nat.reduceLT,tiA, true_and]
    exact ⟨u3.trans up4 (by omega), hg.wide (by omega) (Nat.le_refl _)⟩
theorem third_sum (n : Nat) (l : List Int) (ll : List (List Int)) : sumsF n (fun b o => IntKind.i64.wrap (o * (sumsF n (fun _ o => o) (meets n l ll ll.length)).getD b.toNat 0)) (meets n l ll ll.length) = sumsF n (sumF true (sumsF n (fun _ o => o) (meets n l ll ll.length))) (meets n l ll ll.length) := by
  refine zfU (fun b o => ?_) _
  unfold sumF
  rw [if_pos rfl]
end Go.Proofs.YtpienljnoaendaaGreat.A
end

section
set_option maxRecDepth 100000
set_option maxHeartbeats 2000000
namespace Go.Proofs.YtpienljnoaendaaGreat.A
open Go Go.Abs Go.RowKit
theorem isNaN_c (x : Int) (H : AH) : ACalls Tryz.prog 298 [.int .i64 x] H (is (.bool false) H) := by
  refine za3 [.tmp 2] Tryz.func298 (by kernel_rfl) rfl rfl (Nat.le_of_ble_eq_true rfl) (by kernel_rfl) ?_
  try simp (disch := first | omega | (simp only [L3] <;> omega)) only [Sall,evalOp,init,binA_s,binE,binI,unE,convE,okNil,builtE,gv,TD.isAgg,resV,↓reduceIte,Nat.reduceEqDiff,reduceCtorEq,Nat.reduceAdd,Nat.reduceMul,Nat.reduceLeDiff,za0,za1,Int.reduceEq,Int.reduceLT,Int.reduceLE,Nat.reduceLT,tiA, bne_self_eq_false, is]
theorem zg0 (x y : Int) (H : AH) : ACalls Tryz.prog 266 [.int .i64 x, .int .i64 y] H (is (.int .i64 (cmpI x y)) H) := by
  refine za3 [.tmp 4] Tryz.func266 (by kernel_rfl) rfl rfl (Nat.le_of_ble_eq_true rfl) (by kernel_rfl) ?_
  try simp (disch := first | omega | (simp only [L3] <;> omega)) only [Sall,evalOp,init,binA_s,binE,binI,unE,convE,okNil,builtE,gv,TD.isAgg,resV,↓reduceIte,Nat.reduceEqDiff,reduceCtorEq,Nat.reduceAdd,Nat.reduceMul,Nat.reduceLeDiff,za0,za1,Int.reduceEq,Int.reduceLT,Int.reduceLE,Nat.reduceLT,tiA, true_and]
  refine (isNaN_c x H).to ?_
  try simp (disch := first | omega | (simp only [L3] <;> omega)) only [Sall,evalOp,init,binA_s,binE,binI,unE,convE,okNil,builtE,gv,TD.isAgg,resV,↓reduceIte,Nat.reduceEqDiff,reduceCtorEq,Nat.reduceAdd,Nat.reduceMul,Nat.reduceLeDiff,za0,za1,Int.reduceEq,Int.reduceLT,Int.reduceLE,Nat.reduceLT,tiA, true_and]
  refine (isNaN_c y H).to ?_
  try simp (disch := first | omega | (simp only [L3] <;> omega)) only [Sall,evalOp,init,binA_s,binE,binI,unE,convE,okNil,builtE,gv,TD.isAgg,resV,↓reduceIte,Nat.reduceEqDiff,reduceCtorEq,Nat.reduceAdd,Nat.reduceMul,Nat.reduceLeDiff,za0,za1,Int.reduceEq,Int.reduceLT,Int.reduceLE,Nat.reduceLT,tiA, true_and]
  unfold cmpI
  by_cases h1 : x < y
  · rw [if_pos h1]
    try simp (disch := first | omega | (simp only [L3] <;> omega)) only [Sall,evalOp,init,binA_s,binE,binI,unE,convE,okNil,builtE,gv,TD.isAgg,resV,↓reduceIte,Nat.reduceEqDiff,reduceCtorEq,Nat.reduceAdd,Nat.reduceMul,Nat.reduceLeDiff,za0,za1,Int.reduceEq,Int.reduceLT,Int.reduceLE,Nat.reduceLT,tiA, h1, decide_true, is]
  · rw [if_neg h1]
    by_cases h2 : y < x
    · rw [if_pos h2]
      try simp (disch := first | omega | (simp only [L3] <;> omega)) only [Sall,evalOp,init,binA_s,binE,binI,unE,convE,okNil,builtE,gv,TD.isAgg,resV,↓reduceIte,Nat.reduceEqDiff,reduceCtorEq,Nat.reduceAdd,Nat.reduceMul,Nat.reduceLeDiff,za0,za1,Int.reduceEq,Int.reduceLT,Int.reduceLE,Nat.reduceLT,tiA, h1, h2, decide_true, decide_false, is]
    · rw [if_neg h2]
      try simp (disch := first | omega | (simp only [L3] <;> omega)) only [Sall,evalOp,init,binA_s,binE,binI,unE,convE,okNil,builtE,gv,TD.isAgg,resV,↓reduceIte,Nat.reduceEqDiff,reduceCtorEq,Nat.reduceAdd,Nat.reduceMul,Nat.reduceLeDiff,za0,za1,Int.reduceEq,Int.reduceLT,Int.reduceLE,Nat.reduceLT,tiA, h1, h2, decide_false, is]
theorem or3_c (v : Value) (x y z : Int) (H : AH) (hv : Rd 1 H v 3 [x, y, z]) : ACalls Tryz.prog 265 [v] H (is (.int .i64 (orI x y z)) H) := by
  refine za3 [.tmp 2] Tryz.func265 (by kernel_rfl) rfl rfl (Nat.le_of_ble_eq_true rfl) (by kernel_rfl) ?_
  try simp (disch := first | omega | (simp only [L3] <;> omega)) only [Sall,evalOp,init,binA_s,binE,binI,unE,convE,okNil,builtE,gv,TD.isAgg,resV,↓reduceIte,Nat.reduceEqDiff,reduceCtorEq,Nat.reduceAdd,Nat.reduceMul,Nat.reduceLeDiff,za0,za1,Int.reduceEq,Int.reduceLT,Int.reduceLE,Nat.reduceLT,tiA, builtE, hv.len]
  refine za7 (fun m t H' => ∃ a : Nat, m = 3 - a ∧ a ≤ 3 ∧ t 8 = .int .i64 a ∧ t 7 = .int .i64 (3 : Nat) ∧ t 6 = v ∧ t 3 = .int .i64 0 ∧ H' = H ∧ orI x y z = orI (if a ≤ 0 then x else 0) (if a ≤ 1 then y else 0) (if a ≤ 2 then z else 0)) 3 ?_ ?_
  · refine ⟨0, by omega, by omega, ?_⟩
    try simp (disch := first | omega | (simp only [L3] <;> omega)) only [Sall,evalOp,init,binA_s,binE,binI,unE,convE,okNil,builtE,gv,TD.isAgg,resV,↓reduceIte,Nat.reduceEqDiff,reduceCtorEq,Nat.reduceAdd,Nat.reduceMul,Nat.reduceLeDiff,za0,za1,Int.reduceEq,Int.reduceLT,Int.reduceLE,Nat.reduceLT,tiA, Int.natCast_zero]
  · rintro m t H' ⟨a, hm, ha, h8, h7, h6, h3, rfl, hall⟩
    try simp (disch := first | omega | (simp only [L3] <;> omega)) only [Sall,evalOp,init,binA_s,binE,binI,unE,convE,okNil,builtE,gv,TD.isAgg,resV,↓reduceIte,Nat.reduceEqDiff,reduceCtorEq,Nat.reduceAdd,Nat.reduceMul,Nat.reduceLeDiff,za0,za1,Int.reduceEq,Int.reduceLT,Int.reduceLE,Nat.reduceLT,tiA, h8, h7]
    refine za6 (fun h => ?_) (fun h => ?_)
    · obtain ⟨i, o, uu, cc, r, rfl, hr, _, hg, _⟩ := hv.get (by omega)
      have g1 := hg a (by omega)
      obtain ⟨w, hw⟩ : ∃ w, [x, y, z].getD a 0 = w := ⟨_, rfl⟩
      rw [hw] at g1
      have hcase : (w = 0 → orI x y z = orI (if a + 1 ≤ 0 then x else 0) (if a + 1 ≤ 1 then y else 0) (if a + 1 ≤ 2 then z else 0)) ∧ (w ≠ 0 → orI x y z = w) := by
        have : a = 0 ∨ a = 1 ∨ a = 2 := by omega
        rcases this with rfl | rfl | rfl
        · have e : x = w := hw
          subst e
          simp only [orI] at hall ⊢
          constructor
          · intro h; subst h; simp
          · intro h; simp [h]
        · have e : y = w := hw
          subst e
          simp only [orI] at hall ⊢
          constructor
          · intro h; subst h; simp at hall ⊢; exact hall
          · intro h; simp [h] at hall ⊢; exact hall
        · have e : z = w := hw
          subst e
          simp only [orI] at hall ⊢
          constructor
          · intro h; subst h; simp at hall ⊢; exact hall
          · intro h; simp [h] at hall ⊢; exact hall
      by_cases hw0 : w = 0
      · have e2 : (w != 0) = false := by rw [hw0]; rfl
        try simp (disch := first | omega | (simp only [L3] <;> omega)) only [Sall,evalOp,init,binA_s,binE,binI,unE,convE,okNil,builtE,gv,TD.isAgg,resV,↓reduceIte,Nat.reduceEqDiff,reduceCtorEq,Nat.reduceAdd,Nat.reduceMul,Nat.reduceLeDiff,za0,za1,Int.reduceEq,Int.reduceLT,Int.reduceLE,Nat.reduceLT,tiA, h8, h7, h6, h3, hr, g1, e2, w64]
        (repeat refine And.intro (by omega) ?_)
        exact ⟨3 - (a + 1), by omega, a + 1, by omega, by omega, rfl, hcase.1 hw0⟩
      · have e2 : (w != 0) = true := bne_iff_ne.2 hw0
        try simp (disch := first | omega | (simp only [L3] <;> omega)) only [Sall,evalOp,init,binA_s,binE,binI,unE,convE,okNil,builtE,gv,TD.isAgg,resV,↓reduceIte,Nat.reduceEqDiff,reduceCtorEq,Nat.reduceAdd,Nat.reduceMul,Nat.reduceLeDiff,za0,za1,Int.reduceEq,Int.reduceLT,Int.reduceLE,Nat.reduceLT,tiA, h8, h7, h6, h3, hr, g1, e2, w64]
        (repeat refine And.intro (by omega) ?_)
        rw [hcase.2 hw0]
        exact ⟨rfl, rfl⟩
    · try simp (disch := first | omega | (simp only [L3] <;> omega)) only [Sall,evalOp,init,binA_s,binE,binI,unE,convE,okNil,builtE,gv,TD.isAgg,resV,↓reduceIte,Nat.reduceEqDiff,reduceCtorEq,Nat.reduceAdd,Nat.reduceMul,Nat.reduceLeDiff,za0,za1,Int.reduceEq,Int.reduceLT,Int.reduceLE,Nat.reduceLT,tiA, h3]
      have e : a = 3 := by omega
      subst e
      rw [hall]
      exact ⟨rfl, rfl⟩
theorem rkClosure_c (p s t : List Int) (c0 c1 c2 : Nat) (v0 v1 v2 : Value) (a b : Nat) (H : AH) (h0 : H.row c0 = some ⟨33, true, [v0]⟩) (h1 : H.row c1 = some ⟨33, true, [v1]⟩) (h2 : H.row c2 = some ⟨33, true, [v2]⟩)
    (r0 : Rd 1 H v0 p.length p) (r1 : Rd 1 H v1 s.length s) (r2 : Rd 1 H v2 t.length t) (ha : a < p.length ∧ a < s.length ∧ a < t.length) (hb : b < p.length ∧ b < s.length ∧ b < t.length) :
    ACalls Tryz.prog 264 [.int .i64 a, .int .i64 b, .pointer (some ⟨c0, 0, none⟩), .pointer (some ⟨c1, 0, none⟩), .pointer (some ⟨c2, 0, none⟩)] H (fun r H' => r = .int .i64 (cmpR p s t a b) ∧ Up H.next H H') := by
  refine ACalls.wf (by kernel_rfl) fun hs => za3 [.tmp 7] Tryz.func264 (by kernel_rfl) rfl rfl (Nat.le_of_ble_eq_true rfl) (by kernel_rfl) ?_
  obtain ⟨i0, o0, u0, k0, q0, rfl, f0, _, g0, _⟩ := r0.get (by omega)
  obtain ⟨i1, o1, u1, k1, q1, rfl, f1, _, g1, _⟩ := r1.get (by omega)
  obtain ⟨i2, o2, u2, k2, q2, rfl, f2, _, g2, _⟩ := r2.get (by omega)
  have g0a := g0 a (by omega)
  have g0b := g0 b (by omega)
  have g1a := g1 a (by omega)
  have g1b := g1 b (by omega)
  have g2a := g2 a (by omega)
  have g2b := g2 b (by omega)
  have zz : zeros 3 [.int .i64 0] = [.int .i64 0, .int .i64 0, .int .i64 0] := rfl
  unfold cmpR
  rw [Int.toNat_natCast, Int.toNat_natCast]
  try simp (disch := first | omega | (simp only [L3] <;> omega)) only [Sall,evalOp,init,binA_s,binE,binI,unE,convE,okNil,builtE,gv,TD.isAgg,resV,↓reduceIte,Nat.reduceEqDiff,reduceCtorEq,Nat.reduceAdd,Nat.reduceMul,Nat.reduceLeDiff,za0,za1,Int.reduceEq,Int.reduceLT,Int.reduceLE,Nat.reduceLT,tiA, true_and]
  refine draw_in [0, 1, 2, 3, 4, 5, 6, 7, 9, 10, 11, 12, 13, 14, 15, 16, 18, 19, 20, 21, 22, 23, 24, 25, 8, 17, 26, 27, 28, 29] (by kernel_rfl) (by kernel_rfl) (by kernel_rfl) ?_
  try simp (disch := first | omega | (simp only [L3] <;> omega)) only [Sall,evalOp,init,binA_s,binE,binI,unE,convE,okNil,builtE,gv,TD.isAgg,resV,↓reduceIte,Nat.reduceEqDiff,reduceCtorEq,Nat.reduceAdd,Nat.reduceMul,Nat.reduceLeDiff,za0,za1,Int.reduceEq,Int.reduceLT,Int.reduceLE,Nat.reduceLT,tiA, h0, h1, h2, f0, f1, f2, g0a, g0b, g1a, g1b, g2a, g2b]
  (repeat refine And.intro (by omega) ?_)
  refine (zg0 _ _ _).to ?_
  refine ⟨.inr (.inr (LE.refl _)), ?_⟩
  try simp (disch := first | omega | (simp only [L3] <;> omega)) only [Sall,evalOp,init,binA_s,binE,binI,unE,convE,okNil,builtE,gv,TD.isAgg,resV,↓reduceIte,Nat.reduceEqDiff,reduceCtorEq,Nat.reduceAdd,Nat.reduceMul,Nat.reduceLeDiff,za0,za1,Int.reduceEq,Int.reduceLT,Int.reduceLE,Nat.reduceLT,tiA, true_and]
  refine (zg0 _ _ _).to ?_
  refine ⟨.inr (.inr (LE.refl _)), ?_⟩
  try simp (disch := first | omega | (simp only [L3] <;> omega)) only [Sall,evalOp,init,binA_s,binE,binI,unE,convE,okNil,builtE,gv,TD.isAgg,resV,↓reduceIte,Nat.reduceEqDiff,reduceCtorEq,Nat.reduceAdd,Nat.reduceMul,Nat.reduceLeDiff,za0,za1,Int.reduceEq,Int.reduceLT,Int.reduceLE,Nat.reduceLT,tiA, true_and]
  refine (zg0 _ _ _).to ?_
  refine ⟨.inr (.inr (LE.refl _)), ?_⟩
  try simp (disch := first | omega | (simp only [L3] <;> omega)) only [Sall,evalOp,init,binA_s,binE,binI,unE,convE,okNil,builtE,gv,TD.isAgg,resV,↓reduceIte,Nat.reduceEqDiff,reduceCtorEq,Nat.reduceAdd,Nat.reduceMul,Nat.reduceLeDiff,za0,za1,Int.reduceEq,Int.reduceLT,Int.reduceLE,Nat.reduceLT,tiA, zz, zaO]
  have hsc : Sc H := hs
  refine ⟨.inr (.inr (hsc.le _)), ?_⟩
  try simp (disch := first | omega | (simp only [L3] <;> omega)) only [Sall,evalOp,init,binA_s,binE,binI,unE,convE,okNil,builtE,gv,TD.isAgg,resV,↓reduceIte,Nat.reduceEqDiff,reduceCtorEq,Nat.reduceAdd,Nat.reduceMul,Nat.reduceLeDiff,za0,za1,Int.reduceEq,Int.reduceLT,Int.reduceLE,Nat.reduceLT,tiA, true_and]
  refine (or3_c _ _ _ _ _ ⟨rfl, .inr ⟨H.next, 0, _, _, _, rfl, by rw [AH.push_row, if_pos rfl], Nat.le_refl _, rfl⟩⟩).to ?_
  refine ⟨.inr (.inr (LE.refl _)), ?_⟩
  try simp (disch := first | omega | (simp only [L3] <;> omega)) only [Sall,evalOp,init,binA_s,binE,binI,unE,convE,okNil,builtE,gv,TD.isAgg,resV,↓reduceIte,Nat.reduceEqDiff,reduceCtorEq,Nat.reduceAdd,Nat.reduceMul,Nat.reduceLeDiff,za0,za1,Int.reduceEq,Int.reduceLT,Int.reduceLE,Nat.reduceLT,tiA, true_and]
  exact (Up.refl _ H).push (Nat.le_refl _) _
def Srt (di : Nat) (H0 H : AH) : Prop := H0.next ≤ H.next ∧ (∀ i, i < H0.next → ¬ i = di → H.row i = H0.row i) ∧ Sc H
theorem insSort_c (n : Nat) (hn : 1 ≤ n ∧ n ≤ 20) (g : FuncId) (cap : List Value) (c : Int → Int → Int) (di cc : Nat) (H0 : AH) (hdi : di < H0.next) (hd : H0.row di = some ⟨2, true, ints (seqL 0 n)⟩) (hc : ∀ a b, -1 ≤ c a b ∧ c a b ≤ 1)
    (hcmp : ∀ (a b : Nat) (H1 : AH), a < n → b < n → Srt di H0 H1 → ACalls Tryz.prog g (.int .i64 a :: .int .i64 b :: cap) H1 (fun r H2 => r = .int .i64 (c a b) ∧ Up H1.next H1 H2)) :
    ACalls Tryz.prog 304 [.slice (some ⟨di, 0, some 1⟩) n cc, .int .i64 0, .int .i64 n, .func (.func g) #[] cap.toArray] H0 (fun _ H' => Srt di H0 H' ∧ H'.row di = some ⟨2, true, ints (rankL (fun a b => decide (c a b < 0)) n)⟩) := by
  obtain ⟨G, eG⟩ : ∃ G, G = fun a b => decide (c a b < 0) := ⟨_, rfl⟩
  rw [← eG]
  refine ACalls.wf (by kernel_rfl) fun hs => za3 [] Tryz.func304 (by kernel_rfl) rfl rfl (Nat.le_of_ble_eq_true rfl) (by kernel_rfl) ?_
  try simp (disch := first | omega | (simp only [L3] <;> omega)) only [Sall,evalOp,init,binA_s,binE,binI,unE,convE,okNil,builtE,gv,TD.isAgg,resV,↓reduceIte,Nat.reduceEqDiff,reduceCtorEq,Nat.reduceAdd,Nat.reduceMul,Nat.reduceLeDiff,za0,za1,Int.reduceEq,Int.reduceLT,Int.reduceLE,Nat.reduceLT,tiA, w64]
  refine za7 (fun m t H' => ∃ i : Nat, m = n - i ∧ 1 ≤ i ∧ i ≤ n ∧ t 8 = .int .i64 i ∧ t 0 = .slice (some ⟨di, 0, some 1⟩) n cc ∧ t 1 = .int .i64 0 ∧ t 2 = .int .i64 n ∧ t 3 = .func (.func g) #[] cap.toArray ∧ Srt di H0 H' ∧ H'.row di = some ⟨2, true, ints (rankL G i ++ seqL i (n - i))⟩) (n - 1) ?_ ?_
  · refine ⟨1, by omega, by omega, by omega, ?_⟩
    have := rank_first G n (by omega)
    rw [this] at hd
    have hS0 : Srt di H0 H0 := ⟨Nat.le_refl _, fun _ _ _ => rfl, hs⟩
    try simp (disch := first | omega | (simp only [L3] <;> omega)) only [Sall,evalOp,init,binA_s,binE,binI,unE,convE,okNil,builtE,gv,TD.isAgg,resV,↓reduceIte,Nat.reduceEqDiff,reduceCtorEq,Nat.reduceAdd,Nat.reduceMul,Nat.reduceLeDiff,za0,za1,Int.reduceEq,Int.reduceLT,Int.reduceLE,Nat.reduceLT,tiA, true_and]
    exact ⟨by omega, hS0, hd⟩
  · rintro m t H' ⟨i, hm, hi1, hin, h8, h0, h1, h2, h3, hS, hd'⟩
    try simp (disch := first | omega | (simp only [L3] <;> omega)) only [Sall,evalOp,init,binA_s,binE,binI,unE,convE,okNil,builtE,gv,TD.isAgg,resV,↓reduceIte,Nat.reduceEqDiff,reduceCtorEq,Nat.reduceAdd,Nat.reduceMul,Nat.reduceLeDiff,za0,za1,Int.reduceEq,Int.reduceLT,Int.reduceLE,Nat.reduceLT,tiA, h8, h2]
    refine za6 (fun h => ?_) (fun h => ?_)
    · have hlt : i < n := by omega
      have hl := zb8 G i
      rw [rank_next G i n hlt] at hd'
      try simp (disch := first | omega | (simp only [L3] <;> omega)) only [Sall,evalOp,init,binA_s,binE,binI,unE,convE,okNil,builtE,gv,TD.isAgg,resV,↓reduceIte,Nat.reduceEqDiff,reduceCtorEq,Nat.reduceAdd,Nat.reduceMul,Nat.reduceLeDiff,za0,za1,Int.reduceEq,Int.reduceLT,Int.reduceLE,Nat.reduceLT,tiA, h8, h0, h1, h2, h3]
      refine za7 (fun z t H4 => ∃ j : Nat, z = j ∧ j ≤ i ∧ bubAt G (rankL G i) i i = bubAt G (rankL G i) i j ∧ t 9 = .int .i64 j ∧ t 8 = .int .i64 i ∧ t 0 = .slice (some ⟨di, 0, some 1⟩) n cc ∧ t 1 = .int .i64 0 ∧ t 2 = .int .i64 n ∧ t 3 = .func (.func g) #[] cap.toArray ∧ Srt di H0 H4 ∧ H4.row di = some ⟨2, true, ints (insAt (rankL G i) j i ++ seqL ((i + 1 : Nat) : Int) (n - (i + 1)))⟩) i ?_ ?_
      · refine ⟨i, rfl, Nat.le_refl _, rfl, ?_⟩
        try simp (disch := first | omega | (simp only [L3] <;> omega)) only [Sall,evalOp,init,binA_s,binE,binI,unE,convE,okNil,builtE,gv,TD.isAgg,resV,↓reduceIte,Nat.reduceEqDiff,reduceCtorEq,Nat.reduceAdd,Nat.reduceMul,Nat.reduceLeDiff,za0,za1,Int.reduceEq,Int.reduceLT,Int.reduceLE,Nat.reduceLT,tiA, h8, h0, h1, h2, h3]
        exact ⟨hS, hd'⟩
      · rintro z t H4 ⟨j, hz, hji, hbub, h9, h8, h0, h1, h2, h3, hS4, hd4⟩
        have hil : (insAt (rankL G i) j i).length = i + 1 := by rw [zdH (by omega), hl]
        have hsl : (seqL ((i + 1 : Nat) : Int) (n - (i + 1))).length = n - (i + 1) := seqL_length _ _
        have hal : (insAt (rankL G i) j i ++ seqL ((i + 1 : Nat) : Int) (n - (i + 1))).length = n := by rw [List.length_append]; omega
        refine zaR (by kernel_rfl) (by kernel_rfl) ?_
        by_cases hj : j = 0
        · subst hj
          have h00 : ¬ (0 : Int) < ((0 : Nat) : Int) := by omega
          try simp (disch := first | omega | (simp only [L3] <;> omega)) only [Sall,evalOp,init,binA_s,binE,binI,unE,convE,okNil,builtE,gv,TD.isAgg,resV,↓reduceIte,Nat.reduceEqDiff,reduceCtorEq,Nat.reduceAdd,Nat.reduceMul,Nat.reduceLeDiff,za0,za1,Int.reduceEq,Int.reduceLT,Int.reduceLE,Nat.reduceLT,tiA, h9, h1, h00, decide_false, h8, w64]
          refine ⟨n - (i + 1), by omega, i + 1, rfl, by omega, by omega, by omega, h0, h2, h3, hS4, ?_⟩
          rw [zcB, hbub, zgY]
          exact hd4
        · have hj1 : (0 : Int) < (j : Int) := by omega
          have ga := insAt_at (show j ≤ (rankL G i).length by omega) (i : Int)
          have gb := zhM (show j - 1 < j by omega) (show j ≤ (rankL G i).length by omega) (i : Int)
          have gr := zg8 G i (j - 1) (by omega)
          have gset := zdV (show j ≤ (rankL G i).length by omega) ((rankL G i).getD (j - 1) 0) (i : Int)
          have gstep := zh3 (l := rankL G i) (j := j - 1) (by omega)
          have gset2 := zdV (show j - 1 ≤ (rankL G i).length by omega) (i : Int) ((rankL G i).getD (j - 1) 0)
          have gby := bubAt_yes (g := G) (l := rankL G i) (x := (i : Int)) (j := j - 1)
          have gbn := bubAt_no (g := G) (l := rankL G i) (x := (i : Int)) (j := j - 1)
          rw [show j - 1 + 1 = j by omega] at gstep gby gbn
          have e1 : (ints (insAt (rankL G i) j i ++ seqL ((i + 1 : Nat) : Int) (n - (i + 1))))[j]? = some (.int .i64 i) := by
            rw [ints_get? _ _ (by omega), List.getD_eq_getElem?_getD, List.getElem?_append_left (by omega), ← List.getD_eq_getElem?_getD, ga]
          have e2 : (ints (insAt (rankL G i) j i ++ seqL ((i + 1 : Nat) : Int) (n - (i + 1))))[j - 1]? = some (.int .i64 ((rankL G i).getD (j - 1) 0)) := by
            rw [ints_get? _ _ (by omega), List.getD_eq_getElem?_getD, List.getElem?_append_left (by omega), ← List.getD_eq_getElem?_getD, gb]
          have es : ∀ y x : Int, insAt (rankL G i) j y = insAt (rankL G i) (j - 1) y → True := fun _ _ _ => trivial
          revert gr gset gstep gset2 gby gbn e2
          generalize (rankL G i).getD (j - 1) 0 = bI
          intro gr gset gstep gset2 gby gbn e2
          obtain ⟨bN, rfl⟩ : ∃ bN : Nat, bI = bN := ⟨bI.toNat, by omega⟩
          have hjm : ((j : Int) - 1).toNat = j - 1 := by omega
          try simp (disch := first | omega | (simp only [L3] <;> omega)) only [Sall,evalOp,init,binA_s,binE,binI,unE,convE,okNil,builtE,gv,TD.isAgg,resV,↓reduceIte,Nat.reduceEqDiff,reduceCtorEq,Nat.reduceAdd,Nat.reduceMul,Nat.reduceLeDiff,za0,za1,Int.reduceEq,Int.reduceLT,Int.reduceLE,Nat.reduceLT,tiA, h9, h1, hj1, decide_true, h3, h0, hd4, e1, e2, hjm, w64]
          (repeat refine And.intro (by omega) ?_)
          refine (hcmp i bN H4 (by omega) (by omega) hS4).scf.fin ?_
          rintro H5 ⟨up5, sc5⟩
          have n5 := up5.next
          refine ⟨.inr (.inr (up5.le hS4.2.2)), ?_⟩
          have hd5 : H5.row di = some ⟨2, true, ints (insAt (rankL G i) j i ++ seqL ((i + 1 : Nat) : Int) (n - (i + 1)))⟩ := by
            rw [up5.row _ (by have := hS4.1; omega)]; exact hd4
          have hS5 : Srt di H0 H5 := ⟨by have := hS4.1; omega, fun i hi hne => by rw [up5.row i (by have := hS4.1; omega), hS4.2.1 i hi hne], sc5⟩
          have eg : G i bN = decide (c i bN < 0) := by rw [eG]
          by_cases hg : c i bN < 0
          · rw [decide_eq_true hg] at eg
            try simp (disch := first | omega | (simp only [L3] <;> omega)) only [Sall,evalOp,init,binA_s,binE,binI,unE,convE,okNil,builtE,gv,TD.isAgg,resV,↓reduceIte,Nat.reduceEqDiff,reduceCtorEq,Nat.reduceAdd,Nat.reduceMul,Nat.reduceLeDiff,za0,za1,Int.reduceEq,Int.reduceLT,Int.reduceLE,Nat.reduceLT,tiA, hg, decide_true, h9, h8, h0, h1, h2, h3]
            refine zaR (by kernel_rfl) (by kernel_rfl) ?_
            try simp (disch := first | omega | (simp only [L3] <;> omega)) only [Sall,evalOp,init,binA_s,binE,binI,unE,convE,okNil,builtE,gv,TD.isAgg,resV,↓reduceIte,Nat.reduceEqDiff,reduceCtorEq,Nat.reduceAdd,Nat.reduceMul,Nat.reduceLeDiff,za0,za1,Int.reduceEq,Int.reduceLT,Int.reduceLE,Nat.reduceLT,tiA, h9, h8, h0, h1, h2, h3, hd5, e1, e2, hjm, w64]
            (repeat refine And.intro (by omega) ?_)
            refine ⟨.inr (.inl (by kernel_rfl)), ?_⟩
            try simp (disch := first | omega | (simp only [L3] <;> omega)) only [Sall,evalOp,init,binA_s,binE,binI,unE,convE,okNil,builtE,gv,TD.isAgg,resV,↓reduceIte,Nat.reduceEqDiff,reduceCtorEq,Nat.reduceAdd,Nat.reduceMul,Nat.reduceLeDiff,za0,za1,Int.reduceEq,Int.reduceLT,Int.reduceLE,Nat.reduceLT,tiA, h9, h8, h0, h1, h2, h3, hd5, e1, e2, hjm, w64]
            (repeat refine And.intro (by omega) ?_)
            refine ⟨by rw [List.length_set, za2]; omega, .inr (.inl (by kernel_rfl)), ?_⟩
            try simp (disch := first | omega | (simp only [L3] <;> omega)) only [Sall,evalOp,init,binA_s,binE,binI,unE,convE,okNil,builtE,gv,TD.isAgg,resV,↓reduceIte,Nat.reduceEqDiff,reduceCtorEq,Nat.reduceAdd,Nat.reduceMul,Nat.reduceLeDiff,za0,za1,Int.reduceEq,Int.reduceLT,Int.reduceLE,Nat.reduceLT,tiA, h9, h8, h0, h1, h2, h3, w64]
            have hset : ((ints (insAt (rankL G i) j i ++ seqL ((i + 1 : Nat) : Int) (n - (i + 1)))).set j (Value.int IntKind.i64 bN)).set (j - 1) (Value.int IntKind.i64 i) = ints (insAt (rankL G i) (j - 1) i ++ seqL ((i + 1 : Nat) : Int) (n - (i + 1))) := by
              rw [zaH, List.set_append_left _ _ (by omega), zaH, List.set_append_left _ _ (by rw [List.length_set]; omega), gset, gstep, gset2]
            refine ⟨j - 1, by omega, by omega, by rw [hbub, gby eg], by omega, ?_, ?_⟩
            · exact ⟨by have := hS5.1; simp only [AH.setCells_next]; omega, fun i hi hne => by rw [AH.setCells_row, if_neg hne, AH.setCells_row, if_neg hne, hS5.2.1 i hi hne], (sc5.set _ _).set _ _⟩
            · rw [hset]
          · rw [decide_eq_false hg] at eg
            try simp (disch := first | omega | (simp only [L3] <;> omega)) only [Sall,evalOp,init,binA_s,binE,binI,unE,convE,okNil,builtE,gv,TD.isAgg,resV,↓reduceIte,Nat.reduceEqDiff,reduceCtorEq,Nat.reduceAdd,Nat.reduceMul,Nat.reduceLeDiff,za0,za1,Int.reduceEq,Int.reduceLT,Int.reduceLE,Nat.reduceLT,tiA, hg, decide_false, h8, h0, h1, h2, h3, w64]
            refine ⟨n - (i + 1), by omega, i + 1, rfl, by omega, by omega, by omega, hS5, ?_⟩
            rw [zcB, hbub, gbn eg]
            exact hd5
    · have e : i = n := by omega
      subst e
      try simp (disch := first | omega | (simp only [L3] <;> omega)) only [Sall,evalOp,init,binA_s,binE,binI,unE,convE,okNil,builtE,gv,TD.isAgg,resV,↓reduceIte,Nat.reduceEqDiff,reduceCtorEq,Nat.reduceAdd,Nat.reduceMul,Nat.reduceLeDiff,za0,za1,Int.reduceEq,Int.reduceLT,Int.reduceLE,Nat.reduceLT,tiA, true_and]
      rw [Nat.sub_self, show seqL (i : Int) 0 = [] from rfl, List.append_nil] at hd'
      exact ⟨hS, hd'⟩
theorem stableCmp_c (n : Nat) (hn : 1 ≤ n ∧ n ≤ 19) (g : FuncId) (cap : List Value) (c : Int → Int → Int) (di cc : Nat) (H0 : AH) (hdi : di < H0.next) (hd : H0.row di = some ⟨2, true, ints (seqL 0 n)⟩) (hc : ∀ a b, -1 ≤ c a b ∧ c a b ≤ 1)
    (hcmp : ∀ (a b : Nat) (H1 : AH), a < n → b < n → Srt di H0 H1 → ACalls Tryz.prog g (.int .i64 a :: .int .i64 b :: cap) H1 (fun r H2 => r = .int .i64 (c a b) ∧ Up H1.next H1 H2)) :
    ACalls Tryz.prog 297 [.slice (some ⟨di, 0, some 1⟩) n cc, .int .i64 n, .func (.func g) #[] cap.toArray] H0 (fun _ H' => Srt di H0 H' ∧ H'.row di = some ⟨2, true, ints (rankL (fun a b => decide (c a b < 0)) n)⟩) := by
  refine za3 [] Tryz.func297 (by kernel_rfl) rfl rfl (Nat.le_of_ble_eq_true rfl) (by kernel_rfl) ?_
  try simp (disch := first | omega | (simp only [L3] <;> omega)) only [Sall,evalOp,init,binA_s,binE,binI,unE,convE,okNil,builtE,gv,TD.isAgg,resV,↓reduceIte,Nat.reduceEqDiff,reduceCtorEq,Nat.reduceAdd,Nat.reduceMul,Nat.reduceLeDiff,za0,za1,Int.reduceEq,Int.reduceLT,Int.reduceLE,Nat.reduceLT,tiA, true_and]
  refine za7 (fun m t H' => m = 0 ∧ t 8 = .int .i64 20 ∧ t 7 = .int .i64 0 ∧ t 6 = .int .i64 20 ∧ t 1 = .int .i64 n ∧ t 0 = .slice (some ⟨di, 0, some 1⟩) n cc ∧ t 2 = .func (.func g) #[] cap.toArray ∧ H' = H0) 0 ?_ ?_
  · try simp (disch := first | omega | (simp only [L3] <;> omega)) only [Sall,evalOp,init,binA_s,binE,binI,unE,convE,okNil,builtE,gv,TD.isAgg,resV,↓reduceIte,Nat.reduceEqDiff,reduceCtorEq,Nat.reduceAdd,Nat.reduceMul,Nat.reduceLeDiff,za0,za1,Int.reduceEq,Int.reduceLT,Int.reduceLE,Nat.reduceLT,tiA, true_and]
  · rintro m t H' ⟨hm, h8, h7, h6, h1, h0, h2, rfl⟩
    have e1 : ¬ (20 : Int) ≤ (n : Int) := by omega
    try simp (disch := first | omega | (simp only [L3] <;> omega)) only [Sall,evalOp,init,binA_s,binE,binI,unE,convE,okNil,builtE,gv,TD.isAgg,resV,↓reduceIte,Nat.reduceEqDiff,reduceCtorEq,Nat.reduceAdd,Nat.reduceMul,Nat.reduceLeDiff,za0,za1,Int.reduceEq,Int.reduceLT,Int.reduceLE,Nat.reduceLT,tiA, h8, h1, e1, decide_false, h0, h7, h2]
    refine (insSort_c n (by omega) g cap c di cc H' hdi hd hc hcmp).mono ?_
    rintro r H2 ⟨hS, hd2⟩
    refine Holds.mp ?_
    have e2 : ¬ (20 : Int) < (n : Int) := by omega
    try simp (disch := first | omega | (simp only [L3] <;> omega)) only [Sall,evalOp,init,binA_s,binE,binI,unE,convE,okNil,builtE,gv,TD.isAgg,resV,↓reduceIte,Nat.reduceEqDiff,reduceCtorEq,Nat.reduceAdd,Nat.reduceMul,Nat.reduceLeDiff,za0,za1,Int.reduceEq,Int.reduceLT,Int.reduceLE,Nat.reduceLT,tiA, h6, h1]
    refine za7 (fun m t H' => m = 0 ∧ t 6 = .int .i64 20 ∧ t 1 = .int .i64 n ∧ H' = H2) 0 ?_ ?_
    · try simp (disch := first | omega | (simp only [L3] <;> omega)) only [Sall,evalOp,init,binA_s,binE,binI,unE,convE,okNil,builtE,gv,TD.isAgg,resV,↓reduceIte,Nat.reduceEqDiff,reduceCtorEq,Nat.reduceAdd,Nat.reduceMul,Nat.reduceLeDiff,za0,za1,Int.reduceEq,Int.reduceLT,Int.reduceLE,Nat.reduceLT,tiA, h6, h1]
    · rintro m t H' ⟨hm, h6, h1, rfl⟩
      try simp (disch := first | omega | (simp only [L3] <;> omega)) only [Sall,evalOp,init,binA_s,binE,binI,unE,convE,okNil,builtE,gv,TD.isAgg,resV,↓reduceIte,Nat.reduceEqDiff,reduceCtorEq,Nat.reduceAdd,Nat.reduceMul,Nat.reduceLeDiff,za0,za1,Int.reduceEq,Int.reduceLT,Int.reduceLE,Nat.reduceLT,tiA, h6, h1, e2, decide_false]
      exact ⟨hS, hd2⟩
theorem sortStable_c (n : Nat) (hn : 1 ≤ n ∧ n ≤ 19) (g : FuncId) (cap : List Value) (c : Int → Int → Int) (di cc : Nat) (H0 : AH) (hdi : di < H0.next) (hd : H0.row di = some ⟨2, true, ints (seqL 0 n)⟩) (hc : ∀ a b, -1 ≤ c a b ∧ c a b ≤ 1)
    (hcmp : ∀ (a b : Nat) (H1 : AH), a < n → b < n → Srt di H0 H1 → ACalls Tryz.prog g (.int .i64 a :: .int .i64 b :: cap) H1 (fun r H2 => r = .int .i64 (c a b) ∧ Up H1.next H1 H2)) :
    ACalls Tryz.prog 263 [.slice (some ⟨di, 0, some 1⟩) n cc, .func (.func g) #[] cap.toArray] H0 (fun _ H' => Srt di H0 H' ∧ H'.row di = some ⟨2, true, ints (rankL (fun a b => decide (c a b < 0)) n)⟩) := by
  refine za3 [] Tryz.func263 (by kernel_rfl) rfl rfl (Nat.le_of_ble_eq_true rfl) (by kernel_rfl) ?_
  try simp (disch := first | omega | (simp only [L3] <;> omega)) only [Sall,evalOp,init,binA_s,binE,binI,unE,convE,okNil,builtE,gv,TD.isAgg,resV,↓reduceIte,Nat.reduceEqDiff,reduceCtorEq,Nat.reduceAdd,Nat.reduceMul,Nat.reduceLeDiff,za0,za1,Int.reduceEq,Int.reduceLT,Int.reduceLE,Nat.reduceLT,tiA, builtE]
  refine (stableCmp_c n hn g cap c di cc H0 hdi hd hc hcmp).mono ?_
  rintro r H2 ⟨hS, hd2⟩
  refine Holds.mp ?_
  try simp (disch := first | omega | (simp only [L3] <;> omega)) only [Sall,evalOp,init,binA_s,binE,binI,unE,convE,okNil,builtE,gv,TD.isAgg,resV,↓reduceIte,Nat.reduceEqDiff,reduceCtorEq,Nat.reduceAdd,Nat.reduceMul,Nat.reduceLeDiff,za0,za1,Int.reduceEq,Int.reduceLT,Int.reduceLE,Nat.reduceLT,tiA, true_and]
  exact ⟨hS, hd2⟩
end Go.Proofs.YtpienljnoaendaaGreat.A
end

section
set_option maxRecDepth 100000
set_option maxHeartbeats 2000000
namespace Go.Proofs.YtpienljnoaendaaGreat.A
open Go Go.Abs Go.RowKit
def RkS (A : AH) (n : Nat) (l : List Int) (v : Value) (H : AH) : Prop := Fr 1 2 A.next H.next H v n l
def RkP (A : AH) (v : Value) (H : AH) : Prop := ∃ i, v = .pointer (some ⟨i, 0, none⟩) ∧ A.next ≤ i ∧ i < H.next ∧ H.row i = some ⟨33, true, [.slice none 0 0]⟩
theorem RkS.up {A : AH} {n : Nat} {l : List Int} {v : Value} {H H' : AH} (h : RkS A n l v H) (u : Up H.next H H') : RkS A n l v H' :=
  (h.same fun i _ hi => u.row i hi).wide (Nat.le_refl _) u.next
theorem RkP.up {A : AH} {v : Value} {H H' : AH} (h : RkP A v H) (u : Up H.next H H') : RkP A v H' := by
  obtain ⟨i, h1, h2, h3, h4⟩ := h
  exact ⟨i, h1, h2, by have := u.next; omega, by rw [u.row i h3]; exact h4⟩
theorem RkP.ne {A : AH} {v : Value} {H : AH} (h : RkP A v H) : v ≠ .pointer (some ⟨H.next, 0, none⟩) := by
  rintro rfl
  obtain ⟨i, h1, h2, h3, h4⟩ := h
  have : H.next = i := by injection h1 with e; injection e with e; injection e
  omega
theorem RkS.set {A : AH} {n : Nat} {l : List Int} {w : Value} {H : AH} {i : Nat} {cs0 : List Value} (h : RkS A n l w H) (hr : H.row i = some ⟨33, true, cs0⟩) (cs : List Value) : RkS A n l w (H.setCells i cs) := by
  refine ⟨h.1, ?_⟩
  rcases h.2 with h2 | ⟨f, h1, h2, hv, hf⟩
  · exact .inl h2
  · refine .inr ⟨f, h1, h2, hv, ?_⟩
    rw [AH.setCells_row, if_neg]
    · exact hf
    · rintro rfl
      rw [hr] at hf
      injection hf with hf
      injection hf with e
      exact absurd e (by decide)
structure RkJ (A : AH) (n : Nat) (ps ss ts : List Int) (sv xv pv : Value) (cs fs : List Nat) (t : T) (H : AH) : Prop where
  hcs : cs = [2, 5, 8] ∨ cs = [5, 8] ∨ cs = [8] ∨ cs = []
  hfs : ∀ a ∈ fs, a = 9 ∨ a = 10 ∨ a = 11
  t9 : t 9 = sv
  t10 : t 10 = xv
  t12 : t 12 = sv
  t13 : t 13 = xv
  t15 : t 15 = sv
  t16 : t 16 = xv
  t2 : t 2 = pv
  up : Up A.next A H
  sc : Sc H
  s1 : 2 ∉ cs → RkS A n ps (t 11) H
  s2 : 5 ∉ cs → RkS A n ss (t 14) H
  s3 : 8 ∉ cs → RkS A n ts (t 17) H
  p1 : 9 ∉ fs → RkP A (t 5) H
  p2 : 10 ∉ fs → RkP A (t 6) H
  p3 : 11 ∉ fs → RkP A (t 7) H
  d1 : 9 ∉ fs → 10 ∉ fs → t 5 ≠ t 6
  d2 : 9 ∉ fs → 11 ∉ fs → t 5 ≠ t 7
  d3 : 10 ∉ fs → 11 ∉ fs → t 6 ≠ t 7
theorem zb6 {a x : Nat} {fs : List Nat} (h : x ∉ fs.erase a) (hne : x ≠ a) : x ∉ fs := fun hm => h ((List.mem_erase_of_ne hne).2 hm)
theorem RkJ.call1 {A : AH} {n : Nat} {ps ss ts : List Int} {sv xv pv w : Value} {fs : List Nat} {t : T} {H H' : AH} (h : RkJ A n ps ss ts sv xv pv [2, 5, 8] fs t H) (u : Up H.next H H') (sc : Sc H') (hf : Fr 1 2 H.next H'.next H' w n ps) : RkJ A n ps ss ts sv xv pv [5, 8] fs (updO t (some 11) w) H' where
  hcs := by simp
  hfs := h.hfs
  t9 := h.t9
  t10 := h.t10
  t12 := h.t12
  t13 := h.t13
  t15 := h.t15
  t16 := h.t16
  t2 := h.t2
  up := h.up.trans u h.up.next
  sc := sc
  s1 := fun _ => hf.wide h.up.next (Nat.le_refl _)
  s2 := fun k => absurd (by simp) k
  s3 := fun k => absurd (by simp) k
  p1 := fun k => (h.p1 k).up u
  p2 := fun k => (h.p2 k).up u
  p3 := fun k => (h.p3 k).up u
  d1 := h.d1
  d2 := h.d2
  d3 := h.d3
theorem RkJ.call2 {A : AH} {n : Nat} {ps ss ts : List Int} {sv xv pv w : Value} {fs : List Nat} {t : T} {H H' : AH} (h : RkJ A n ps ss ts sv xv pv [5, 8] fs t H) (u : Up H.next H H') (sc : Sc H') (hf : Fr 1 2 H.next H'.next H' w n ss) : RkJ A n ps ss ts sv xv pv [8] fs (updO t (some 14) w) H' where
  hcs := by simp
  hfs := h.hfs
  t9 := h.t9
  t10 := h.t10
  t12 := h.t12
  t13 := h.t13
  t15 := h.t15
  t16 := h.t16
  t2 := h.t2
  up := h.up.trans u h.up.next
  sc := sc
  s1 := fun _ => (h.s1 (by simp)).up u
  s2 := fun _ => hf.wide h.up.next (Nat.le_refl _)
  s3 := fun k => absurd (by simp) k
  p1 := fun k => (h.p1 k).up u
  p2 := fun k => (h.p2 k).up u
  p3 := fun k => (h.p3 k).up u
  d1 := h.d1
  d2 := h.d2
  d3 := h.d3
theorem RkJ.call3 {A : AH} {n : Nat} {ps ss ts : List Int} {sv xv pv w : Value} {fs : List Nat} {t : T} {H H' : AH} (h : RkJ A n ps ss ts sv xv pv [8] fs t H) (u : Up H.next H H') (sc : Sc H') (hf : Fr 1 2 H.next H'.next H' w n ts) : RkJ A n ps ss ts sv xv pv [] fs (updO t (some 17) w) H' where
  hcs := by simp
  hfs := h.hfs
  t9 := h.t9
  t10 := h.t10
  t12 := h.t12
  t13 := h.t13
  t15 := h.t15
  t16 := h.t16
  t2 := h.t2
  up := h.up.trans u h.up.next
  sc := sc
  s1 := fun _ => (h.s1 (by simp)).up u
  s2 := fun _ => (h.s2 (by simp)).up u
  s3 := fun _ => hf.wide h.up.next (Nat.le_refl _)
  p1 := fun k => (h.p1 k).up u
  p2 := fun k => (h.p2 k).up u
  p3 := fun k => (h.p3 k).up u
  d1 := h.d1
  d2 := h.d2
  d3 := h.d3
theorem RkJ.free1 {A : AH} {n : Nat} {ps ss ts : List Int} {sv xv pv : Value} {cs fs : List Nat} {t : T} {H : AH} (h : RkJ A n ps ss ts sv xv pv cs fs t H) : RkJ A n ps ss ts sv xv pv cs (fs.erase 9) (upd t 5 (.pointer (some ⟨H.next, 0, none⟩))) (H.push ⟨33, true, [.slice none 0 0]⟩) where
  hcs := h.hcs
  hfs := fun a ha => h.hfs a (List.mem_of_mem_erase ha)
  t9 := h.t9
  t10 := h.t10
  t12 := h.t12
  t13 := h.t13
  t15 := h.t15
  t16 := h.t16
  t2 := h.t2
  up := h.up.push h.up.next _
  sc := h.sc.push _
  s1 := fun k => (h.s1 k).up ((Up.refl _ H).push (Nat.le_refl _) _)
  s2 := fun k => (h.s2 k).up ((Up.refl _ H).push (Nat.le_refl _) _)
  s3 := fun k => (h.s3 k).up ((Up.refl _ H).push (Nat.le_refl _) _)
  p1 := fun _ => ⟨H.next, rfl, h.up.next, Nat.lt_succ_self _, by rw [AH.push_row, if_pos rfl]⟩
  p2 := fun k => (h.p2 (zb6 k (by decide))).up ((Up.refl _ H).push (Nat.le_refl _) _)
  p3 := fun k => (h.p3 (zb6 k (by decide))).up ((Up.refl _ H).push (Nat.le_refl _) _)
  d1 := fun _ k2 => (h.p2 (zb6 k2 (by decide))).ne.symm
  d2 := fun _ k2 => (h.p3 (zb6 k2 (by decide))).ne.symm
  d3 := fun k1 k2 => h.d3 (zb6 k1 (by decide)) (zb6 k2 (by decide))
theorem RkJ.free2 {A : AH} {n : Nat} {ps ss ts : List Int} {sv xv pv : Value} {cs fs : List Nat} {t : T} {H : AH} (h : RkJ A n ps ss ts sv xv pv cs fs t H) : RkJ A n ps ss ts sv xv pv cs (fs.erase 10) (upd t 6 (.pointer (some ⟨H.next, 0, none⟩))) (H.push ⟨33, true, [.slice none 0 0]⟩) where
  hcs := h.hcs
  hfs := fun a ha => h.hfs a (List.mem_of_mem_erase ha)
  t9 := h.t9
  t10 := h.t10
  t12 := h.t12
  t13 := h.t13
  t15 := h.t15
  t16 := h.t16
  t2 := h.t2
  up := h.up.push h.up.next _
  sc := h.sc.push _
  s1 := fun k => (h.s1 k).up ((Up.refl _ H).push (Nat.le_refl _) _)
  s2 := fun k => (h.s2 k).up ((Up.refl _ H).push (Nat.le_refl _) _)
  s3 := fun k => (h.s3 k).up ((Up.refl _ H).push (Nat.le_refl _) _)
  p1 := fun k => (h.p1 (zb6 k (by decide))).up ((Up.refl _ H).push (Nat.le_refl _) _)
  p2 := fun _ => ⟨H.next, rfl, h.up.next, Nat.lt_succ_self _, by rw [AH.push_row, if_pos rfl]⟩
  p3 := fun k => (h.p3 (zb6 k (by decide))).up ((Up.refl _ H).push (Nat.le_refl _) _)
  d1 := fun k1 _ => (h.p1 (zb6 k1 (by decide))).ne
  d2 := fun k1 k2 => h.d2 (zb6 k1 (by decide)) (zb6 k2 (by decide))
  d3 := fun _ k2 => (h.p3 (zb6 k2 (by decide))).ne.symm
theorem RkJ.free3 {A : AH} {n : Nat} {ps ss ts : List Int} {sv xv pv : Value} {cs fs : List Nat} {t : T} {H : AH} (h : RkJ A n ps ss ts sv xv pv cs fs t H) : RkJ A n ps ss ts sv xv pv cs (fs.erase 11) (upd t 7 (.pointer (some ⟨H.next, 0, none⟩))) (H.push ⟨33, true, [.slice none 0 0]⟩) where
  hcs := h.hcs
  hfs := fun a ha => h.hfs a (List.mem_of_mem_erase ha)
  t9 := h.t9
  t10 := h.t10
  t12 := h.t12
  t13 := h.t13
  t15 := h.t15
  t16 := h.t16
  t2 := h.t2
  up := h.up.push h.up.next _
  sc := h.sc.push _
  s1 := fun k => (h.s1 k).up ((Up.refl _ H).push (Nat.le_refl _) _)
  s2 := fun k => (h.s2 k).up ((Up.refl _ H).push (Nat.le_refl _) _)
  s3 := fun k => (h.s3 k).up ((Up.refl _ H).push (Nat.le_refl _) _)
  p1 := fun k => (h.p1 (zb6 k (by decide))).up ((Up.refl _ H).push (Nat.le_refl _) _)
  p2 := fun k => (h.p2 (zb6 k (by decide))).up ((Up.refl _ H).push (Nat.le_refl _) _)
  p3 := fun _ => ⟨H.next, rfl, h.up.next, Nat.lt_succ_self _, by rw [AH.push_row, if_pos rfl]⟩
  d1 := fun k1 k2 => h.d1 (zb6 k1 (by decide)) (zb6 k2 (by decide))
  d2 := fun k1 _ => (h.p1 (zb6 k1 (by decide))).ne
  d3 := fun k1 _ => (h.p2 (zb6 k1 (by decide))).ne
theorem ranking_c (n : Nat) (v : Value) (k : Nat) (l : List Int) (x : Value) (ll : List (List Int)) (ps ss ts : List Int) (H : AH) (hb : schedB n k l = true) (hres : resB n k l ll = true) (hl : ll.length ≤ 4294967296) (hv : Rd 14 H v k l) (hx : Rd2 1 H x ll)
    (hps : ps = sumsF n (fun _ o => o) (meets n l ll ll.length)) (hss : ss = sumsF n (sumF false ps) (meets n l ll ll.length)) (hts : ts = sumsF n (sumF true ps) (meets n l ll ll.length)) :
    ACalls Tryz.prog 166 [.agg #[.int .i64 n, v], x] H (fun u H' => Up H.next H H' ∧ Fr 1 2 H.next H'.next H' u n (rankL (ahd ps ss ts) n)) := by
  refine ACalls.wf (by kernel_rfl) fun hs => za3 [.tmp 4] Tryz.func166 (by kernel_rfl) rfl rfl (Nat.le_of_ble_eq_true rfl) (by kernel_rfl) ?_
  obtain ⟨hn, _, _⟩ := zaC hb
  have hone := hv.one
  have hxone := hx.one
  have hpl : ps.length = n := by rw [hps, zaS]
  have hsl : ss.length = n := by rw [hss, zaS]
  have htl : ts.length = n := by rw [hts, zaS]
  have up : Up H.next H (H.push ⟨26, true, [.int .i64 n, v]⟩) := (Up.refl _ H).push (Nat.le_refl _) _
  have e1 : (H.push ⟨26, true, [.int .i64 n, v]⟩).row H.next = some ⟨26, true, [.int .i64 n, v]⟩ := by rw [AH.push_row, if_pos rfl]
  have n1 : (H.push ⟨26, true, [.int .i64 n, v]⟩).next = H.next + 1 := rfl
  have sc1 : Sc (H.push ⟨26, true, [.int .i64 n, v]⟩) := Sc.push hs _
  try simp (disch := first | omega | (simp only [L3] <;> omega)) only [Sall,evalOp,init,binA_s,binE,binI,unE,convE,okNil,builtE,gv,TD.isAgg,resV,↓reduceIte,Nat.reduceEqDiff,reduceCtorEq,Nat.reduceAdd,Nat.reduceMul,Nat.reduceLeDiff,za0,za1,Int.reduceEq,Int.reduceLT,Int.reduceLE,Nat.reduceLT,tiA, hone]
  revert up e1 n1 sc1
  generalize H.push ⟨26, true, [.int .i64 n, v]⟩ = H1
  intro up e1 n1 sc1
  have hvU : ∀ H' : AH, Up H1.next H1 H' → Rd 14 H' v k l := fun H' u => hv.same fun i r hr => by
    have hi := hs _ _ hr
    rw [u.row i (by omega), up.row i hi]; exact hr
  have hxU : ∀ H' : AH, Up H1.next H1 H' → Rd2 1 H' x ll := fun H' u => hx.same fun i r hr => by
    have hi := hs _ _ hr
    rw [u.row i (by omega), up.row i hi]; exact hr
  refine zdJ (fun t H2 => ∃ (i5 i6 i7 : Nat) (v1 v2 v3 : Value), t 5 = .pointer (some ⟨i5, 0, none⟩) ∧ t 6 = .pointer (some ⟨i6, 0, none⟩) ∧ t 7 = .pointer (some ⟨i7, 0, none⟩) ∧ t 2 = .pointer (some ⟨H.next, 0, none⟩) ∧ Up H1.next H1 H2 ∧ Sc H2 ∧
    i5 < H2.next ∧ i6 < H2.next ∧ i7 < H2.next ∧ H2.row i5 = some ⟨33, true, [v1]⟩ ∧ H2.row i6 = some ⟨33, true, [v2]⟩ ∧ H2.row i7 = some ⟨33, true, [v3]⟩ ∧ RkS H1 n ps v1 H2 ∧ RkS H1 n ss v2 H2 ∧ RkS H1 n ts v3 H2) ?_ ?_
  · refine zi7 [0, 1, 3, 4, 6, 7] [2, 5, 8] [9, 10, 11] (OT.run [12, 13, 14] .nil) (by kernel_rfl) (by kernel_rfl) (Nat.le_of_ble_eq_true rfl) (RkJ H1 n ps ss ts (.agg #[.int .i64 n, v]) x (.pointer (some ⟨H.next, 0, none⟩))) ⟨?_, ?_, ?_⟩ ?_
    · intro c cs fs t H2 hJ
      rcases hJ.hcs with e | e | e | e
      · injection e with e1 e2
        subst e1; subst e2
        have hc := zf6 n v k l x ll H2 hb hres hl (hvU H2 hJ.up) (hxU H2 hJ.up)
        rw [← hps] at hc
        try simp (disch := first | omega | (simp only [L3] <;> omega)) only [Sall,evalOp,init,binA_s,binE,binI,unE,convE,okNil,builtE,gv,TD.isAgg,resV,↓reduceIte,Nat.reduceEqDiff,reduceCtorEq,Nat.reduceAdd,Nat.reduceMul,Nat.reduceLeDiff,za0,za1,Int.reduceEq,Int.reduceLT,Int.reduceLE,Nat.reduceLT,tiA, zaF, zaE, za5, za4, hJ.t9, hJ.t10]
        refine hc.sc.mono ?_
        rintro w H3 ⟨⟨up3, hf3⟩, sc3⟩
        exact ⟨.inr (.inr (up3.le hJ.sc)), hJ.call1 up3 sc3 hf3⟩
      · injection e with e1 e2
        subst e1; subst e2
        have hc := second_c n v k l x ll H2 hb hres hl (hvU H2 hJ.up) (hxU H2 hJ.up)
        rw [second_sum, ← hps, ← hss] at hc
        try simp (disch := first | omega | (simp only [L3] <;> omega)) only [Sall,evalOp,init,binA_s,binE,binI,unE,convE,okNil,builtE,gv,TD.isAgg,resV,↓reduceIte,Nat.reduceEqDiff,reduceCtorEq,Nat.reduceAdd,Nat.reduceMul,Nat.reduceLeDiff,za0,za1,Int.reduceEq,Int.reduceLT,Int.reduceLE,Nat.reduceLT,tiA, zaF, zaE, za5, za4, hJ.t12, hJ.t13]
        refine hc.sc.mono ?_
        rintro w H3 ⟨⟨up3, hf3⟩, sc3⟩
        exact ⟨.inr (.inr (up3.le hJ.sc)), hJ.call2 up3 sc3 hf3⟩
      · injection e with e1 e2
        subst e1; subst e2
        have hc := third_c n v k l x ll H2 hb hres hl (hvU H2 hJ.up) (hxU H2 hJ.up)
        rw [third_sum, ← hps, ← hts] at hc
        try simp (disch := first | omega | (simp only [L3] <;> omega)) only [Sall,evalOp,init,binA_s,binE,binI,unE,convE,okNil,builtE,gv,TD.isAgg,resV,↓reduceIte,Nat.reduceEqDiff,reduceCtorEq,Nat.reduceAdd,Nat.reduceMul,Nat.reduceLeDiff,za0,za1,Int.reduceEq,Int.reduceLT,Int.reduceLE,Nat.reduceLT,tiA, zaF, zaE, za5, za4, hJ.t15, hJ.t16]
        refine hc.sc.mono ?_
        rintro w H3 ⟨⟨up3, hf3⟩, sc3⟩
        exact ⟨.inr (.inr (up3.le hJ.sc)), hJ.call3 up3 sc3 hf3⟩
      · cases e
    · intro a cs fs t H2 ha hJ
      rcases hJ.hfs a ha with rfl | rfl | rfl
      · try simp (disch := first | omega | (simp only [L3] <;> omega)) only [Sall,evalOp,init,binA_s,binE,binI,unE,convE,okNil,builtE,gv,TD.isAgg,resV,↓reduceIte,Nat.reduceEqDiff,reduceCtorEq,Nat.reduceAdd,Nat.reduceMul,Nat.reduceLeDiff,za0,za1,Int.reduceEq,Int.reduceLT,Int.reduceLE,Nat.reduceLT,tiA, zaF, zaE, za5, za4]
        exact ⟨.inr (.inr (hJ.sc.le _)), hJ.free1⟩
      · try simp (disch := first | omega | (simp only [L3] <;> omega)) only [Sall,evalOp,init,binA_s,binE,binI,unE,convE,okNil,builtE,gv,TD.isAgg,resV,↓reduceIte,Nat.reduceEqDiff,reduceCtorEq,Nat.reduceAdd,Nat.reduceMul,Nat.reduceLeDiff,za0,za1,Int.reduceEq,Int.reduceLT,Int.reduceLE,Nat.reduceLT,tiA, zaF, zaE, za5, za4]
        exact ⟨.inr (.inr (hJ.sc.le _)), hJ.free2⟩
      · try simp (disch := first | omega | (simp only [L3] <;> omega)) only [Sall,evalOp,init,binA_s,binE,binI,unE,convE,okNil,builtE,gv,TD.isAgg,resV,↓reduceIte,Nat.reduceEqDiff,reduceCtorEq,Nat.reduceAdd,Nat.reduceMul,Nat.reduceLeDiff,za0,za1,Int.reduceEq,Int.reduceLT,Int.reduceLE,Nat.reduceLT,tiA, zaF, zaE, za5, za4]
        exact ⟨.inr (.inr (hJ.sc.le _)), hJ.free3⟩
    · intro t H2 hJ
      obtain ⟨i5, h5, a5, b5, r5⟩ := hJ.p1 (by simp)
      obtain ⟨i6, h6, a6, b6, r6⟩ := hJ.p2 (by simp)
      obtain ⟨i7, h7, a7, b7, r7⟩ := hJ.p3 (by simp)
      have d56 : ¬ i5 = i6 := fun e => hJ.d1 (by simp) (by simp) (by rw [h5, h6, e])
      have d57 : ¬ i5 = i7 := fun e => hJ.d2 (by simp) (by simp) (by rw [h5, h7, e])
      have d67 : ¬ i6 = i7 := fun e => hJ.d3 (by simp) (by simp) (by rw [h6, h7, e])
      have d65 : ¬ i6 = i5 := fun e => d56 e.symm
      have d75 : ¬ i7 = i5 := fun e => d57 e.symm
      have d76 : ¬ i7 = i6 := fun e => d67 e.symm
      have f1 := hJ.s1 (by simp)
      have f2 := hJ.s2 (by simp)
      have f3 := hJ.s3 (by simp)
      have o1 := Rd.one (Fr.rd f1)
      have o2 := Rd.one (Fr.rd f2)
      have o3 := Rd.one (Fr.rd f3)
      have t2 := hJ.t2
      have hup := hJ.up
      have hsc := hJ.sc
      try simp (disch := first | omega | (simp only [L3] <;> omega)) only [Sall,evalOp,init,binA_s,binE,binI,unE,convE,okNil,builtE,gv,TD.isAgg,resV,↓reduceIte,Nat.reduceEqDiff,reduceCtorEq,Nat.reduceAdd,Nat.reduceMul,Nat.reduceLeDiff,za0,za1,Int.reduceEq,Int.reduceLT,Int.reduceLE,Nat.reduceLT,tiA, zaF, zaE, za5, za4, h5, h6, h7, r5, r6, r7, o1, o2, o3, d56, d57, d67, d65, d75, d76, t2]
      refine ⟨.inr (.inl (by kernel_rfl)), ?_⟩
      try simp (disch := first | omega | (simp only [L3] <;> omega)) only [Sall,evalOp,init,binA_s,binE,binI,unE,convE,okNil,builtE,gv,TD.isAgg,resV,↓reduceIte,Nat.reduceEqDiff,reduceCtorEq,Nat.reduceAdd,Nat.reduceMul,Nat.reduceLeDiff,za0,za1,Int.reduceEq,Int.reduceLT,Int.reduceLE,Nat.reduceLT,tiA, zaF, zaE, za5, za4, h5, h6, h7, r5, r6, r7, o1, o2, o3, d56, d57, d67, d65, d75, d76, t2]
      refine ⟨.inr (.inl (by kernel_rfl)), ?_⟩
      try simp (disch := first | omega | (simp only [L3] <;> omega)) only [Sall,evalOp,init,binA_s,binE,binI,unE,convE,okNil,builtE,gv,TD.isAgg,resV,↓reduceIte,Nat.reduceEqDiff,reduceCtorEq,Nat.reduceAdd,Nat.reduceMul,Nat.reduceLeDiff,za0,za1,Int.reduceEq,Int.reduceLT,Int.reduceLE,Nat.reduceLT,tiA, zaF, zaE, za5, za4, h5, h6, h7, r5, r6, r7, o1, o2, o3, d56, d57, d67, d65, d75, d76, t2]
      refine ⟨.inr (.inl (by kernel_rfl)), i5, i6, i7, t 11, t 14, t 17, ?_⟩
      have q6 : (H2.setCells i5 [t 11]).row i6 = some ⟨33, true, [.slice none 0 0]⟩ := by rw [AH.setCells_row, if_neg d65]; exact r6
      have q7 : ((H2.setCells i5 [t 11]).setCells i6 [t 14]).row i7 = some ⟨33, true, [.slice none 0 0]⟩ := by rw [AH.setCells_row, if_neg d76, AH.setCells_row, if_neg d75]; exact r7
      try simp (disch := first | omega | (simp only [L3] <;> omega)) only [Sall,evalOp,init,binA_s,binE,binI,unE,convE,okNil,builtE,gv,TD.isAgg,resV,↓reduceIte,Nat.reduceEqDiff,reduceCtorEq,Nat.reduceAdd,Nat.reduceMul,Nat.reduceLeDiff,za0,za1,Int.reduceEq,Int.reduceLT,Int.reduceLE,Nat.reduceLT,tiA, h5, h6, h7, t2, r5, r6, r7, d56, d57, d67, d65, d75, d76]
      exact ⟨((hup.set a5 _).set a6 _).set a7 _, ((hsc.set _ _).set _ _).set _ _, b5, b6, b7, ((RkS.set f1 r5 _).set q6 _).set q7 _, ((RkS.set f2 r5 _).set q6 _).set q7 _, ((RkS.set f3 r5 _).set q6 _).set q7 _⟩
    · try simp (disch := first | omega | (simp only [L3] <;> omega)) only [Sall,evalOp,init,binA_s,binE,binI,unE,convE,okNil,builtE,gv,TD.isAgg,resV,↓reduceIte,Nat.reduceEqDiff,reduceCtorEq,Nat.reduceAdd,Nat.reduceMul,Nat.reduceLeDiff,za0,za1,Int.reduceEq,Int.reduceLT,Int.reduceLE,Nat.reduceLT,tiA, zaF, zaE, za5, za4, e1]
      exact ⟨by simp, by simp, rfl, rfl, rfl, rfl, rfl, rfl, rfl, Up.refl _ _, sc1, fun k => absurd (by simp) k, fun k => absurd (by simp) k, fun k => absurd (by simp) k, fun k => absurd (by simp) k, fun k => absurd (by simp) k, fun k => absurd (by simp) k, fun k => absurd (by simp) k, fun k => absurd (by simp) k, fun k => absurd (by simp) k⟩
  · rintro t H2 ⟨i5, i6, i7, v1, v2, v3, h5, h6, h7, h2, u2, sc2, b5, b6, b7, r5, r6, r7, f1, f2, f3⟩
    have n2 := u2.next
    have e2 : H2.row H.next = some ⟨26, true, [.int .i64 n, v]⟩ := by rw [u2.row _ (by omega), e1]
    try simp (disch := first | omega | (simp only [L3] <;> omega)) only [Sall,evalOp,init,binA_s,binE,binI,unE,convE,okNil,builtE,gv,TD.isAgg,resV,↓reduceIte,Nat.reduceEqDiff,reduceCtorEq,Nat.reduceAdd,Nat.reduceMul,Nat.reduceLeDiff,za0,za1,Int.reduceEq,Int.reduceLT,Int.reduceLE,Nat.reduceLT,tiA, h2, e2, w64]
    refine (numbersFrom_c 0 ((n : Int) - 1) n (by omega) (by omega) (by omega) H2).sc.mono ?_
    rintro nv H3 ⟨⟨up3, hf3⟩, sc3⟩
    have n3 := up3.next
    obtain ⟨di, q1, q2, rfl, q3⟩ := hf3.get (by omega)
    refine Holds.mp ?_
    try simp (disch := first | omega | (simp only [L3] <;> omega)) only [Sall,evalOp,init,binA_s,binE,binI,unE,convE,okNil,builtE,gv,TD.isAgg,resV,↓reduceIte,Nat.reduceEqDiff,reduceCtorEq,Nat.reduceAdd,Nat.reduceMul,Nat.reduceLeDiff,za0,za1,Int.reduceEq,Int.reduceLT,Int.reduceLE,Nat.reduceLT,tiA, h5, h6, h7, List.mem_cons, List.not_mem_nil, or_false, forall_eq_or_imp, forall_eq, Array.size_empty]
    refine (sortStable_c n (by omega) 264 [.pointer (some ⟨i5, 0, none⟩), .pointer (some ⟨i6, 0, none⟩), .pointer (some ⟨i7, 0, none⟩)] (cmpR ps ss ts) di n H3 q2 q3 (fun a b => cmpR_range ps ss ts a b) ?_).mono ?_
    · intro a b H4 ha hb' hS
      obtain ⟨s1, s2, s3⟩ := hS
      have g5 : H4.row i5 = some ⟨33, true, [v1]⟩ := by rw [s2 _ (by omega) (by omega), up3.row _ b5]; exact r5
      have g6 : H4.row i6 = some ⟨33, true, [v2]⟩ := by rw [s2 _ (by omega) (by omega), up3.row _ b6]; exact r6
      have g7 : H4.row i7 = some ⟨33, true, [v3]⟩ := by rw [s2 _ (by omega) (by omega), up3.row _ b7]; exact r7
      have same : ∀ i, H1.next ≤ i → i < H2.next → H4.row i = H2.row i := fun i _ hi => by rw [s2 _ (by omega) (by omega), up3.row _ hi]
      have w1 : Rd 1 H4 v1 ps.length ps := by rw [hpl]; exact (Fr.same f1 same).rd
      have w2 : Rd 1 H4 v2 ss.length ss := by rw [hsl]; exact (Fr.same f2 same).rd
      have w3 : Rd 1 H4 v3 ts.length ts := by rw [htl]; exact (Fr.same f3 same).rd
      exact rkClosure_c ps ss ts i5 i6 i7 v1 v2 v3 a b H4 g5 g6 g7 w1 w2 w3 (by omega) (by omega)
    · rintro r H4 ⟨⟨s1, s2, s3⟩, hd⟩
      refine Holds.mp ?_
      try simp (disch := first | omega | (simp only [L3] <;> omega)) only [Sall,evalOp,init,binA_s,binE,binI,unE,convE,okNil,builtE,gv,TD.isAgg,resV,↓reduceIte,Nat.reduceEqDiff,reduceCtorEq,Nat.reduceAdd,Nat.reduceMul,Nat.reduceLeDiff,za0,za1,Int.reduceEq,Int.reduceLT,Int.reduceLE,Nat.reduceLT,tiA, true_and]
      have eg : (fun a b => decide (cmpR ps ss ts a b < 0)) = ahd ps ss ts := by funext a b; exact cmpR_ahd ps ss ts a b
      rw [eg] at hd
      exact ⟨⟨by omega, fun i hi => by rw [s2 i (by omega) (by omega), up3.row i (by omega), u2.row i (by omega), up.row i hi]⟩, by rw [zb8]; omega, .inr ⟨di, by omega, by omega, rfl, hd⟩⟩
end Go.Proofs.YtpienljnoaendaaGreat.A
end

section
set_option maxRecDepth 100000
set_option maxHeartbeats 2000000
namespace Go.Proofs.YtpienljnoaendaaGreat.A
open Go Go.Abs Go.RowKit
theorem l10Ranking_c (n : Nat) (v : Value) (k : Nat) (l : List Int) (x : Value) (ll : List (List Int)) (ps ss ts : List Int) (H : AH) (hb : schedB n k l = true) (hres : resB n k l ll = true) (hl : ll.length ≤ 4294967296) (hv : Rd 14 H v k l) (hx : Rd2 1 H x ll)
    (hps : ps = sumsF n (fun _ o => o) (meets n l ll ll.length)) (hss : ss = sumsF n (sumF false ps) (meets n l ll ll.length)) (hts : ts = sumsF n (sumF true ps) (meets n l ll ll.length)) :
    ACalls Tryz.prog 174 [.agg #[.int .i64 n, v], x] H (fun u H' => Up H.next H H' ∧ Fr 1 2 H.next H'.next H' u n (rankL (ahd ps ss ts) n)) := by
  refine ACalls.wf (by kernel_rfl) fun hs => za3 [.tmp 4] Tryz.func174 (by kernel_rfl) rfl rfl (Nat.le_of_ble_eq_true rfl) (by kernel_rfl) ?_
  obtain ⟨hn, _, _⟩ := zaC hb
  have hone := hv.one
  have hxone := hx.one
  have hpl : ps.length = n := by rw [hps, zaS]
  have hsl : ss.length = n := by rw [hss, zaS]
  have htl : ts.length = n := by rw [hts, zaS]
  obtain ⟨G, eG⟩ : ∃ G, G = ahd ps ss ts := ⟨_, rfl⟩
  rw [← eG]
  have up : Up H.next H (H.push ⟨26, true, [.int .i64 n, v]⟩) := (Up.refl _ H).push (Nat.le_refl _) _
  have e1 : (H.push ⟨26, true, [.int .i64 n, v]⟩).row H.next = some ⟨26, true, [.int .i64 n, v]⟩ := by rw [AH.push_row, if_pos rfl]
  have n1 : (H.push ⟨26, true, [.int .i64 n, v]⟩).next = H.next + 1 := rfl
  have sc1 : Sc (H.push ⟨26, true, [.int .i64 n, v]⟩) := Sc.push hs _
  try simp (disch := first | omega | (simp only [L3] <;> omega)) only [Sall,evalOp,init,binA_s,binE,binI,unE,convE,okNil,builtE,gv,TD.isAgg,resV,↓reduceIte,Nat.reduceEqDiff,reduceCtorEq,Nat.reduceAdd,Nat.reduceMul,Nat.reduceLeDiff,za0,za1,Int.reduceEq,Int.reduceLT,Int.reduceLE,Nat.reduceLT,tiA, hone]
  revert up e1 n1 sc1
  generalize H.push ⟨26, true, [.int .i64 n, v]⟩ = H1
  intro up e1 n1 sc1
  have hvU : ∀ H' : AH, Up H1.next H1 H' → Rd 14 H' v k l := fun H' u => hv.same fun i r hr => by
    have hi := hs _ _ hr
    rw [u.row i (by omega), up.row i hi]; exact hr
  have hxU : ∀ H' : AH, Up H1.next H1 H' → Rd2 1 H' x ll := fun H' u => hx.same fun i r hr => by
    have hi := hs _ _ hr
    rw [u.row i (by omega), up.row i hi]; exact hr
  refine draw_in [0, 1, 2, 3, 5, 6, 8, 9, 4, 7, 10, 11, 12, 13] (by kernel_rfl) (by kernel_rfl) (by kernel_rfl) ?_
  try simp (disch := first | omega | (simp only [L3] <;> omega)) only [Sall,evalOp,init,binA_s,binE,binI,unE,convE,okNil,builtE,gv,TD.isAgg,resV,↓reduceIte,Nat.reduceEqDiff,reduceCtorEq,Nat.reduceAdd,Nat.reduceMul,Nat.reduceLeDiff,za0,za1,Int.reduceEq,Int.reduceLT,Int.reduceLE,Nat.reduceLT,tiA, e1, builtE, hx.len]
  have c1 := zcQ n v k l x ll ll.length H1 hb hres (Nat.le_refl _) hl (hvU H1 (Up.refl _ _)) (hxU H1 (Up.refl _ _))
  rw [← hps] at c1
  refine c1.sc.mono ?_
  rintro w1 H2 ⟨⟨up2, f1⟩, sc2⟩
  have n2 := up2.next
  refine ⟨.inr (.inr (up2.le sc1)), ?_⟩
  refine Holds.mp ?_
  try simp (disch := first | omega | (simp only [L3] <;> omega)) only [Sall,evalOp,init,binA_s,binE,binI,unE,convE,okNil,builtE,gv,TD.isAgg,resV,↓reduceIte,Nat.reduceEqDiff,reduceCtorEq,Nat.reduceAdd,Nat.reduceMul,Nat.reduceLeDiff,za0,za1,Int.reduceEq,Int.reduceLT,Int.reduceLE,Nat.reduceLT,tiA, true_and]
  have c2 := l10Sums_c n v k l x ll false H2 hb hres hl (hvU H2 up2) (hxU H2 up2)
  rw [← hps, ← hss] at c2
  refine c2.sc.mono ?_
  rintro w2 H3 ⟨⟨up3, f2⟩, sc3⟩
  have n3 := up3.next
  refine ⟨.inr (.inr (up3.le sc2)), ?_⟩
  refine Holds.mp ?_
  try simp (disch := first | omega | (simp only [L3] <;> omega)) only [Sall,evalOp,init,binA_s,binE,binI,unE,convE,okNil,builtE,gv,TD.isAgg,resV,↓reduceIte,Nat.reduceEqDiff,reduceCtorEq,Nat.reduceAdd,Nat.reduceMul,Nat.reduceLeDiff,za0,za1,Int.reduceEq,Int.reduceLT,Int.reduceLE,Nat.reduceLT,tiA, true_and]
  have c3 := l10Sums_c n v k l x ll true H3 hb hres hl (hvU H3 (up2.trans up3 (by omega))) (hxU H3 (up2.trans up3 (by omega)))
  rw [← hps, ← hts] at c3
  refine c3.sc.mono ?_
  rintro w3 H4 ⟨⟨up4, f3⟩, sc4⟩
  have n4 := up4.next
  refine ⟨.inr (.inr (up4.le sc3)), ?_⟩
  have u4 : Up H1.next H1 H4 := (up2.trans up3 (by omega)).trans up4 (by omega)
  have e4 : H4.row H.next = some ⟨26, true, [.int .i64 n, v]⟩ := by rw [u4.row _ (by omega), e1]
  have g1 : Fr 1 2 H1.next H2.next H4 w1 n ps := f1.same fun i _ hi => by rw [up4.row i (by omega), up3.row i (by omega)]
  have g2 : Fr 1 2 H2.next H3.next H4 w2 n ss := f2.same fun i _ hi => by rw [up4.row i (by omega)]
  refine Holds.mp ?_
  obtain ⟨y1, a1, b1, ew1, r1⟩ := g1.get (by omega)
  obtain ⟨y2, a2, b2, ew2, r2⟩ := g2.get (by omega)
  obtain ⟨y3, a3, b3, ew3, r3⟩ := f3.get (by omega)
  try simp (disch := first | omega | (simp only [L3] <;> omega)) only [Sall,evalOp,init,binA_s,binE,binI,unE,convE,okNil,builtE,gv,TD.isAgg,resV,↓reduceIte,Nat.reduceEqDiff,reduceCtorEq,Nat.reduceAdd,Nat.reduceMul,Nat.reduceLeDiff,za0,za1,Int.reduceEq,Int.reduceLT,Int.reduceLE,Nat.reduceLT,tiA, zaN]
  refine za7 (fun m t H' => ∃ (a : Nat) (u : Value) (lo : Nat), m = n - a ∧ a ≤ n ∧ t 9 = .int .i64 a ∧ t 8 = u ∧ t 5 = w1 ∧ t 6 = w2 ∧ t 7 = w3 ∧ t 2 = .pointer (some ⟨H.next, 0, none⟩) ∧ Up H4.next H4 H' ∧ H4.next ≤ lo ∧ Fr 1 2 lo H'.next H' u a (rankL G a)) n ?_ ?_
  · refine ⟨0, .slice (some ⟨H4.next, 0, some 1⟩) 0 0, H4.next, by omega, by omega, ?_⟩
    try simp (disch := first | omega | (simp only [L3] <;> omega)) only [Sall,evalOp,init,binA_s,binE,binI,unE,convE,okNil,builtE,gv,TD.isAgg,resV,↓reduceIte,Nat.reduceEqDiff,reduceCtorEq,Nat.reduceAdd,Nat.reduceMul,Nat.reduceLeDiff,za0,za1,Int.reduceEq,Int.reduceLT,Int.reduceLE,Nat.reduceLT,tiA, Int.natCast_zero]
    exact ⟨(Up.refl _ H4).push (Nat.le_refl _) _, rfl, .inr ⟨H4.next, by omega, by omega, rfl, by rw [AH.push_row, if_pos rfl]; rfl⟩⟩
  · rintro m t H' ⟨a, u, lo, hm, han, h9, h8, h5, h6, h7, h2, hup, hlo, hfr⟩
    have hup1 := hup.next
    have e5 : H'.row H.next = some ⟨26, true, [.int .i64 n, v]⟩ := by rw [hup.row _ (by omega), e4]
    try simp (disch := first | omega | (simp only [L3] <;> omega)) only [Sall,evalOp,init,binA_s,binE,binI,unE,convE,okNil,builtE,gv,TD.isAgg,resV,↓reduceIte,Nat.reduceEqDiff,reduceCtorEq,Nat.reduceAdd,Nat.reduceMul,Nat.reduceLeDiff,za0,za1,Int.reduceEq,Int.reduceLT,Int.reduceLE,Nat.reduceLT,tiA, h9, h2, e5]
    refine za6 (fun h => ?_) (fun h => ?_)
    · have hla := zb8 G a
      have zz : zeros 1 [.int .i64 0] = [.int .i64 0] := rfl
      have hflen := hfr.rd.len
      try simp (disch := first | omega | (simp only [L3] <;> omega)) only [Sall,evalOp,init,binA_s,binE,binI,unE,convE,okNil,builtE,gv,TD.isAgg,resV,↓reduceIte,Nat.reduceEqDiff,reduceCtorEq,Nat.reduceAdd,Nat.reduceMul,Nat.reduceLeDiff,za0,za1,Int.reduceEq,Int.reduceLT,Int.reduceLE,Nat.reduceLT,tiA, h9, h8, h2, builtE, hflen, zz, zaO]
      obtain ⟨H6, e6⟩ : ∃ H6, H6 = H'.push ⟨2, true, [.int .i64 a]⟩ := ⟨_, rfl⟩
      have n6 : H6.next = H'.next + 1 := by rw [e6]; rfl
      have s6 : ∀ i, i < H'.next → H6.row i = H'.row i := fun i hi => by rw [e6, AH.push_row, if_neg (by omega)]
      rw [← e6]
      clear e6
      refine zfM (k := 1) (lo := lo) (hi := H'.next) (l := rankL G a) (m := [(a : Int)]) (hfr.same fun i _ hi => s6 i (by omega)) rfl (by omega) rfl (by omega) (by decide) (by omega) (by omega) ?_
      intro v' H7 n7 s7 f7
      have hend := insAt_end (rankL G a) (a : Int)
      rw [hla] at hend
      rw [← hend] at f7
      obtain ⟨oi, p1, p2, rfl, p3⟩ := f7.get (by omega)
      have up7 : Up H4.next H4 H7 := ⟨by omega, fun i hi => by rw [s7 i (by omega) (by omega), s6 i (by omega), hup.row i hi]⟩
      try simp (disch := first | omega | (simp only [L3] <;> omega)) only [Sall,evalOp,init,binA_s,binE,binI,unE,convE,okNil,builtE,gv,TD.isAgg,resV,↓reduceIte,Nat.reduceEqDiff,reduceCtorEq,Nat.reduceAdd,Nat.reduceMul,Nat.reduceLeDiff,za0,za1,Int.reduceEq,Int.reduceLT,Int.reduceLE,Nat.reduceLT,tiA, h9, h5, h6, h7, h2]
      refine za7 (fun z t H8 => ∃ (j : Nat) (y : Int), z = j ∧ j ≤ a ∧ bubAt G (rankL G a) a a = bubAt G (rankL G a) a j ∧ t 10 = .int .i64 j ∧ t 9 = .int .i64 a ∧ t 8 = .slice (some ⟨oi, 0, some 1⟩) (a + 1) (a + 1) ∧ t 5 = w1 ∧ t 6 = w2 ∧ t 7 = w3 ∧ t 2 = .pointer (some ⟨H.next, 0, none⟩) ∧ Up H4.next H4 H8 ∧ oi < H8.next ∧ H8.row oi = some ⟨2, true, ints (insAt (rankL G a) j y)⟩) a ?_ ?_
      · refine ⟨a, a, rfl, Nat.le_refl _, rfl, ?_⟩
        try simp (disch := first | omega | (simp only [L3] <;> omega)) only [Sall,evalOp,init,binA_s,binE,binI,unE,convE,okNil,builtE,gv,TD.isAgg,resV,↓reduceIte,Nat.reduceEqDiff,reduceCtorEq,Nat.reduceAdd,Nat.reduceMul,Nat.reduceLeDiff,za0,za1,Int.reduceEq,Int.reduceLT,Int.reduceLE,Nat.reduceLT,tiA, h9, h5, h6, h7, h2]
        exact ⟨up7, by omega, p3⟩
      · rintro z t H8 ⟨j, y, hz, hja, hbub, h10, h9, h8, h5, h6, h7, h2, u8, o8, r8⟩
        have n8 := u8.next
        have hil : (insAt (rankL G a) j y).length = a + 1 := by rw [zdH (by omega), hla]
        try simp (disch := first | omega | (simp only [L3] <;> omega)) only [Sall,evalOp,init,binA_s,binE,binI,unE,convE,okNil,builtE,gv,TD.isAgg,resV,↓reduceIte,Nat.reduceEqDiff,reduceCtorEq,Nat.reduceAdd,Nat.reduceMul,Nat.reduceLeDiff,za0,za1,Int.reduceEq,Int.reduceLT,Int.reduceLE,Nat.reduceLT,tiA, h10]
        refine za6 (fun h => ?_) (fun h => ?_)
        · have q1 : H8.row y1 = some ⟨2, true, ints ps⟩ := by rw [u8.row _ (by omega)]; exact r1
          have q2 : H8.row y2 = some ⟨2, true, ints ss⟩ := by rw [u8.row _ (by omega)]; exact r2
          have q3 : H8.row y3 = some ⟨2, true, ints ts⟩ := by rw [u8.row _ (by omega)]; exact r3
          have gb := zhM (show j - 1 < j by omega) (show j ≤ (rankL G a).length by omega) y
          have gr := zg8 G a (j - 1) (by omega)
          have gset := zdV (show j ≤ (rankL G a).length by omega) ((rankL G a).getD (j - 1) 0) y
          have gstep := zh3 (l := rankL G a) (j := j - 1) (by omega)
          have gby := bubAt_yes (g := G) (l := rankL G a) (x := (a : Int)) (j := j - 1)
          have gbn := bubAt_no (g := G) (l := rankL G a) (x := (a : Int)) (j := j - 1)
          rw [show j - 1 + 1 = j by omega] at gstep gby gbn
          have e2 : (ints (insAt (rankL G a) j y))[j - 1]? = some (.int .i64 ((rankL G a).getD (j - 1) 0)) := by
            rw [ints_get? _ _ (by omega), gb]
          revert gr gset gstep gby gbn e2
          generalize (rankL G a).getD (j - 1) 0 = bI
          intro gr gset gstep gby gbn e2
          obtain ⟨bN, rfl⟩ : ∃ bN : Nat, bI = bN := ⟨bI.toNat, by omega⟩
          have hjm : ((j : Int) - 1).toNat = j - 1 := by omega
          have ga1 := ints_get? ps a (by omega)
          have ga2 := ints_get? ss a (by omega)
          have ga3 := ints_get? ts a (by omega)
          have gb1 := ints_get? ps bN (by omega)
          have gb2 := ints_get? ss bN (by omega)
          have gb3 := ints_get? ts bN (by omega)
          have eg : G a bN = (decide (ps.getD bN 0 < ps.getD a 0) || (decide (ps.getD a 0 = ps.getD bN 0) && (decide (ss.getD bN 0 < ss.getD a 0) || (decide (ss.getD a 0 = ss.getD bN 0) && decide (ts.getD bN 0 < ts.getD a 0))))) := by
            rw [eG]; rfl
          revert ga1 ga2 ga3 gb1 gb2 gb3 eg
          generalize ps.getD a 0 = pa
          generalize ps.getD bN 0 = pb
          generalize ss.getD a 0 = sa
          generalize ss.getD bN 0 = sb
          generalize ts.getD a 0 = ta
          generalize ts.getD bN 0 = tb
          intro ga1 ga2 ga3 gb1 gb2 gb3 eg
          try simp (disch := first | omega | (simp only [L3] <;> omega)) only [Sall,evalOp,init,binA_s,binE,binI,unE,convE,okNil,builtE,gv,TD.isAgg,resV,↓reduceIte,Nat.reduceEqDiff,reduceCtorEq,Nat.reduceAdd,Nat.reduceMul,Nat.reduceLeDiff,za0,za1,Int.reduceEq,Int.reduceLT,Int.reduceLE,Nat.reduceLT,tiA, h8, r8, h10, e2, hjm, w64]
          (repeat refine And.intro (by omega) ?_)
          refine zdJ (fun t H9 => t 12 = .bool (G a bN) ∧ t 11 = .int .i64 bN ∧ t 10 = .int .i64 j ∧ t 9 = .int .i64 a ∧ t 8 = .slice (some ⟨oi, 0, some 1⟩) (a + 1) (a + 1) ∧ t 5 = w1 ∧ t 6 = w2 ∧ t 7 = w3 ∧ t 2 = .pointer (some ⟨H.next, 0, none⟩) ∧ H9 = H8) ?_ ?_
          · refine zaR (by kernel_rfl) (by kernel_rfl) ?_
            rw [eg]
            by_cases c1 : pb < pa
            · try simp (disch := first | omega | (simp only [L3] <;> omega)) only [Sall,evalOp,init,binA_s,binE,binI,unE,convE,okNil,builtE,gv,TD.isAgg,resV,↓reduceIte,Nat.reduceEqDiff,reduceCtorEq,Nat.reduceAdd,Nat.reduceMul,Nat.reduceLeDiff,za0,za1,Int.reduceEq,Int.reduceLT,Int.reduceLE,Nat.reduceLT,tiA, h9, h5, h6, h7, h2, h8, h10, ew1, ew2, ew3, q1, q2, q3, ga1, ga2, ga3, gb1, gb2, gb3, c1, decide_true, Bool.true_or]
              omega
            · by_cases c2 : pa = pb
              · have k2 : (pa == pb) = true := by rw [c2]; exact beq_self_eq_true _
                have d2 := decide_eq_true c2
                by_cases c3 : sb < sa
                · try simp (disch := first | omega | (simp only [L3] <;> omega)) only [Sall,evalOp,init,binA_s,binE,binI,unE,convE,okNil,builtE,gv,TD.isAgg,resV,↓reduceIte,Nat.reduceEqDiff,reduceCtorEq,Nat.reduceAdd,Nat.reduceMul,Nat.reduceLeDiff,za0,za1,Int.reduceEq,Int.reduceLT,Int.reduceLE,Nat.reduceLT,tiA, h9, h5, h6, h7, h2, h8, h10, ew1, ew2, ew3, q1, q2, q3, ga1, ga2, ga3, gb1, gb2, gb3, c1, k2, d2, c3, decide_true, decide_false, Bool.true_or, Bool.false_or, Bool.true_and]
                  omega
                · by_cases c4 : sa = sb
                  · have k4 : (sa == sb) = true := by rw [c4]; exact beq_self_eq_true _
                    have d4 := decide_eq_true c4
                    try simp (disch := first | omega | (simp only [L3] <;> omega)) only [Sall,evalOp,init,binA_s,binE,binI,unE,convE,okNil,builtE,gv,TD.isAgg,resV,↓reduceIte,Nat.reduceEqDiff,reduceCtorEq,Nat.reduceAdd,Nat.reduceMul,Nat.reduceLeDiff,za0,za1,Int.reduceEq,Int.reduceLT,Int.reduceLE,Nat.reduceLT,tiA, h9, h5, h6, h7, h2, h8, h10, ew1, ew2, ew3, q1, q2, q3, ga1, ga2, ga3, gb1, gb2, gb3, c1, k2, d2, c3, k4, d4, decide_true, decide_false, Bool.true_or, Bool.false_or, Bool.true_and]
                    omega
                  · have k4 : (sa == sb) = false := by rw [beq_eq_false_iff_ne]; exact c4
                    have d4 := decide_eq_false c4
                    try simp (disch := first | omega | (simp only [L3] <;> omega)) only [Sall,evalOp,init,binA_s,binE,binI,unE,convE,okNil,builtE,gv,TD.isAgg,resV,↓reduceIte,Nat.reduceEqDiff,reduceCtorEq,Nat.reduceAdd,Nat.reduceMul,Nat.reduceLeDiff,za0,za1,Int.reduceEq,Int.reduceLT,Int.reduceLE,Nat.reduceLT,tiA, h9, h5, h6, h7, h2, h8, h10, ew1, ew2, ew3, q1, q2, q3, ga1, ga2, ga3, gb1, gb2, gb3, c1, k2, d2, c3, k4, d4, decide_true, decide_false, Bool.true_or, Bool.false_or, Bool.true_and, Bool.false_and]
                    omega
              · have k2 : (pa == pb) = false := by rw [beq_eq_false_iff_ne]; exact c2
                have d2 := decide_eq_false c2
                try simp (disch := first | omega | (simp only [L3] <;> omega)) only [Sall,evalOp,init,binA_s,binE,binI,unE,convE,okNil,builtE,gv,TD.isAgg,resV,↓reduceIte,Nat.reduceEqDiff,reduceCtorEq,Nat.reduceAdd,Nat.reduceMul,Nat.reduceLeDiff,za0,za1,Int.reduceEq,Int.reduceLT,Int.reduceLE,Nat.reduceLT,tiA, h9, h5, h6, h7, h2, h8, h10, ew1, ew2, ew3, q1, q2, q3, ga1, ga2, ga3, gb1, gb2, gb3, c1, k2, d2, decide_true, decide_false, Bool.true_or, Bool.false_or, Bool.true_and, Bool.false_and]
                omega
          · rintro t H9 ⟨h12, h11, h10, h9, h8, h5, h6, h7, h2, rfl⟩
            cases hg : G a bN with
            | true =>
              rw [hg] at h12
              try simp (disch := first | omega | (simp only [L3] <;> omega)) only [Sall,evalOp,init,binA_s,binE,binI,unE,convE,okNil,builtE,gv,TD.isAgg,resV,↓reduceIte,Nat.reduceEqDiff,reduceCtorEq,Nat.reduceAdd,Nat.reduceMul,Nat.reduceLeDiff,za0,za1,Int.reduceEq,Int.reduceLT,Int.reduceLE,Nat.reduceLT,tiA, h12, Bool.not_true, h8, h10, h11, r8, w64]
              (repeat refine And.intro (by omega) ?_)
              refine ⟨j - 1, by omega, j - 1, bN, rfl, by omega, by rw [hbub, gby hg], by omega, h9, h5, h6, h7, h2, u8.set (by omega) _, o8, ?_⟩
              rw [zaH, gset, gstep]
            | false =>
              rw [hg] at h12
              try simp (disch := first | omega | (simp only [L3] <;> omega)) only [Sall,evalOp,init,binA_s,binE,binI,unE,convE,okNil,builtE,gv,TD.isAgg,resV,↓reduceIte,Nat.reduceEqDiff,reduceCtorEq,Nat.reduceAdd,Nat.reduceMul,Nat.reduceLeDiff,za0,za1,Int.reduceEq,Int.reduceLT,Int.reduceLE,Nat.reduceLT,tiA, h12, Bool.not_false, h8, h10, h9, r8, w64]
              (repeat refine And.intro (by omega) ?_)
              have hset := zdV (show j ≤ (rankL G a).length by omega) (a : Int) y
              refine ⟨n - (a + 1), by omega, a + 1, _, oi, rfl, by omega, by omega, rfl, h5, h6, h7, h2, u8.set (by omega) _, by omega, by rw [zb8]; omega, .inr ⟨oi, Nat.le_refl _, o8, rfl, ?_⟩⟩
              rw [zaH, hset, zcB, hbub, gbn hg, AH.setCells_row, if_pos rfl, r8]
              rfl
        · have hj0 : j = 0 := by omega
          subst hj0
          try simp (disch := first | omega | (simp only [L3] <;> omega)) only [Sall,evalOp,init,binA_s,binE,binI,unE,convE,okNil,builtE,gv,TD.isAgg,resV,↓reduceIte,Nat.reduceEqDiff,reduceCtorEq,Nat.reduceAdd,Nat.reduceMul,Nat.reduceLeDiff,za0,za1,Int.reduceEq,Int.reduceLT,Int.reduceLE,Nat.reduceLT,tiA, h8, h10, h9, r8, w64]
          (repeat refine And.intro (by omega) ?_)
          have hset := zdV (show 0 ≤ (rankL G a).length by omega) (a : Int) y
          refine ⟨n - (a + 1), by omega, a + 1, _, oi, rfl, by omega, by omega, rfl, h5, h6, h7, h2, u8.set (by omega) _, by omega, by rw [zb8]; omega, .inr ⟨oi, Nat.le_refl _, o8, rfl, ?_⟩⟩
          rw [zaH, hset, zcB, hbub, zgY, AH.setCells_row, if_pos rfl, r8]
          rfl
    · have ha : a = n := by omega
      subst ha
      try simp (disch := first | omega | (simp only [L3] <;> omega)) only [Sall,evalOp,init,binA_s,binE,binI,unE,convE,okNil,builtE,gv,TD.isAgg,resV,↓reduceIte,Nat.reduceEqDiff,reduceCtorEq,Nat.reduceAdd,Nat.reduceMul,Nat.reduceLeDiff,za0,za1,Int.reduceEq,Int.reduceLT,Int.reduceLE,Nat.reduceLT,tiA, h8]
      refine ⟨⟨by omega, fun i hi => by rw [hup.row i (by omega), u4.row i (by omega), up.row i hi]⟩, hfr.wide (by omega) (Nat.le_refl _)⟩
end Go.Proofs.YtpienljnoaendaaGreat.A
end

section
namespace Go.Abs
open Go Go.RowKit
def zfL (ops : Array Oper) (post : OT) (qs : List Nat) : Nat → List Nat → List Nat → Array Bool → Bool
  | 0, cs, fs, listed => cs.isEmpty && okPre ops post [] fs qs listed
  | n + 1, cs, fs, listed =>
    if cs.isEmpty then okPre ops post [] fs qs listed else
    !(Region.ready .any ops listed).isEmpty && (Region.ready .any ops listed).all (fun i => headIs cs i || fs.contains i) &&
    (match cs with | c :: cs' => (!(Region.ready .any ops listed).contains c) || zfL ops post qs n cs' fs (listed.setIfInBounds c true) | [] => true) &&
    fs.all fun a => (!(Region.ready .any ops listed).contains a) || zfL ops post qs n cs (fs.erase a) (listed.setIfInBounds a true)
structure PoolK (P : Program) (ops : Array Oper) (Q : T → AH → Prop) (post : OT) (qs : List Nat) (J : List Nat → List Nat → T → AH → Prop) (K : List Nat → T → AH → Prop) : Prop where
  call : ∀ c cs fs t H, J (c :: cs) fs t H → stepI P ops (J cs fs) c (ops.toList[c]?) t H
  free : ∀ a cs fs t H, a ∈ fs → J cs fs t H → stepI P ops (J cs (fs.erase a)) a (ops.toList[a]?) t H
  quiet : ∀ fs t H, J [] fs t H → awpI P ops (K fs) qs t H
  free2 : ∀ a fs t H, a ∈ fs → K fs t H → stepI P ops (K (fs.erase a)) a (ops.toList[a]?) t H
  done : ∀ t H, K [] t H → awpT P ops Q post t H
def onlyNil (K : List Nat → T → AH → Prop) : List Nat → List Nat → T → AH → Prop
  | [], fs => K fs
  | _ :: _, _ => fun _ _ => False
theorem PoolK.toJ {P : Program} {ops : Array Oper} {Q : T → AH → Prop} {post : OT} {qs : List Nat} {J : List Nat → List Nat → T → AH → Prop} {K : List Nat → T → AH → Prop} (h : PoolK P ops Q post qs J K) : PoolJ P ops Q post (onlyNil K) where
  call := fun c cs fs t H hJ => hJ.elim
  free := fun a cs fs t H ha hJ => by
    cases cs with
    | nil => exact h.free2 a fs t H ha hJ
    | cons c cs => exact hJ.elim
  done := fun t H hJ => h.done t H hJ
theorem zeV {P : Program} {ops : Array Oper} {Q : T → AH → Prop} {post : OT} {qs : List Nat} {J : List Nat → List Nat → T → AH → Prop} {K : List Nat → T → AH → Prop} (hJ : PoolK P ops Q post qs J K) : ∀ (n : Nat) (cs fs : List Nat) (listed : Array Bool) (t : T) (H : AH) (f : Nat), n = cs.length + fs.length → n + qs.length + post.depth ≤ f → Closed ops listed → zfL ops post qs n cs fs listed = true → J cs fs t H → AAny P ops Q f listed t H
  | 0, cs, fs, listed, t, H, f, hn, hf, hc, hok, h => by
    simp only [zfL, Bool.and_eq_true, List.isEmpty_iff] at hok
    obtain ⟨rfl, h3⟩ := hok
    exact zf3 hJ.toJ [] fs qs listed t H f (by simp only [List.length_nil] at hn ⊢; omega) hc h3 (hJ.quiet fs t H h)
  | n + 1, cs, fs, listed, t, H, 0, hn, hf, hc, hok, h => by omega
  | n + 1, cs, fs, listed, t, H, f + 1, hn, hf, hc, hok, h => by
    unfold zfL at hok
    split at hok
    · rename_i he
      simp only [List.isEmpty_iff] at he
      subst he
      exact zf3 hJ.toJ [] fs qs listed t H (f + 1) (by simp only [List.length_nil] at hn ⊢; omega) hc hok (hJ.quiet fs t H h)
    · simp only [Bool.and_eq_true] at hok
      obtain ⟨⟨⟨h1, h2⟩, h3⟩, h4⟩ := hok
      refine ⟨fun h0 => (by rw [h0] at h1; simp at h1), fun i hi => ?_⟩
      have hci : (Region.ready .any ops listed).contains i = true := by simpa using hi
      have h5 := List.all_eq_true.1 h2 i hi
      rw [Bool.or_eq_true] at h5
      rcases h5 with h5 | h5
      · cases cs with
        | nil => simp [headIs] at h5
        | cons c cs' =>
          have e : i = c := by simpa [headIs] using h5
          subst e
          simp only [hci, Bool.not_true, Bool.false_or] at h3
          exact zaQ (zc3 (hJ.call i cs' fs t H h)) fun t' H' hk => ⟨hk.1, zeV hJ n cs' fs _ t' H' f (by simp only [List.length_cons] at hn; omega) (by omega) (hc.set hi) h3 hk.2⟩
      · have hm : i ∈ fs := List.contains_iff_mem.1 h5
        have h6 := List.all_eq_true.1 h4 i hm
        simp only [hci, Bool.not_true, Bool.false_or] at h6
        have hle := List.length_erase_of_mem hm
        have hpos := List.length_pos_of_mem hm
        exact zaQ (zc3 (hJ.free i cs fs t H hm h)) fun t' H' hk => ⟨hk.1, zeV hJ n cs (fs.erase i) _ t' H' f (by omega) (by omega) (hc.set hi) h6 hk.2⟩
def okPre2 (ops : Array Oper) (post : OT) (qs cs fs : List Nat) : List Nat → Array Bool → Bool
  | [], listed => zfL ops post qs (cs.length + fs.length) cs fs listed
  | i :: is, listed =>
    (match ops[i]? with
     | some o => if za0 o.op = true then (Region.ready .any ops listed).contains i && Region.free .any ops listed i else Region.ready .any ops listed == [i]
     | none => false) && okPre2 ops post qs cs fs is (listed.setIfInBounds i true)
theorem zg4 {P : Program} {ops : Array Oper} {Q : T → AH → Prop} {post : OT} {qs : List Nat} {J : List Nat → List Nat → T → AH → Prop} {K : List Nat → T → AH → Prop} (hJ : PoolK P ops Q post qs J K) (cs fs : List Nat) : ∀ (is : List Nat) (listed : Array Bool) (t : T) (H : AH) (f : Nat), is.length + (cs.length + fs.length + qs.length + post.depth) ≤ f → Closed ops listed → okPre2 ops post qs cs fs is listed = true → awpI P ops (J cs fs) is t H → AAny P ops Q f listed t H
  | [], listed, t, H, f, hf, hc, hok, h => zeV hJ _ cs fs listed t H f rfl (by simpa using hf) hc hok h
  | i :: is, listed, t, H, 0, hf, hc, hok, h => by simp at hf
  | i :: is, listed, t, H, f + 1, hf, hc, hok, h => by
    simp only [okPre2, Bool.and_eq_true] at hok
    simp only [List.length_cons] at hf
    obtain ⟨h1, h2⟩ := hok
    unfold awpI at h
    cases ho : ops[i]? with
    | none => simp [ho] at h1
    | some o =>
      simp only [ho] at h1
      split at h1
      · rename_i hq
        simp only [Bool.and_eq_true] at h1
        obtain ⟨hr, hfr⟩ := h1
        have hr' : i ∈ Region.ready .any ops listed := by simpa using hr
        obtain ⟨v, hy, hk⟩ := zbN ho hq (zc3 h)
        exact zdN ho hq f listed t H hc (Region.free_spec ho hfr) hr' hy (zg4 hJ cs fs is _ _ H f (by omega) (hc.set hr') h2 hk.2)
      · have hr : Region.ready .any ops listed = [i] := by simpa using h1
        refine ⟨fun h0 => (by rw [hr] at h0; cases h0), fun j hj => ?_⟩
        have hji : j = i := by rw [hr] at hj; simpa using hj
        subst hji
        exact zaQ (zc3 h) fun t' H' hk => ⟨hk.1, zg4 hJ cs fs is _ t' H' f (by omega) (hc.set hj) h2 hk.2⟩
theorem draw_pool2 {P : Program} {id : Nat} {ops : Array Oper} {Q : Exit → T → AH → Prop} {t : T} {H : AH} (is cs fs qs : List Nat) (post : OT) (hm : P.follows .mixedOrders = true) (hok : okPre2 ops post qs cs fs is (Array.replicate ops.size false) = true) (hl : is.length + (cs.length + fs.length + qs.length + post.depth) ≤ ops.size)
    (J : List Nat → List Nat → T → AH → Prop) (K : List Nat → T → AH → Prop) (hJ : PoolK P ops (Q .normal) post qs J K) (h : awpI P ops (J cs fs) is t H) : awp P (.region id ops true) Q t H := by
  intro base ρ w tmps QC hS hd hQ
  have hA := zg4 hJ cs fs is _ t H ops.size hl ⟨by simp, fun j oj hj hl => by rw [zb1] at hl; cases hl⟩ hok h
  refine wp_region_any hm (zgO ops.size _ t H ρ w.drew tmps hA ⟨hS.1.drew, hS.2.ext (zbS (base := base) (H := H) w)⟩ ?_ fun t' H' ρ' w' tmps' hq hs he hz => ?_)
  · intro o ho i hi
    have := List.all_eq_true.1 hd o ho
    simp only [hi, decide_eq_true_eq] at this
    exact this
  · exact hQ .normal t' H' ρ' w' tmps' hq hs ((zbS (base := base) (H := H) (ρ := ρ) w).trans he) hz
end Go.Abs
end

section
set_option maxRecDepth 100000
set_option maxHeartbeats 2000000
namespace Go.Proofs.YtpienljnoaendaaGreat.A
open Go Go.Abs Go.RowKit
def ptrOf : Value → Nat
  | .pointer (some a) => a.block
  | _ => 0
def rankQ (n : Nat) (l : List Int) (ll : List (List Int)) : List Int :=
  rankL (ahd (sumsF n (fun _ o => o) (meets n l ll ll.length)) (sumsF n (sumF false (sumsF n (fun _ o => o) (meets n l ll ll.length))) (meets n l ll ll.length)) (sumsF n (sumF true (sumsF n (fun _ o => o) (meets n l ll ll.length))) (meets n l ll ll.length))) n
def nextQ (n k : Nat) (l : List Int) (ll : List (List Int)) : List (List Int) :=
  matF n (fun i k' => mtM (meetM n l k) ((rankQ n l ll).getD i 0).toNat ((rankQ n l ll).getD k' 0).toNat) (n + 1) (freeL n) 0
def nextC (q : Int) (k : Nat) (l : List Int) (ll : List (List Int)) : Int :=
  if codeS q k l (resB q.toNat k l ll) = 0 then (if q % 2 = 1 then 5 else if headB (nextQ q.toNat k l ll) = true then 0 else 4) else codeS q k l (resB q.toNat k l ll)
def nextR (q : Int) (k : Nat) (l : List Int) (ll : List (List Int)) : List Int :=
  if codeS q k l (resB q.toNat k l ll) = 0 then (if q % 2 = 1 then List.replicate 14 0 else headR q.toNat (rankQ q.toNat l ll) (nextQ q.toNat k l ll)) else List.replicate 14 0
theorem nextR_length (q : Int) (k : Nat) (l : List Int) (ll : List (List Int)) : (nextR q k l ll).length = 14 := by
  unfold nextR
  split
  · split
    · rfl
    · exact zcR _ _ _
  · rfl
theorem freeL_now {n : Nat} (hn : n ≤ 14) : NowOk n (freeL n) := ⟨zaD n, fun j hj => by
  have : (freeL (n : Int)).getD j 0 = (j : Int) := by
    unfold freeL
    rw [List.getD_eq_getElem?_getD, List.getElem?_map, List.getElem?_range (by omega)]
    show (if (j : Int) < (n : Int) then (j : Int) else 0) = j
    rw [if_pos (by omega)]
  omega⟩
theorem freeL_ren {n : Nat} {R : List Int} (hn : n ≤ 14) (hp : PermN n R) : renF R (freeL n) n = freeL n := by
  have hg : ∀ j, (freeL (n : Int)).getD j 0 = if j < n then (j : Int) else 0 := fun j => by
    unfold freeL
    rw [List.getD_eq_getElem?_getD, List.getElem?_map]
    by_cases h : j < 14
    · rw [List.getElem?_range h]
      show (if (j : Int) < (n : Int) then (j : Int) else 0) = _
      by_cases h2 : j < n
      · rw [if_pos h2, if_pos (by omega)]
      · rw [if_neg h2, if_neg (by omega)]
    · rw [List.getElem?_eq_none (by simpa using h), if_neg (by omega)]; rfl
  refine (ren_ext hn hp (zaD _) (fun j hj => ?_) fun x hx => ?_).symm
  · have := hp.rng j hj
    rw [hg, hg, if_pos (by omega), if_pos hj, Int.toNat_natCast]; omega
  · rw [hg, if_neg (by omega)]
structure NxJ (H1 : AH) (n : Nat) (M : List (List Int)) (R : List Int) (sv xv pv rv res : Value) (cs fs : List Nat) (t : T) (H : AH) : Prop where
  hcs : cs = [1, 4, 7, 8] ∨ cs = [4, 7, 8] ∨ cs = [7, 8] ∨ cs = [8] ∨ cs = []
  hfs : ∀ a ∈ fs, a = 12 ∧ fs = [12]
  t2 : t 2 = pv
  t4 : t 4 = rv
  t25 : t 25 = sv
  t27 : t 27 = sv
  t28 : t 28 = xv
  t31 : t 31 = .int .i64 n
  t32 : cs.contains 7 = false → t 32 = .agg (ints (freeL n)).toArray
  t33 : cs.contains 8 = false → t 33 = res
  t7 : fs.contains 12 = false → t 7 = .pointer (some ⟨ptrOf (t 7), 0, none⟩)
  own : Ow H1 H [if cs.contains 1 = true then .no else .sl2 Value.bool 89 4 (t 26) (mB n M n), if cs.contains 4 = true then .no else .sl 1 2 (t 29) n (ints R), if fs.contains 12 = true then .no else .row (ptrOf (t 7)) ⟨69, true, ints (List.replicate 14 0)⟩]
section
variable {H1 H2 H3 : AH} {n : Nat} {M : List (List Int)} {R : List Int} {sv xv pv rv res : Value} {fs : List Nat} {t : T}
theorem NxJ.call1 (h : NxJ H1 n M R sv xv pv rv res [1, 4, 7, 8] fs t H2) {w : Value} (o : Ow H2 H3 [.sl2 Value.bool 89 4 w (mB n M n)]) : NxJ H1 n M R sv xv pv rv res [4, 7, 8] fs (upd t 26 w) H3 :=
  ⟨.inr (.inl rfl), h.hfs, h.t2, h.t4, h.t25, h.t27, h.t28, h.t31, (fun e => by cases e), (fun e => by cases e), h.t7, (h.own.call o).put0⟩
theorem NxJ.call4 (h : NxJ H1 n M R sv xv pv rv res [4, 7, 8] fs t H2) {w : Value} (o : Ow H2 H3 [.sl 1 2 w n (ints R)]) : NxJ H1 n M R sv xv pv rv res [7, 8] fs (upd t 29 w) H3 :=
  ⟨.inr (.inr (.inl rfl)), h.hfs, h.t2, h.t4, h.t25, h.t27, h.t28, h.t31, (fun e => by cases e), (fun e => by cases e), h.t7, (h.own.call o).put1⟩
theorem NxJ.call7 (h : NxJ H1 n M R sv xv pv rv res [7, 8] fs t H2) : NxJ H1 n M R sv xv pv rv res [8] fs (upd t 32 (.agg (ints (freeL n)).toArray)) H2 :=
  ⟨.inr (.inr (.inr (.inl rfl))), h.hfs, h.t2, h.t4, h.t25, h.t27, h.t28, h.t31, (fun _ => rfl), (fun e => by cases e), h.t7, h.own⟩
theorem NxJ.call8 (h : NxJ H1 n M R sv xv pv rv res [8] fs t H2) : NxJ H1 n M R sv xv pv rv res [] fs (upd t 33 res) H2 :=
  ⟨.inr (.inr (.inr (.inr rfl))), h.hfs, h.t2, h.t4, h.t25, h.t27, h.t28, h.t31, fun _ => h.t32 rfl, fun _ => rfl, h.t7, h.own⟩
theorem NxJ.free {cs : List Nat} (h : NxJ H1 n M R sv xv pv rv res cs [12] t H2) : NxJ H1 n M R sv xv pv rv res cs [] (upd t 7 (.pointer (some ⟨H2.next, 0, none⟩))) (H2.push ⟨69, true, ints (List.replicate 14 0)⟩) :=
  ⟨h.hcs, (fun a ha => by cases ha), h.t2, h.t4, h.t25, h.t27, h.t28, h.t31, h.t32, h.t33, fun _ => rfl, (h.own.push _).put2⟩
end
theorem specNextRound_c (q : Int) (v : Value) (k : Nat) (l : List Int) (x : Value) (ll : List (List Int)) (H : AH) (hv : Rd 14 H v k l) (hk : k ≤ 4294967296) (hx : Rd2 1 H x ll) (hl : ll.length ≤ 4294967296) (hl2 : ∀ y ∈ ll, y.length ≤ 4294967296) :
    ACalls Tryz.prog 52 [.agg #[.int .i64 q, v], x] H (is (.tuple #[.agg (ints (nextR q k l ll)).toArray, .int .i64 (nextC q k l ll)]) H) := by
  have hfl : flat (.tuple #[.agg (ints (nextR q k l ll)).toArray, .int .i64 (nextC q k l ll)]) = true := by
    have := zd9 (nextR q k l ll)
    simp only [flat, List.all_toArray, List.all_cons, List.all_nil, Bool.and_true, this, Abs.scal]
  refine zaZ hfl (ACalls.wf (by kernel_rfl) fun hs => za3 [.cell 4 69, .tmp 5] Tryz.func52 (by kernel_rfl) rfl rfl (Nat.le_of_ble_eq_true rfl) (by kernel_rfl) ?_)
  clear hfl
  have hone := hv.one
  try simp (disch := first | omega | (simp only [L3] <;> omega)) only [Sall,evalOp,init,binA_s,binE,binI,unE,convE,okNil,builtE,gv,TD.isAgg,resV,↓reduceIte,Nat.reduceEqDiff,reduceCtorEq,Nat.reduceAdd,Nat.reduceMul,Nat.reduceLeDiff,za0,za1,Int.reduceEq,Int.reduceLT,Int.reduceLE,Nat.reduceLT,tiA,tiXA, hone]
  have o1 := ((Ow.refl hs).push ⟨26, true, [.int .i64 q, v]⟩).push ⟨69, true, ints (List.replicate 14 0)⟩
  obtain ⟨H1, eg⟩ : ∃ H1, H1 = (H.push ⟨26, true, [.int .i64 q, v]⟩).push ⟨69, true, ints (List.replicate 14 0)⟩ := ⟨_, rfl⟩
  rw [← eg] at o1 ⊢
  clear eg
  have g0 := (o1.rowAt 0 rfl).1
  have g1 : H1.row (H.next + 1) = _ := (o1.rowAt 1 rfl).1
  have hv1 := hv.same (o1.old hs)
  have hx1 := hx.same (o1.old hs)
  have hxo := hx.one
  try simp (disch := first | omega | (simp only [L3] <;> omega)) only [Sall,evalOp,init,binA_s,binE,binI,unE,convE,okNil,builtE,gv,TD.isAgg,resV,↓reduceIte,Nat.reduceEqDiff,reduceCtorEq,Nat.reduceAdd,Nat.reduceMul,Nat.reduceLeDiff,za0,za1,Int.reduceEq,Int.reduceLT,Int.reduceLE,Nat.reduceLT,tiA,tiXA, hone, g0]
  refine (zeD q v k l x ll (.slice none 0 0) 0 [] H1 hv1 hk hx1 hl hl2 (fr_nil 0 0 0 _).rd (by omega)).to ?_
  rw [show (resB q.toNat k l ll && (List.range 0).all fun i => decide (0 ≤ ([] : List Int).getD i 0 ∧ ([] : List Int).getD i 0 ≤ q - 1)) = resB q.toNat k l ll from Bool.and_true _]
  have hn0 : nextC q k l ll = if codeS q k l (resB q.toNat k l ll) = 0 then (if q % 2 = 1 then 5 else if headB (nextQ q.toNat k l ll) = true then 0 else 4) else codeS q k l (resB q.toNat k l ll) := rfl
  have hr0 : nextR q k l ll = if codeS q k l (resB q.toNat k l ll) = 0 then (if q % 2 = 1 then List.replicate 14 0 else headR q.toNat (rankQ q.toNat l ll) (nextQ q.toNat k l ll)) else List.replicate 14 0 := rfl
  by_cases hok : schedB q k l = true ∧ resB q.toNat k l ll = true
  · obtain ⟨hb, hres⟩ := hok
    obtain ⟨h2, _, _⟩ := zaC hb
    obtain ⟨n, rfl⟩ : ∃ n : Nat, q = n := ⟨q.toNat, by omega⟩
    rw [zbF hb hres, if_pos rfl] at hn0 hr0
    rw [zbF hb hres]
    rw [Int.toNat_natCast] at hres hn0 hr0
    by_cases hodd : (n : Int) % 2 = 1
    · rw [if_pos hodd] at hn0 hr0
      have et : (n : Int).tmod 2 = 1 := by rw [Int.tmod_eq_emod_of_nonneg (by omega)]; exact hodd
      have ee : ((n : Int).tmod 2 == 1) = true := by rw [et]; rfl
      have e0 : ((0 : Int) == 0) = true := rfl
      have e5 : ((5 : Int) != 0) = true := rfl
      rw [hn0, hr0]
      try simp (disch := first | omega | (simp only [L3] <;> omega)) only [Sall,evalOp,init,binA_s,binE,binI,unE,convE,okNil,builtE,gv,TD.isAgg,resV,↓reduceIte,Nat.reduceEqDiff,reduceCtorEq,Nat.reduceAdd,Nat.reduceMul,Nat.reduceLeDiff,za0,za1,Int.reduceEq,Int.reduceLT,Int.reduceLE,Nat.reduceLT,tiA,tiXA, bne_self_eq_false, beq_self_eq_true, g0, g1, ee, e0, e5]
      exact (o1.putRow 1 rfl (cs' := ints (List.replicate 14 0))).up
    · rw [if_neg hodd] at hn0 hr0
      have et : ((n : Int).tmod 2 == 1) = false := by rw [Int.tmod_eq_emod_of_nonneg (by omega)]; exact beq_eq_false_iff_ne.2 hodd
      have e0 : ((0 : Int) == 0) = true := rfl
      have hM := zh4 n l k
      have hnq : nextQ n k l ll = matF n (fun i k' => mtM (meetM n l k) ((rankQ n l ll).getD i 0).toNat ((rankQ n l ll).getD k' 0).toNat) (n + 1) (freeL n) 0 := rfl
      have hperm : PermN n (rankQ n l ll) := zeY _ n
      have hfree := freeL_ren (R := rankQ n l ll) (by omega) hperm
      have hnow := freeL_now (n := n) (by omega)
      have hmet : ∀ H', Up H1.next H1 H' → ACalls Tryz.prog 173 [.agg #[.int .i64 n, v]] H' (fun u H2 => Ow H' H2 [.sl2 Value.bool 89 4 u (mB n (meetM n l k) n)]) := fun H' u =>
        l02Met_c n v k l H' hb (hv1.same fun i r hr => by rw [u.row i (o1.sc _ _ hr), hr]) hk
      have hrank : ∀ H', Up H1.next H1 H' → ACalls Tryz.prog 174 [.agg #[.int .i64 n, v], x] H' (fun u H2 => Up H'.next H' H2 ∧ Fr 1 2 H'.next H2.next H2 u n (rankQ n l ll)) := fun H' u =>
        l10Ranking_c n v k l x ll _ _ _ H' hb hres hl (hv1.same fun i r hr => by rw [u.row i (o1.sc _ _ hr), hr]) (hx1.same fun i r hr => by rw [u.row i (o1.sc _ _ hr), hr]) rfl rfl rfl
      have hfr := freeS_c (n : Int) (by omega)
      have hnext : ∀ (H' : AH) (mv rv : Value), RdB H' mv n (mtM (meetM n l k)) → Rd 1 H' rv n (rankQ n l ll) → ACalls Tryz.prog 172 [mv, rv, .agg (ints (freeL n)).toArray] H' (is (.tuple #[.agg (ints (headR n (rankQ n l ll) (nextQ n k l ll))).toArray, .bool (headB (nextQ n k l ll))]) H') := fun H' mv rv h1 h2 => by
        have := l10Next_c n ⟨by omega, by omega⟩ (mtM (meetM n l k)) mv rv (rankQ n l ll) hperm (n + 1) (freeL n) 0 H' hnow (Nat.zero_le _) (fun j hj => by omega) (by omega) h1 h2
        rw [hfree] at this
        exact this
      have hlen := zcR n (rankQ n l ll) (nextQ n k l ll)
      have hz : headB (nextQ n k l ll) = false → headR n (rankQ n l ll) (nextQ n k l ll) = List.replicate 14 0 := fun h => by
        unfold headB at h; unfold headR
        rw [Option.isSome_eq_false_iff, Option.isNone_iff_eq_none] at h; rw [h]
      revert hn0 hr0 hmet hrank hnext hlen hz
      generalize meetM n l k = M
      generalize rankQ n l ll = R
      generalize nextC (n : Int) k l ll = C
      generalize nextR (n : Int) k l ll = L
      generalize nextQ n k l ll = Q
      intro hn0 hr0 hmet hrank hnext hlen hz
      generalize headR n R Q = hdR at hr0 hnext hlen hz
      generalize headB Q = hdB at hn0 hnext hz
      subst hr0
      try simp (disch := first | omega | (simp only [L3] <;> omega)) only [Sall,evalOp,init,binA_s,binE,binI,unE,convE,okNil,builtE,gv,TD.isAgg,resV,↓reduceIte,Nat.reduceEqDiff,reduceCtorEq,Nat.reduceAdd,Nat.reduceMul,Nat.reduceLeDiff,za0,za1,Int.reduceEq,Int.reduceLT,Int.reduceLE,Nat.reduceLT,tiA,tiXA, bne_self_eq_false, beq_self_eq_true, g0, g1, et, e0]
      refine zdJ (fun t H2 => t 2 = .pointer (some ⟨H.next, 0, none⟩) ∧ t 4 = .pointer (some ⟨H.next + 1, 0, none⟩) ∧ t 8 = .bool hdB ∧ ∃ i, t 7 = .pointer (some ⟨i, 0, none⟩) ∧ Ow H H2 [.row H.next ⟨26, true, [.int .i64 n, v]⟩, .row (H.next + 1) ⟨69, true, ints (List.replicate 14 0)⟩, .row i ⟨69, true, ints L⟩]) ?_ ?_
      · have hsv : Up H1.next H1 H1 := Up.refl _ _
        refine draw_pool2 [0, 2, 3, 5, 6] [1, 4, 7, 8] [12] [9, 10, 11] (OT.run [13, 14] .nil) (by kernel_rfl) (by kernel_rfl) (Nat.le_of_ble_eq_true rfl) (NxJ H1 n M R (.agg #[.int .i64 n, v]) x (.pointer (some ⟨H.next, 0, none⟩)) (.pointer (some ⟨H.next + 1, 0, none⟩)) (.tuple #[.agg (ints L).toArray, .bool hdB])) (fun fs t H2 => NxJ H1 n M R (.agg #[.int .i64 n, v]) x (.pointer (some ⟨H.next, 0, none⟩)) (.pointer (some ⟨H.next + 1, 0, none⟩)) (.tuple #[.agg (ints L).toArray, .bool hdB]) [] fs t H2 ∧ t 34 = .agg (ints L).toArray ∧ t 35 = .bool hdB) ⟨?_, ?_, ?_, ?_, ?_⟩ ?_
        · intro c cs fs t H2 hJ
          rcases hJ.hcs with e | e | e | e | e
          · injection e with e1 e2
            subst e1; subst e2
            have t25 := hJ.t25
            try simp (disch := first | omega | (simp only [L3] <;> omega)) only [Sall,evalOp,init,binA_s,binE,binI,unE,convE,okNil,builtE,gv,TD.isAgg,resV,↓reduceIte,Nat.reduceEqDiff,reduceCtorEq,Nat.reduceAdd,Nat.reduceMul,Nat.reduceLeDiff,za0,za1,Int.reduceEq,Int.reduceLT,Int.reduceLE,Nat.reduceLT,tiA,tiXA, zaF, zaE, za5, za4, t25]
            refine (hmet H2 hJ.own.up).mono ?_
            rintro w H3 o3
            exact ⟨.inr (.inr (o3.up.le hJ.own.sc)), hJ.call1 o3⟩
          · injection e with e1 e2
            subst e1; subst e2
            have t27 := hJ.t27
            have t28 := hJ.t28
            try simp (disch := first | omega | (simp only [L3] <;> omega)) only [Sall,evalOp,init,binA_s,binE,binI,unE,convE,okNil,builtE,gv,TD.isAgg,resV,↓reduceIte,Nat.reduceEqDiff,reduceCtorEq,Nat.reduceAdd,Nat.reduceMul,Nat.reduceLeDiff,za0,za1,Int.reduceEq,Int.reduceLT,Int.reduceLE,Nat.reduceLT,tiA,tiXA, zaF, zaE, za5, za4, t27, t28]
            refine (hrank H2 hJ.own.up).sc.mono ?_
            rintro w H3 ⟨⟨up3, hf3⟩, sc3⟩
            exact ⟨.inr (.inr (up3.le hJ.own.sc)), hJ.call4 (Ow.of_fr up3 sc3 hf3)⟩
          · injection e with e1 e2
            subst e1; subst e2
            have t31 := hJ.t31
            try simp (disch := first | omega | (simp only [L3] <;> omega)) only [Sall,evalOp,init,binA_s,binE,binI,unE,convE,okNil,builtE,gv,TD.isAgg,resV,↓reduceIte,Nat.reduceEqDiff,reduceCtorEq,Nat.reduceAdd,Nat.reduceMul,Nat.reduceLeDiff,za0,za1,Int.reduceEq,Int.reduceLT,Int.reduceLE,Nat.reduceLT,tiA,tiXA, zaF, zaE, za5, za4, t31]
            refine (hfr H2).to ?_
            exact ⟨.inr (.inr ⟨Nat.le_refl _, fun _ _ h => h⟩), hJ.call7⟩
          · injection e with e1 e2
            subst e1; subst e2
            have t32 := hJ.t32 rfl
            try simp (disch := first | omega | (simp only [L3] <;> omega)) only [Sall,evalOp,init,binA_s,binE,binI,unE,convE,okNil,builtE,gv,TD.isAgg,resV,↓reduceIte,Nat.reduceEqDiff,reduceCtorEq,Nat.reduceAdd,Nat.reduceMul,Nat.reduceLeDiff,za0,za1,Int.reduceEq,Int.reduceLT,Int.reduceLE,Nat.reduceLT,tiA,tiXA, zaF, zaE, za5, za4, t32]
            refine (hnext H2 _ _ (Ow.rdB hJ.own 0 (by omega) rfl) (hJ.own.rd 1 rfl)).to ?_
            exact ⟨.inr (.inr ⟨Nat.le_refl _, fun _ _ h => h⟩), hJ.call8⟩
          · cases e
        · intro a cs fs t H2 ha hJ
          obtain ⟨rfl, rfl⟩ := hJ.hfs a ha
          try simp (disch := first | omega | (simp only [L3] <;> omega)) only [Sall,evalOp,init,binA_s,binE,binI,unE,convE,okNil,builtE,gv,TD.isAgg,resV,↓reduceIte,Nat.reduceEqDiff,reduceCtorEq,Nat.reduceAdd,Nat.reduceMul,Nat.reduceLeDiff,za0,za1,Int.reduceEq,Int.reduceLT,Int.reduceLE,Nat.reduceLT,tiA,tiXA, zaF, zaE, za5, za4]
          exact ⟨.inr (.inr (hJ.own.sc.le _)), hJ.free⟩
        · intro fs t H2 hJ
          have t33 := hJ.t33 rfl
          try simp (disch := first | omega | (simp only [L3] <;> omega)) only [Sall,evalOp,init,binA_s,binE,binI,unE,convE,okNil,builtE,gv,TD.isAgg,resV,↓reduceIte,Nat.reduceEqDiff,reduceCtorEq,Nat.reduceAdd,Nat.reduceMul,Nat.reduceLeDiff,za0,za1,Int.reduceEq,Int.reduceLT,Int.reduceLE,Nat.reduceLT,tiA,tiXA, zaF, zaE, za5, za4, t33]
          exact ⟨hJ.hcs, hJ.hfs, hJ.t2, hJ.t4, hJ.t25, hJ.t27, hJ.t28, hJ.t31, hJ.t32, hJ.t33, hJ.t7, hJ.own⟩
        · rintro a fs t H2 ha ⟨hJ, h81, h82⟩
          obtain ⟨rfl, rfl⟩ := hJ.hfs a ha
          try simp (disch := first | omega | (simp only [L3] <;> omega)) only [Sall,evalOp,init,binA_s,binE,binI,unE,convE,okNil,builtE,gv,TD.isAgg,resV,↓reduceIte,Nat.reduceEqDiff,reduceCtorEq,Nat.reduceAdd,Nat.reduceMul,Nat.reduceLeDiff,za0,za1,Int.reduceEq,Int.reduceLT,Int.reduceLE,Nat.reduceLT,tiA,tiXA, zaF, zaE, za5, za4]
          exact ⟨.inr (.inr (hJ.own.sc.le _)), hJ.free, h81, h82⟩
        · rintro t H2 ⟨hJ, h81, h82⟩
          have t7 := hJ.t7 rfl
          have hown := hJ.own
          obtain ⟨i7, hi7⟩ : ∃ i, i = ptrOf (t 7) := ⟨_, rfl⟩
          rw [← hi7] at t7 hown
          have r7 := (hown.rowAt 2 rfl).1
          have t2 := hJ.t2
          have t4 := hJ.t4
          try simp (disch := first | omega | (simp only [L3] <;> omega)) only [Sall,evalOp,init,binA_s,binE,binI,unE,convE,okNil,builtE,gv,TD.isAgg,resV,↓reduceIte,Nat.reduceEqDiff,reduceCtorEq,Nat.reduceAdd,Nat.reduceMul,Nat.reduceLeDiff,za0,za1,Int.reduceEq,Int.reduceLT,Int.reduceLE,Nat.reduceLT,tiA,tiXA, zaF, zaE, za5, za4, t7, r7, h81, h82, hlen]
          refine ⟨.inr (.inl (by kernel_rfl)), ?_⟩
          try simp (disch := first | omega | (simp only [L3] <;> omega)) only [Sall,evalOp,init,binA_s,binE,binI,unE,convE,okNil,builtE,gv,TD.isAgg,resV,↓reduceIte,Nat.reduceEqDiff,reduceCtorEq,Nat.reduceAdd,Nat.reduceMul,Nat.reduceLeDiff,za0,za1,Int.reduceEq,Int.reduceLT,Int.reduceLE,Nat.reduceLT,tiA,tiXA, zaF, zaE, za5, za4, t7, r7, t2, t4, h81, h82, hlen]
          exact ⟨i7, rfl, ((o1.call hown).putRow 4 rfl (cs' := ints L)).sub (fun j => if j = 2 then 4 else j) (fun j hj => match j, hj with | 0, _ => rfl | 1, _ => rfl | 2, _ => rfl) fun i j hi hj e => by
            simp only [List.length_cons, List.length_nil] at hi hj
            split at e <;> split at e <;> omega⟩
        · try simp (disch := first | omega | (simp only [L3] <;> omega)) only [Sall,evalOp,init,binA_s,binE,binI,unE,convE,okNil,builtE,gv,TD.isAgg,resV,↓reduceIte,Nat.reduceEqDiff,reduceCtorEq,Nat.reduceAdd,Nat.reduceMul,Nat.reduceLeDiff,za0,za1,Int.reduceEq,Int.reduceLT,Int.reduceLE,Nat.reduceLT,tiA,tiXA, zaF, zaE, za5, za4, g0, hone]
          have oN : Ow H1 H1 [.no, .no, .no] := ((Ow.refl o1.sc).addNo).addNo.addNo
          exact ⟨.inl rfl, (fun a ha => ⟨by simpa using ha, rfl⟩), rfl, rfl, rfl, rfl, rfl, rfl, (fun e => by cases e), (fun e => by cases e), (fun e => by cases e), oN⟩
      · rintro t H2 ⟨h2, h4, h8, i, h7, o2⟩
        have r0 := (o2.rowAt 1 rfl).1
        have r1 := (o2.rowAt 2 rfl).1
        have ne := o2.ne (j := 1) (k := 2) rfl rfl (by omega) (fun S h => h.1) (fun S h => h.1)
        obtain hB | hB : hdB = true ∨ hdB = false := by cases hdB <;> simp
        · subst hB
          rw [if_pos rfl] at hn0
          rw [hn0]
          try simp (disch := first | omega | (simp only [L3] <;> omega)) only [Sall,evalOp,init,binA_s,binE,binI,unE,convE,okNil,builtE,gv,TD.isAgg,resV,↓reduceIte,Nat.reduceEqDiff,reduceCtorEq,Nat.reduceAdd,Nat.reduceMul,Nat.reduceLeDiff,za0,za1,Int.reduceEq,Int.reduceLT,Int.reduceLE,Nat.reduceLT,tiA,tiXA, h8, h7, h4, r0, r1, hlen]
          exact (o2.putRow 1 rfl (cs' := ints L)).up
        · subst hB
          rw [if_neg (by simp)] at hn0
          rw [hn0]
          have hz2 := hz rfl
          rw [hz2] at hlen ⊢
          try simp (disch := first | omega | (simp only [L3] <;> omega)) only [Sall,evalOp,init,binA_s,binE,binI,unE,convE,okNil,builtE,gv,TD.isAgg,resV,↓reduceIte,Nat.reduceEqDiff,reduceCtorEq,Nat.reduceAdd,Nat.reduceMul,Nat.reduceLeDiff,za0,za1,Int.reduceEq,Int.reduceLT,Int.reduceLE,Nat.reduceLT,tiA,tiXA, h8, h7, h4, r0, r1, hlen]
          exact (o2.putRow 1 rfl (cs' := ints (List.replicate 14 0))).up
  · have ec := zcH hok
    have ec1 : ¬ codeS q k l (resB q.toNat k l ll) = 0 := bne_iff_ne.1 ec
    have ec2 : (codeS q k l (resB q.toNat k l ll) == 0) = false := beq_eq_false_iff_ne.2 ec1
    rw [if_neg ec1] at hn0 hr0
    rw [hn0, hr0]
    try simp (disch := first | omega | (simp only [L3] <;> omega)) only [Sall,evalOp,init,binA_s,binE,binI,unE,convE,okNil,builtE,gv,TD.isAgg,resV,↓reduceIte,Nat.reduceEqDiff,reduceCtorEq,Nat.reduceAdd,Nat.reduceMul,Nat.reduceLeDiff,za0,za1,Int.reduceEq,Int.reduceLT,Int.reduceLE,Nat.reduceLT,tiA,tiXA, ec, ec2, g0, g1]
    exact (o1.putRow 1 rfl (cs' := ints (List.replicate 14 0))).up
end Go.Proofs.YtpienljnoaendaaGreat.A
end
