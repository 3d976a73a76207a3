/- Contracts: patterns of teams, on both sides. And what follows. -/
import Derived.Test.YtemgclojolmhbaaGreatM3
set_option linter.unusedSimpArgs false
set_option linter.unusedVariables false
section
set_option maxRecDepth 100000
set_option maxHeartbeats 2000000
namespace Go.Proofs.YtemgclojolmhbaaGreat.A
open Go Go.Abs Go.RowKit
def inT (q a : Int) : Bool := decide (0 ≤ a ∧ a ≤ q - 1)
def patR (q : Int) (k : Nat) (l : List Int) (ll : List (List Int)) (a : Int) : List Int := if codeV q k l ll (inT q a) = 0 then patL ll a.toNat else []
theorem codeV_zero {q : Int} {k : Nat} {l : List Int} {ll : List (List Int)} {b : Bool} : codeV q k l ll b = 0 ↔ schedB q k l = true ∧ frmB q.toNat k ll = true ∧ b = true ∧ vnB q.toNat k l ll = true := by
  unfold codeV
  cases schedB q k l <;> cases frmB q.toNat k ll <;> cases b <;> cases vnB q.toNat k l ll <;> decide
theorem zd1 (q : Int) (k : Nat) (l : List Int) (ll : List (List Int)) (b : Bool) : codeV q k l ll b = 0 ∨ (codeV q k l ll b != 0) = true := by
  by_cases h : codeV q k l ll b = 0
  · exact .inl h
  · exact .inr (bne_iff_ne.2 h)
theorem PatternOf1_c (q : Int) (v : Value) (a : Int) (p0 p1 : Nat) (H : AH) (hq : 2 ≤ q ∧ q ≤ 14) (hone : v.oneCell' = true) (h0 : H.row p0 = some ⟨26, true, [.int .i64 q, v]⟩) (h1 : H.row p1 = some ⟨2, true, [.int .i64 a]⟩) :
    ACalls Tryz.prog 68 [.pointer (some ⟨p0, 0, none⟩), .pointer (some ⟨p1, 0, none⟩)] H (is (.bool (inT q a)) H) := by
  refine za3 [.tmp 2] Tryz.func68 (by kernel_rfl) rfl rfl (Nat.le_of_ble_eq_true rfl) (by kernel_rfl) ?_
  try simp (disch := first | omega | (simp only [L3] <;> omega)) only [Sall,evalOp,init,binA_s,binE,binI,unE,convE,okNil,builtE,gv,TD.isAgg,resV,↓reduceIte,Nat.reduceEqDiff,reduceCtorEq,Nat.reduceAdd,Nat.reduceMul,Nat.reduceLeDiff,za0,za2,Int.reduceEq,Int.reduceLT,Int.reduceLE,Nat.reduceLT,tiA, h0, h1, hone]
  refine (hasTeam_c q v a H hq hone).to ?_
  try simp (disch := first | omega | (simp only [L3] <;> omega)) only [Sall,evalOp,init,binA_s,binE,binI,unE,convE,okNil,builtE,gv,TD.isAgg,resV,↓reduceIte,Nat.reduceEqDiff,reduceCtorEq,Nat.reduceAdd,Nat.reduceMul,Nat.reduceLeDiff,za0,za2,Int.reduceEq,Int.reduceLT,Int.reduceLE,Nat.reduceLT,tiA, is]
  rfl
theorem zhT (ll : List (List Int)) (a i : Nat) (h : i < ll.length) : patL (ll.take (i + 1)) a = patL (ll.take i) a ++ [(ll.getD i []).getD a 0] := by
  unfold patL
  rw [List.take_add_one, List.getElem?_eq_getElem h, List.map_append, List.getD_eq_getElem?_getD (l := ll), List.getElem?_eq_getElem h]
  rfl
theorem zbY (ll : List (List Int)) (a : Nat) : (patL ll a).length = ll.length := by simp [patL]
theorem zeX (q : Int) (v : Value) (k : Nat) (l : List Int) (x : Value) (ll : List (List Int)) (a : Int) (H : AH)
    (hv : Rd 14 H v k l) (hk : k ≤ 4294967296) (hx : Rd2 1 H x ll) (hl : ll.length ≤ 4194304) (hl2 : ∀ y ∈ ll, y.length ≤ 4194304) :
    ACalls Tryz.prog 22 [.agg #[.int .i64 q, v], x, .int .i64 a] H (fun r H' => ∃ u, r = .tuple #[u, .int .i64 (codeV q k l ll (inT q a))] ∧ Ow H H' [.sl 1 2 u (patR q k l ll a).length (ints (patR q k l ll a))]) := by
  refine ACalls.wf (by kernel_rfl) fun hs => za3 [.tmp 6, .tmp 7] Tryz.func22 (by kernel_rfl) rfl rfl (Nat.le_of_ble_eq_true rfl) (by kernel_rfl) ?_
  have hone := hv.one
  have hx1 := hx.one
  have o1 := ((Ow.refl hs).push ⟨26, true, [.int .i64 q, v]⟩).push ⟨2, true, [.int .i64 a]⟩
  have ne1 : ¬ H.next = H.next + 1 := by omega
  try simp (disch := first | omega | (simp only [L3] <;> omega)) only [Sall,evalOp,init,binA_s,binE,binI,unE,convE,okNil,builtE,gv,TD.isAgg,resV,↓reduceIte,Nat.reduceEqDiff,reduceCtorEq,Nat.reduceAdd,Nat.reduceMul,Nat.reduceLeDiff,za0,za2,Int.reduceEq,Int.reduceLT,Int.reduceLE,Nat.reduceLT,tiA,tiXA, hone, ne1, List.mem_cons, List.not_mem_nil, or_false, forall_eq_or_imp, forall_eq, Array.size_empty]
  have o1 : Ow H ((H.push ⟨26, true, [.int .i64 q, v]⟩).push ⟨2, true, [.int .i64 a]⟩) [.row H.next ⟨26, true, [.int .i64 q, v]⟩, .row (H.next + 1) ⟨2, true, [.int .i64 a]⟩] := o1
  obtain ⟨pi, epi⟩ : ∃ pi, pi = H.next := ⟨_, rfl⟩
  rw [← epi] at o1 ⊢
  revert o1
  generalize (H.push ⟨26, true, [.int .i64 q, v]⟩).push ⟨2, true, [.int .i64 a]⟩ = H1
  intro o1
  have e1 := (o1.rowAt 0 rfl).1
  have e2 := (o1.rowAt 1 rfl).1
  have hv1 := hv.same (o1.old hs)
  have hxg := hx.same (o1.old hs)
  refine (zeT q v k l x ll 68 [.pointer (some ⟨pi, 0, none⟩), .pointer (some ⟨pi + 1, 0, none⟩)] (inT q a) H1 hv1 hk hxg hl hl2 fun H' up hb _ => ?_).to ?_
  · obtain ⟨hq, _, _⟩ := zaT hb
    have nx0 := (o1.rowAt 0 rfl).2.2
    have nx1 := (o1.rowAt 1 rfl).2.2
    exact PatternOf1_c q v a _ _ H' hq hone (by rw [up.row _ nx0, e1]) (by rw [up.row _ nx1, e2])
  refine Holds.mp ?_
  unfold patR
  rcases zd1 q k l ll (inT q a) with hC | hC
  rotate_left
  · rw [if_neg (bne_iff_ne.1 hC)]
    try simp (disch := first | omega | (simp only [L3] <;> omega)) only [Sall,evalOp,init,binA_s,binE,binI,unE,convE,okNil,builtE,gv,TD.isAgg,resV,↓reduceIte,Nat.reduceEqDiff,reduceCtorEq,Nat.reduceAdd,Nat.reduceMul,Nat.reduceLeDiff,za0,za2,Int.reduceEq,Int.reduceLT,Int.reduceLE,Nat.reduceLT,tiA,tiXA, hC]
    exact ⟨_, rfl, (o1.addNil 1 2).only 2 rfl⟩
  rw [if_pos hC, hC]
  obtain ⟨hb, hf, hin, hvn⟩ := codeV_zero.1 hC
  obtain ⟨⟨hq2, hq14⟩, hk40, _⟩ := zaT hb
  obtain ⟨hlk, hfr⟩ := zd9 hf
  have hin := of_decide_eq_true hin
  obtain ⟨c, rfl⟩ : ∃ c : Nat, a = c := ⟨a.toNat, by omega⟩
  obtain ⟨n, rfl⟩ : ∃ n : Nat, q = n := ⟨q.toNat, by omega⟩
  rw [Int.toNat_natCast] at hf hfr hvn ⊢
  have c0 : ((0 : Int) != 0) = false := rfl
  have hlx := hxg.len
  have zz : zeros 0 [.int .i64 0] = ints [] := rfl
  have np1 : ¬ pi + 1 = H1.next := by have := (o1.rowAt 1 rfl).2.2; omega
  try simp (disch := first | omega | (simp only [L3] <;> omega)) only [Sall,evalOp,init,binA_s,binE,binI,unE,convE,okNil,builtE,gv,TD.isAgg,resV,↓reduceIte,Nat.reduceEqDiff,reduceCtorEq,Nat.reduceAdd,Nat.reduceMul,Nat.reduceLeDiff,za0,za2,Int.reduceEq,Int.reduceLT,Int.reduceLE,Nat.reduceLT,tiA,tiXA, c0, zz, builtE, hlx]
  (repeat refine And.intro (by omega) ?_)
  have o2 := o1.pushSl (k := 1) (n := 0) (ty := 2) (vs := ints []) rfl
  refine za5 (fun m t H' => ∃ (i : Nat) (u : Value), m = ll.length - i ∧ i ≤ ll.length ∧ t 22 = .int .i64 i ∧ t 21 = .int .i64 ll.length ∧ t 20 = x ∧ t 9 = u ∧ t 5 = .pointer (some ⟨pi + 1, 0, none⟩) ∧ Ow H H' [.row pi ⟨26, true, [.int .i64 n, v]⟩, .row (pi + 1) ⟨2, true, [.int .i64 c]⟩, .sl 1 2 u (patL (ll.take i) c).length (ints (patL (ll.take i) c))]) ll.length ?_ ?_
  · refine ⟨0, .slice (some ⟨H1.next, 0, some 1⟩) 0 0, by omega, by omega, ?_⟩
    try simp (disch := first | omega | (simp only [L3] <;> omega)) only [Sall,evalOp,init,binA_s,binE,binI,unE,convE,okNil,builtE,gv,TD.isAgg,resV,↓reduceIte,Nat.reduceEqDiff,reduceCtorEq,Nat.reduceAdd,Nat.reduceMul,Nat.reduceLeDiff,za0,za2,Int.reduceEq,Int.reduceLT,Int.reduceLE,Nat.reduceLT,tiA,tiXA, Int.natCast_zero]
    exact o2
  · rintro m t H' ⟨i, u, hm, hi, h22, h21, h20, h9, h5, o3⟩
    try simp (disch := first | omega | (simp only [L3] <;> omega)) only [Sall,evalOp,init,binA_s,binE,binI,unE,convE,okNil,builtE,gv,TD.isAgg,resV,↓reduceIte,Nat.reduceEqDiff,reduceCtorEq,Nat.reduceAdd,Nat.reduceMul,Nat.reduceLeDiff,za0,za2,Int.reduceEq,Int.reduceLT,Int.reduceLE,Nat.reduceLT,tiA,tiXA, h22, h21]
    refine za4 (fun hh => ?_) (fun hh => ?_)
    · have hil : i < ll.length := by omega
      obtain ⟨xi, xo, xu, xc, xr, y, my, ex, x1, x2, x3, x4⟩ := (hx.same (o3.old hs)).get (j := i) hil
      have hmy := x3.lenK1
      rw [(hfr i (by omega)).1] at hmy
      have hmy := hmy.symm
      subst hmy
      obtain ⟨zi, zo, zu, zc, zr, ez, z1, z2, z3, _⟩ := x3.get (by omega)
      have z4 := z3 c (by omega)
      subst ez
      subst ex
      have e2 := (o3.rowAt 1 rfl).1
      have hu := o3.one 2 rfl
      have zz1 : zeros 1 [.int .i64 0] = [.int .i64 0] := rfl
      have np2 : ¬ pi + 1 = H'.next := by have := (o3.rowAt 1 rfl).2.2; omega
      have hix : (i : Int) < (ll.length : Int) := hh
      have hcn : (c : Int) < (n : Int) := by omega
      have hplen : (patL (ll.take i) c).length = i := by rw [zbY, List.length_take]; omega
      try simp (disch := first | omega | (simp only [L3] <;> omega)) only [Sall,evalOp,init,binA_s,binE,binI,unE,convE,okNil,builtE,gv,TD.isAgg,resV,↓reduceIte,Nat.reduceEqDiff,reduceCtorEq,Nat.reduceAdd,Nat.reduceMul,Nat.reduceLeDiff,za0,za2,Int.reduceEq,Int.reduceLT,Int.reduceLE,Nat.reduceLT,tiA,tiXA, h22, h21, h20, h9, h5, x1, x2, x4, z1, z4, e2, hix, hcn, np2, zz1, hu, zaL]
      (repeat refine And.intro (by omega) ?_)
      try simp (disch := first | omega | (simp only [L3] <;> omega)) only [Sall,evalOp,init,binA_s,binE,binI,unE,convE,okNil,builtE,gv,TD.isAgg,resV,↓reduceIte,Nat.reduceEqDiff,reduceCtorEq,Nat.reduceAdd,Nat.reduceMul,Nat.reduceLeDiff,za0,za2,Int.reduceEq,Int.reduceLT,Int.reduceLE,Nat.reduceLT,tiA,tiXA, h22, h21, h20, h9, h5, x1, x2, x4, z1, z4, e2, hix, hcn, np2, zz1, hu, zaL]
      refine (o3.tmp ⟨2, true, [.int .i64 ((ll.getD i []).getD c 0)]⟩).app 2 (c := 1) (ms := ints [(ll.getD i []).getD c 0]) rfl rfl (by omega) rfl (by omega) (by decide) (by omega) ?_
      intro v' H3 n3 o6
      have wi : IntKind.i64.wrap ((i : Int) + 1) = ((i + 1 : Nat) : Int) := w64 ⟨by omega, by omega⟩
      try simp (disch := first | omega | (simp only [L3] <;> omega)) only [Sall,evalOp,init,binA_s,binE,binI,unE,convE,okNil,builtE,gv,TD.isAgg,resV,↓reduceIte,Nat.reduceEqDiff,reduceCtorEq,Nat.reduceAdd,Nat.reduceMul,Nat.reduceLeDiff,za0,za2,Int.reduceEq,Int.reduceLT,Int.reduceLE,Nat.reduceLT,tiA,tiXA, h22, h21, h20, h5, wi]
      refine ⟨ll.length - (i + 1), by omega, i + 1, v', rfl, by omega, rfl, rfl, ?_⟩
      rw [zhT ll c i hil, List.length_append, ← zaK]
      exact o6
    · have hie : i = ll.length := by omega
      rw [hie, List.take_length] at o3
      try simp (disch := first | omega | (simp only [L3] <;> omega)) only [Sall,evalOp,init,binA_s,binE,binI,unE,convE,okNil,builtE,gv,TD.isAgg,resV,↓reduceIte,Nat.reduceEqDiff,reduceCtorEq,Nat.reduceAdd,Nat.reduceMul,Nat.reduceLeDiff,za0,za2,Int.reduceEq,Int.reduceLT,Int.reduceLE,Nat.reduceLT,tiA,tiXA, h9]
      exact ⟨u, rfl, o3.only 2 rfl⟩
theorem l01Teams_c (q : Int) (v : Value) (k : Nat) (l : List Int) (tv : Value) (a : Int) (H : AH) (hv : Rd 14 H v k l) (hk : k ≤ 4294967296) (ht : Rd 1 H tv 1 [a]) :
    ACalls Tryz.prog 97 [.agg #[.int .i64 q, v], tv] H (is (.int .i64 (codeS q k l (inT q a))) H) := by
  refine zaY rfl (ACalls.wf (by kernel_rfl) fun hs => za3 [.tmp 4] Tryz.func97 (by kernel_rfl) rfl rfl (Nat.le_of_ble_eq_true rfl) (by kernel_rfl) ?_)
  have hone := hv.one
  have hlt := ht.len
  have o1 := (Ow.refl hs).push ⟨26, true, [.int .i64 q, v]⟩
  try simp (disch := first | omega | (simp only [L3] <;> omega)) only [Sall,evalOp,init,binA_s,binE,binI,unE,convE,okNil,builtE,gv,TD.isAgg,resV,↓reduceIte,Nat.reduceEqDiff,reduceCtorEq,Nat.reduceAdd,Nat.reduceMul,Nat.reduceLeDiff,za0,za2,Int.reduceEq,Int.reduceLT,Int.reduceLE,Nat.reduceLT,tiA,tiXA, hone]
  obtain ⟨pi, epi⟩ : ∃ pi, pi = H.next := ⟨_, rfl⟩
  rw [← epi] at o1 ⊢
  revert o1
  generalize H.push ⟨26, true, [.int .i64 q, v]⟩ = H1
  intro o1
  have up : Up pi H H1 := by rw [epi]; exact o1.up
  have e1 := (o1.rowAt 0 rfl).1
  have hv1 := hv.same (o1.old hs)
  try simp (disch := first | omega | (simp only [L3] <;> omega)) only [Sall,evalOp,init,binA_s,binE,binI,unE,convE,okNil,builtE,gv,TD.isAgg,resV,↓reduceIte,Nat.reduceEqDiff,reduceCtorEq,Nat.reduceAdd,Nat.reduceMul,Nat.reduceLeDiff,za0,za2,Int.reduceEq,Int.reduceLT,Int.reduceLE,Nat.reduceLT,tiA,tiXA, e1, hone]
  refine (zhY q v k l H1 hv1 hk).to ?_
  refine Holds.mp ?_
  unfold codeS
  cases hb : schedB q k l with
  | false =>
    rw [if_neg (by simp)]
    try simp (disch := first | omega | (simp only [L3] <;> omega)) only [Sall,evalOp,init,binA_s,binE,binI,unE,convE,okNil,builtE,gv,TD.isAgg,resV,↓reduceIte,Nat.reduceEqDiff,reduceCtorEq,Nat.reduceAdd,Nat.reduceMul,Nat.reduceLeDiff,za0,za2,Int.reduceEq,Int.reduceLT,Int.reduceLE,Nat.reduceLT,tiA,tiXA, Bool.not_false]
    exact up
  | true =>
    rw [if_pos rfl]
    obtain ⟨⟨hq2, hq14⟩, _, _⟩ := zaT hb
    obtain ⟨i, o, u, c, r, rfl, t1, t2, t3, _⟩ := (ht.same (o1.old hs)).get (by omega)
    have t4 := t3 0 (by omega)
    have t4 : r.cells[o + 0]? = some (.int .i64 a) := t4
    have t4b : r.cells[o]? = some (.int .i64 a) := t4
    have wq : IntKind.i64.wrap (q - 1) = q - 1 := w64 ⟨by omega, by omega⟩
    have wi1 : IntKind.i64.wrap ((0 : Int) + 1) = 1 := by decide
    try simp (disch := first | omega | (simp only [L3] <;> omega)) only [Sall,evalOp,init,binA_s,binE,binI,unE,convE,okNil,builtE,gv,TD.isAgg,resV,↓reduceIte,Nat.reduceEqDiff,reduceCtorEq,Nat.reduceAdd,Nat.reduceMul,Nat.reduceLeDiff,za0,za2,Int.reduceEq,Int.reduceLT,Int.reduceLE,Nat.reduceLT,tiA,tiXA, Bool.not_true]
    refine za5 (fun m t H' => H' = H1 ∧ ∃ i' : Nat, m = 1 - i' ∧ i' ≤ 1 ∧ t 5 = .int .i64 i' ∧ t 1 = .slice (some ⟨i, o, u⟩) 1 c ∧ t 2 = .pointer (some ⟨pi, 0, none⟩) ∧ (0 < i' → inT q a = true)) 1 ?_ ?_
    · refine ⟨rfl, 0, by omega, by omega, ?_⟩
      try simp (disch := first | omega | (simp only [L3] <;> omega)) only [Sall,evalOp,init,binA_s,binE,binI,unE,convE,okNil,builtE,gv,TD.isAgg,resV,↓reduceIte,Nat.reduceEqDiff,reduceCtorEq,Nat.reduceAdd,Nat.reduceMul,Nat.reduceLeDiff,za0,za2,Int.reduceEq,Int.reduceLT,Int.reduceLE,Nat.reduceLT,tiA,tiXA, Int.natCast_zero, Nat.lt_irrefl, false_implies]
    · rintro m t H' ⟨rfl, i', hm, hi, h5, h1, h2, hall⟩
      try simp (disch := first | omega | (simp only [L3] <;> omega)) only [Sall,evalOp,init,binA_s,binE,binI,unE,convE,okNil,builtE,gv,TD.isAgg,resV,↓reduceIte,Nat.reduceEqDiff,reduceCtorEq,Nat.reduceAdd,Nat.reduceMul,Nat.reduceLeDiff,za0,za2,Int.reduceEq,Int.reduceLT,Int.reduceLE,Nat.reduceLT,tiA,tiXA, h5, h1, builtE]
      refine za4 (fun hh => ?_) (fun hh => ?_)
      · have hi0 : i' = 0 := by omega
        subst hi0
        rw [Int.natCast_zero] at h5
        have d01 : decide ((0 : Int) ≤ 0) = true := rfl
        try simp (disch := first | omega | (simp only [L3] <;> omega)) only [Sall,evalOp,init,binA_s,binE,binI,unE,convE,okNil,builtE,gv,TD.isAgg,resV,↓reduceIte,Nat.reduceEqDiff,reduceCtorEq,Nat.reduceAdd,Nat.reduceMul,Nat.reduceLeDiff,za0,za2,Int.reduceEq,Int.reduceLT,Int.reduceLE,Nat.reduceLT,tiA,tiXA, true_and]
        refine zb2 (by kernel_rfl) (by kernel_rfl) ?_
        try simp (disch := first | omega | (simp only [L3] <;> omega)) only [Sall,evalOp,init,binA_s,binE,binI,unE,convE,okNil,builtE,gv,TD.isAgg,resV,↓reduceIte,Nat.reduceEqDiff,reduceCtorEq,Nat.reduceAdd,Nat.reduceMul,Nat.reduceLeDiff,za0,za2,Int.reduceEq,Int.reduceLT,Int.reduceLE,Nat.reduceLT,tiA,tiXA, h5, h1, h2, e1, t1, t4, t4b, wq, Nat.mul_one, Nat.add_zero, Int.toNat_zero]
        (repeat refine And.intro (by omega) ?_)
        refine (ze7 _ _ _ _).to ?_
        refine ⟨.inr (.inr (LE.refl _)), ?_⟩
        refine Holds.mp ?_
        unfold inT
        by_cases hin : 0 ≤ a ∧ a ≤ q - 1
        · rw [decide_eq_true hin]
          try simp (disch := first | omega | (simp only [L3] <;> omega)) only [Sall,evalOp,init,binA_s,binE,binI,unE,convE,okNil,builtE,gv,TD.isAgg,resV,↓reduceIte,Nat.reduceEqDiff,reduceCtorEq,Nat.reduceAdd,Nat.reduceMul,Nat.reduceLeDiff,za0,za2,Int.reduceEq,Int.reduceLT,Int.reduceLE,Nat.reduceLT,tiA,tiXA, Bool.not_true, h5, h1, h2, wi1]
          exact ⟨0, by omega, 1, rfl, by omega, rfl⟩
        · rw [decide_eq_false hin, if_neg (by simp)]
          try simp (disch := first | omega | (simp only [L3] <;> omega)) only [Sall,evalOp,init,binA_s,binE,binI,unE,convE,okNil,builtE,gv,TD.isAgg,resV,↓reduceIte,Nat.reduceEqDiff,reduceCtorEq,Nat.reduceAdd,Nat.reduceMul,Nat.reduceLeDiff,za0,za2,Int.reduceEq,Int.reduceLT,Int.reduceLE,Nat.reduceLT,tiA,tiXA, Bool.not_false]
          exact up
      · have hi1 : i' = 1 := by omega
        have hin := hall (by omega)
        rw [hin, if_pos rfl]
        try simp (disch := first | omega | (simp only [L3] <;> omega)) only [Sall,evalOp,init,binA_s,binE,binI,unE,convE,okNil,builtE,gv,TD.isAgg,resV,↓reduceIte,Nat.reduceEqDiff,reduceCtorEq,Nat.reduceAdd,Nat.reduceMul,Nat.reduceLeDiff,za0,za2,Int.reduceEq,Int.reduceLT,Int.reduceLE,Nat.reduceLT,tiA,tiXA, true_and]
        exact up
theorem l05Team_c (q : Int) (v : Value) (k : Nat) (l : List Int) (x : Value) (ll : List (List Int)) (tv : Value) (a : Int) (H : AH) (hv : Rd 14 H v k l) (hk : k ≤ 4294967296) (hx : Rd2 1 H x ll) (hl : ll.length ≤ 4194304) (hl2 : ∀ y ∈ ll, y.length ≤ 4194304) (ht : Rd 1 H tv 1 [a]) :
    ACalls Tryz.prog 72 [.agg #[.int .i64 q, v], x, tv] H (is (.int .i64 (codeV q k l ll (inT q a))) H) := by
  refine zaY rfl (ACalls.wf (by kernel_rfl) fun hs => za3 [.tmp 6] Tryz.func72 (by kernel_rfl) rfl rfl (Nat.le_of_ble_eq_true rfl) (by kernel_rfl) ?_)
  have hone := hv.one
  have o1 := (Ow.refl hs).push ⟨26, true, [.int .i64 q, v]⟩
  try simp (disch := first | omega | (simp only [L3] <;> omega)) only [Sall,evalOp,init,binA_s,binE,binI,unE,convE,okNil,builtE,gv,TD.isAgg,resV,↓reduceIte,Nat.reduceEqDiff,reduceCtorEq,Nat.reduceAdd,Nat.reduceMul,Nat.reduceLeDiff,za0,za2,Int.reduceEq,Int.reduceLT,Int.reduceLE,Nat.reduceLT,tiA,tiXA, hone]
  obtain ⟨pi, epi⟩ : ∃ pi, pi = H.next := ⟨_, rfl⟩
  rw [← epi] at o1 ⊢
  revert o1
  generalize H.push ⟨26, true, [.int .i64 q, v]⟩ = H1
  intro o1
  have up : Up pi H H1 := by rw [epi]; exact o1.up
  have e1 := (o1.rowAt 0 rfl).1
  have hv1 := hv.same (o1.old hs)
  have hx1 := hx.same (o1.old hs)
  have ht1 := ht.same (o1.old hs)
  try simp (disch := first | omega | (simp only [L3] <;> omega)) only [Sall,evalOp,init,binA_s,binE,binI,unE,convE,okNil,builtE,gv,TD.isAgg,resV,↓reduceIte,Nat.reduceEqDiff,reduceCtorEq,Nat.reduceAdd,Nat.reduceMul,Nat.reduceLeDiff,za0,za2,Int.reduceEq,Int.reduceLT,Int.reduceLE,Nat.reduceLT,tiA,tiXA, e1, hone]
  refine (zhX q v k l x ll H1 hv1 hk hx1 hl hl2).to ?_
  refine Holds.mp ?_
  have f1 : ((1 : Int) == 0) = false := rfl
  have f2 : ((2 : Int) == 0) = false := rfl
  have f3 : ((0 : Int) == 0) = true := rfl
  unfold codeS codeV
  cases hb : schedB q k l with
  | false =>
    rw [if_neg (by simp), if_neg (by simp)]
    try simp (disch := first | omega | (simp only [L3] <;> omega)) only [Sall,evalOp,init,binA_s,binE,binI,unE,convE,okNil,builtE,gv,TD.isAgg,resV,↓reduceIte,Nat.reduceEqDiff,reduceCtorEq,Nat.reduceAdd,Nat.reduceMul,Nat.reduceLeDiff,za0,za2,Int.reduceEq,Int.reduceLT,Int.reduceLE,Nat.reduceLT,tiA,tiXA, f1]
    exact up
  | true =>
    rw [if_pos rfl, if_pos rfl]
    cases hf : frmB q.toNat k ll with
    | false =>
      rw [if_neg (by simp), if_neg (by simp)]
      try simp (disch := first | omega | (simp only [L3] <;> omega)) only [Sall,evalOp,init,binA_s,binE,binI,unE,convE,okNil,builtE,gv,TD.isAgg,resV,↓reduceIte,Nat.reduceEqDiff,reduceCtorEq,Nat.reduceAdd,Nat.reduceMul,Nat.reduceLeDiff,za0,za2,Int.reduceEq,Int.reduceLT,Int.reduceLE,Nat.reduceLT,tiA,tiXA, f2]
      exact up
    | true =>
      rw [if_pos rfl, Bool.true_and]
      obtain ⟨⟨hq2, hq14⟩, _, _⟩ := zaT hb
      obtain ⟨n, rfl⟩ : ∃ n : Nat, q = n := ⟨q.toNat, by omega⟩
      rw [Int.toNat_natCast] at hf ⊢
      try simp (disch := first | omega | (simp only [L3] <;> omega)) only [Sall,evalOp,init,binA_s,binE,binI,unE,convE,okNil,builtE,gv,TD.isAgg,resV,↓reduceIte,Nat.reduceEqDiff,reduceCtorEq,Nat.reduceAdd,Nat.reduceMul,Nat.reduceLeDiff,za0,za2,Int.reduceEq,Int.reduceLT,Int.reduceLE,Nat.reduceLT,tiA,tiXA, f3, e1, hone]
      refine (l01Teams_c n v k l tv a H1 hv1 hk ht1).to ?_
      refine Holds.mp ?_
      unfold codeS
      rw [hb, if_pos rfl]
      cases hin : inT n a with
      | false =>
        rw [if_neg (by simp), if_neg (by simp)]
        try simp (disch := first | omega | (simp only [L3] <;> omega)) only [Sall,evalOp,init,binA_s,binE,binI,unE,convE,okNil,builtE,gv,TD.isAgg,resV,↓reduceIte,Nat.reduceEqDiff,reduceCtorEq,Nat.reduceAdd,Nat.reduceMul,Nat.reduceLeDiff,za0,za2,Int.reduceEq,Int.reduceLT,Int.reduceLE,Nat.reduceLT,tiA,tiXA, f2]
        exact up
      | true =>
        rw [if_pos rfl, if_pos rfl]
        try simp (disch := first | omega | (simp only [L3] <;> omega)) only [Sall,evalOp,init,binA_s,binE,binI,unE,convE,okNil,builtE,gv,TD.isAgg,resV,↓reduceIte,Nat.reduceEqDiff,reduceCtorEq,Nat.reduceAdd,Nat.reduceMul,Nat.reduceLeDiff,za0,za2,Int.reduceEq,Int.reduceLT,Int.reduceLE,Nat.reduceLT,tiA,tiXA, f3, e1, hone]
        refine (l05Are_c n v k l x ll H1 hb hf hv1 hx1).to ?_
        refine Holds.mp ?_
        cases hvn : vnB n k l ll with
        | false =>
          try simp (disch := first | omega | (simp only [L3] <;> omega)) only [Sall,evalOp,init,binA_s,binE,binI,unE,convE,okNil,builtE,gv,TD.isAgg,resV,↓reduceIte,Nat.reduceEqDiff,reduceCtorEq,Nat.reduceAdd,Nat.reduceMul,Nat.reduceLeDiff,za0,za2,Int.reduceEq,Int.reduceLT,Int.reduceLE,Nat.reduceLT,tiA,tiXA, Bool.not_false]
          exact up
        | true =>
          try simp (disch := first | omega | (simp only [L3] <;> omega)) only [Sall,evalOp,init,binA_s,binE,binI,unE,convE,okNil,builtE,gv,TD.isAgg,resV,↓reduceIte,Nat.reduceEqDiff,reduceCtorEq,Nat.reduceAdd,Nat.reduceMul,Nat.reduceLeDiff,za0,za2,Int.reduceEq,Int.reduceLT,Int.reduceLE,Nat.reduceLT,tiA,tiXA, Bool.not_true]
          exact up
theorem zeI (x : Value) (ll : List (List Int)) (c : Nat) (H : AH) (hx : Rd2 1 H x ll) (hl : ll.length ≤ 4194304) (hl2 : ∀ i, i < ll.length → c < (ll.getD i []).length) :
    ACalls Tryz.prog 54 [x, .int .i64 c] H (fun u H' => Ow H H' [.sl 1 2 u ll.length (ints (patL ll c))]) := by
  refine ACalls.wf (by kernel_rfl) fun hs => za3 [.tmp 4] Tryz.func54 (by kernel_rfl) rfl rfl (Nat.le_of_ble_eq_true rfl) (by kernel_rfl) ?_
  have hlx := hx.len
  have zz : zeros 0 [.int .i64 0] = ints [] := rfl
  have o2 := (Ow.refl hs).pushSl (k := 1) (n := 0) (ty := 2) (vs := ints []) rfl
  try simp (disch := first | omega | (simp only [L3] <;> omega)) only [Sall,evalOp,init,binA_s,binE,binI,unE,convE,okNil,builtE,gv,TD.isAgg,resV,↓reduceIte,Nat.reduceEqDiff,reduceCtorEq,Nat.reduceAdd,Nat.reduceMul,Nat.reduceLeDiff,za0,za2,Int.reduceEq,Int.reduceLT,Int.reduceLE,Nat.reduceLT,tiA,tiXA, zz]
  (repeat refine And.intro (by omega) ?_)
  refine za5 (fun m t H' => ∃ (i : Nat) (u : Value), m = ll.length - i ∧ i ≤ ll.length ∧ t 6 = .int .i64 i ∧ t 5 = u ∧ t 1 = .int .i64 c ∧ t 0 = x ∧ Ow H H' [.sl 1 2 u (patL (ll.take i) c).length (ints (patL (ll.take i) c))]) ll.length ?_ ?_
  · refine ⟨0, .slice (some ⟨H.next, 0, some 1⟩) 0 0, by omega, by omega, ?_⟩
    try simp (disch := first | omega | (simp only [L3] <;> omega)) only [Sall,evalOp,init,binA_s,binE,binI,unE,convE,okNil,builtE,gv,TD.isAgg,resV,↓reduceIte,Nat.reduceEqDiff,reduceCtorEq,Nat.reduceAdd,Nat.reduceMul,Nat.reduceLeDiff,za0,za2,Int.reduceEq,Int.reduceLT,Int.reduceLE,Nat.reduceLT,tiA,tiXA, Int.natCast_zero]
    exact o2
  · rintro m t H' ⟨i, u, hm, hi, h6, h5, h1, h0, o3⟩
    try simp (disch := first | omega | (simp only [L3] <;> omega)) only [Sall,evalOp,init,binA_s,binE,binI,unE,convE,okNil,builtE,gv,TD.isAgg,resV,↓reduceIte,Nat.reduceEqDiff,reduceCtorEq,Nat.reduceAdd,Nat.reduceMul,Nat.reduceLeDiff,za0,za2,Int.reduceEq,Int.reduceLT,Int.reduceLE,Nat.reduceLT,tiA,tiXA, h6, h0, builtE, hlx]
    refine za4 (fun hh => ?_) (fun hh => ?_)
    · have hil : i < ll.length := by omega
      obtain ⟨xi, xo, xu, xc, xr, y, my, ex, x1, x2, x3, x4⟩ := (hx.same (o3.old hs)).get (j := i) hil
      have hmy := x3.lenK1
      have hmy := hmy.symm
      subst hmy
      have hcl := hl2 i hil
      obtain ⟨zi, zo, zu, zc, zr, ez, z1, z2, z3, _⟩ := x3.get (by omega)
      have z4 := z3 c (by omega)
      subst ez
      subst ex
      have hu := o3.one 0 rfl
      have zz1 : zeros 1 [.int .i64 0] = [.int .i64 0] := rfl
      have hix : (i : Int) < (ll.length : Int) := hh
      have hcn : (c : Int) < ((ll.getD i []).length : Int) := by omega
      have hplen : (patL (ll.take i) c).length = i := by rw [zbY, List.length_take]; omega
      try simp (disch := first | omega | (simp only [L3] <;> omega)) only [Sall,evalOp,init,binA_s,binE,binI,unE,convE,okNil,builtE,gv,TD.isAgg,resV,↓reduceIte,Nat.reduceEqDiff,reduceCtorEq,Nat.reduceAdd,Nat.reduceMul,Nat.reduceLeDiff,za0,za2,Int.reduceEq,Int.reduceLT,Int.reduceLE,Nat.reduceLT,tiA,tiXA, h6, h5, h1, h0, x1, x2, x4, z1, z4, hix, hcn, zz1, hu, zaL]
      (repeat refine And.intro (by omega) ?_)
      try simp (disch := first | omega | (simp only [L3] <;> omega)) only [Sall,evalOp,init,binA_s,binE,binI,unE,convE,okNil,builtE,gv,TD.isAgg,resV,↓reduceIte,Nat.reduceEqDiff,reduceCtorEq,Nat.reduceAdd,Nat.reduceMul,Nat.reduceLeDiff,za0,za2,Int.reduceEq,Int.reduceLT,Int.reduceLE,Nat.reduceLT,tiA,tiXA, h6, h5, h1, h0, x1, x2, x4, z1, z4, hix, hcn, zz1, hu, zaL]
      refine (o3.tmp ⟨2, true, [.int .i64 ((ll.getD i []).getD c 0)]⟩).app 0 (c := 1) (ms := ints [(ll.getD i []).getD c 0]) rfl rfl (by omega) rfl (by omega) (by decide) (by omega) ?_
      intro v' H3 n3 o6
      have wi : IntKind.i64.wrap ((i : Int) + 1) = ((i + 1 : Nat) : Int) := w64 ⟨by omega, by omega⟩
      try simp (disch := first | omega | (simp only [L3] <;> omega)) only [Sall,evalOp,init,binA_s,binE,binI,unE,convE,okNil,builtE,gv,TD.isAgg,resV,↓reduceIte,Nat.reduceEqDiff,reduceCtorEq,Nat.reduceAdd,Nat.reduceMul,Nat.reduceLeDiff,za0,za2,Int.reduceEq,Int.reduceLT,Int.reduceLE,Nat.reduceLT,tiA,tiXA, h6, h1, h0, wi]
      refine ⟨ll.length - (i + 1), by omega, i + 1, v', rfl, by omega, rfl, rfl, ?_⟩
      rw [zhT ll c i hil, List.length_append, ← zaK]
      exact o6
    · have hie : i = ll.length := by omega
      rw [hie, List.take_length, zbY] at o3
      try simp (disch := first | omega | (simp only [L3] <;> omega)) only [Sall,evalOp,init,binA_s,binE,binI,unE,convE,okNil,builtE,gv,TD.isAgg,resV,↓reduceIte,Nat.reduceEqDiff,reduceCtorEq,Nat.reduceAdd,Nat.reduceMul,Nat.reduceLeDiff,za0,za2,Int.reduceEq,Int.reduceLT,Int.reduceLE,Nat.reduceLT,tiA,tiXA, h5]
      exact o3
theorem specPatternOf_c (q : Int) (v : Value) (k : Nat) (l : List Int) (x : Value) (ll : List (List Int)) (a : Int) (H : AH)
    (hv : Rd 14 H v k l) (hk : k ≤ 4294967296) (hx : Rd2 1 H x ll) (hl : ll.length ≤ 4194304) (hl2 : ∀ y ∈ ll, y.length ≤ 4194304) :
    ACalls Tryz.prog 27 [.agg #[.int .i64 q, v], x, .int .i64 a] H (fun r H' => ∃ u, r = .tuple #[u, .int .i64 (codeV q k l ll (inT q a))] ∧ Ow H H' [.sl 1 2 u (patR q k l ll a).length (ints (patR q k l ll a))]) := by
  refine ACalls.wf (by kernel_rfl) fun hs => za3 [.tmp 6, .tmp 7] Tryz.func27 (by kernel_rfl) rfl rfl (Nat.le_of_ble_eq_true rfl) (by kernel_rfl) ?_
  have hone := hv.one
  have o1 := ((Ow.refl hs).push ⟨26, true, [.int .i64 q, v]⟩).pushSl (k := 1) (n := 1) (ty := 2) (vs := ints [a]) rfl
  have zz1 : zeros 1 [.int .i64 0] = [.int .i64 0] := rfl
  have ne1 : ¬ H.next = H.next + 1 := by omega
  try simp (disch := first | omega | (simp only [L3] <;> omega)) only [Sall,evalOp,init,binA_s,binE,binI,unE,convE,okNil,builtE,gv,TD.isAgg,resV,↓reduceIte,Nat.reduceEqDiff,reduceCtorEq,Nat.reduceAdd,Nat.reduceMul,Nat.reduceLeDiff,za0,za2,Int.reduceEq,Int.reduceLT,Int.reduceLE,Nat.reduceLT,tiA,tiXA, hone, zz1, ne1]
  (repeat refine And.intro (by omega) ?_)
  have o1 : Ow H ((H.push ⟨26, true, [.int .i64 q, v]⟩).push ⟨2, true, [.int .i64 a]⟩) [.row H.next ⟨26, true, [.int .i64 q, v]⟩, .sl 1 2 (.slice (some ⟨H.next + 1, 0, some 1⟩) 1 1) 1 (ints [a])] := o1
  obtain ⟨pi, epi⟩ : ∃ pi, pi = H.next := ⟨_, rfl⟩
  rw [← epi] at o1 ⊢
  revert o1
  generalize (H.push ⟨26, true, [.int .i64 q, v]⟩).push ⟨2, true, [.int .i64 a]⟩ = H1
  intro o1
  have hv1 := hv.same (o1.old hs)
  have hxg := hx.same (o1.old hs)
  refine (l05Team_c q v k l x ll _ a H1 hv1 hk hxg hl hl2 (o1.rd 1 rfl)).to ?_
  refine Holds.mp ?_
  unfold patR
  rcases zd1 q k l ll (inT q a) with hC | hC
  rotate_left
  · rw [if_neg (bne_iff_ne.1 hC)]
    try simp (disch := first | omega | (simp only [L3] <;> omega)) only [Sall,evalOp,init,binA_s,binE,binI,unE,convE,okNil,builtE,gv,TD.isAgg,resV,↓reduceIte,Nat.reduceEqDiff,reduceCtorEq,Nat.reduceAdd,Nat.reduceMul,Nat.reduceLeDiff,za0,za2,Int.reduceEq,Int.reduceLT,Int.reduceLE,Nat.reduceLT,tiA,tiXA, hC]
    exact ⟨_, rfl, (o1.addNil 1 2).only 2 rfl⟩
  rw [if_pos hC, hC]
  obtain ⟨hb, hf, hin, hvn⟩ := codeV_zero.1 hC
  obtain ⟨⟨hq2, hq14⟩, hk40, _⟩ := zaT hb
  obtain ⟨hlk, hfr⟩ := zd9 hf
  have hin := of_decide_eq_true hin
  obtain ⟨c, rfl⟩ : ∃ c : Nat, a = c := ⟨a.toNat, by omega⟩
  obtain ⟨n, rfl⟩ : ∃ n : Nat, q = n := ⟨q.toNat, by omega⟩
  rw [Int.toNat_natCast] at hf hfr hvn ⊢
  have c0 : ((0 : Int) != 0) = false := rfl
  try simp (disch := first | omega | (simp only [L3] <;> omega)) only [Sall,evalOp,init,binA_s,binE,binI,unE,convE,okNil,builtE,gv,TD.isAgg,resV,↓reduceIte,Nat.reduceEqDiff,reduceCtorEq,Nat.reduceAdd,Nat.reduceMul,Nat.reduceLeDiff,za0,za2,Int.reduceEq,Int.reduceLT,Int.reduceLE,Nat.reduceLT,tiA,tiXA, c0]
  refine ACalls.mono (zeI x ll c H1 hxg hl fun i hi => by rw [(hfr i (by omega)).1]; omega) ?_
  intro u H2 o2
  have hu := o2.one 0 rfl
  refine Holds.mp ?_
  try simp (disch := first | omega | (simp only [L3] <;> omega)) only [Sall,evalOp,init,binA_s,binE,binI,unE,convE,okNil,builtE,gv,TD.isAgg,resV,↓reduceIte,Nat.reduceEqDiff,reduceCtorEq,Nat.reduceAdd,Nat.reduceMul,Nat.reduceLeDiff,za0,za2,Int.reduceEq,Int.reduceLT,Int.reduceLE,Nat.reduceLT,tiA,tiXA, hu]
  rw [zbY]
  exact ⟨u, rfl, (o1.call o2).only 2 rfl⟩
end Go.Proofs.YtemgclojolmhbaaGreat.A
end

section
set_option maxRecDepth 100000
set_option maxHeartbeats 2000000
namespace Go.Proofs.YtemgclojolmhbaaGreat.A
open Go Go.Abs Go.RowKit
def CodeOk (H : AH) (cv : Value) (nb : Nat) : Prop :=
  (nb = 0 ∧ ∃ a c, cv = .slice a 0 c) ∨ ∃ i o u c r, cv = .slice (some ⟨i, o, u⟩) nb c ∧ H.row i = some r ∧ ∀ j, j < nb → ∃ x, r.cells[o + j]? = some (.int .u8 x) ∧ 0 ≤ x ∧ x ≤ 255
theorem CodeOk.len {H : AH} {cv : Value} {nb : Nat} (h : CodeOk H cv nb) (H' : AH) : asSl cv (.val (.int .i64 0) H') (fun _ _ _ n _ => .val (.int .i64 (n : Int)) H') = .val (.int .i64 (nb : Int)) H' := by
  rcases h with ⟨rfl, a, c, rfl⟩ | ⟨i, o, u, c, r, rfl, _⟩
  · cases a <;> rfl
  · rfl
theorem CodeOk.one {H : AH} {cv : Value} {nb : Nat} (h : CodeOk H cv nb) : cv.oneCell' = true := by
  rcases h with ⟨rfl, a, c, rfl⟩ | ⟨i, o, u, c, r, rfl, _⟩ <;> rfl
theorem CodeOk.get {H : AH} {cv : Value} {nb : Nat} (h : CodeOk H cv nb) {j : Nat} (hj : j < nb) : ∃ i o u c r x, cv = .slice (some ⟨i, o, u⟩) nb c ∧ H.row i = some r ∧ r.cells[o + j]? = some (.int .u8 x) ∧ 0 ≤ x ∧ x ≤ 255 := by
  rcases h with ⟨rfl, _⟩ | ⟨i, o, u, c, r, rfl, hr, hx⟩
  · omega
  · obtain ⟨x, h1, h2, h3⟩ := hx j hj
    exact ⟨i, o, u, c, r, x, rfl, hr, h1, h2, h3⟩
def Src (cv : Value) (nb si : Nat) (H : AH) : Prop := ∃ (a : Nat) (h : Int), H.row si = some ⟨94, true, [cv, .int .i64 a, .int .u64 h]⟩ ∧ a ≤ nb
structure SrcB (cv : Value) (nb si : Nat) (H H' : AH) : Prop where
  next : H'.next = H.next
  row : ∀ i, i ≠ si → H'.row i = H.row i
  src : Src cv nb si H'
theorem SrcB.refl {cv : Value} {nb si : Nat} {H : AH} (h : Src cv nb si H) : SrcB cv nb si H H := ⟨rfl, fun _ _ => rfl, h⟩
theorem SrcB.trans {cv : Value} {nb si : Nat} {A B C : AH} (h : SrcB cv nb si A B) (k : SrcB cv nb si B C) : SrcB cv nb si A C := ⟨k.next.trans h.next, fun i hi => (k.row i hi).trans (h.row i hi), k.src⟩
def CodeX (cv : Value) (nb si : Nat) (H : AH) : Prop := ∀ H', (∀ i r, i ≠ si → H.row i = some r → H'.row i = some r) → CodeOk H' cv nb
theorem CodeX.now {cv : Value} {nb si : Nat} {H : AH} (h : CodeX cv nb si H) : CodeOk H cv nb := h H fun _ _ _ k => k
theorem CodeX.later {cv : Value} {nb si : Nat} {H H' : AH} (h : CodeX cv nb si H) (hs : ∀ i r, i ≠ si → H.row i = some r → H'.row i = some r) : CodeX cv nb si H' := fun H2 h2 => h H2 fun i r hi hr => h2 i r hi (hs i r hi hr)
theorem SrcB.sc {cv : Value} {nb si : Nat} {H H' : AH} (h : SrcB cv nb si H H') (hs : Sc H) (hi : si < H.next) : Sc H' := fun i r hr => by
  rw [h.next]
  by_cases e : i = si
  · rw [e]; exact hi
  · rw [h.row i e] at hr; exact hs i r hr
theorem Ow.src {cv : Value} {nb si : Nat} {B H H' : AH} {L : List Th} (h : Ow B H L) (hi : si < B.next) (k : SrcB cv nb si H H') : ∃ B', SrcB cv nb si B B' ∧ Ow B' H' L := by
  have hb := h.next
  have hsr := k.src
  refine ⟨⟨B.next, fun i => if i = si then H'.row si else B.row i⟩, ⟨rfl, fun i hi => if_neg hi, ?_⟩, ⟨k.sc h.sc (by omega), by rw [k.next]; exact h.next, fun i hi2 => ?_, ?_⟩⟩
  · obtain ⟨a, x, h1, h2⟩ := hsr
    exact ⟨a, x, by show (if si = si then H'.row si else B.row si) = _; rw [if_pos rfl]; exact h1, h2⟩
  · show H'.row i = if i = si then H'.row si else B.row i
    by_cases e : i = si
    · rw [if_pos e, e]
    · rw [if_neg e, k.row i e, h.low i hi2]
  · obtain ⟨o, ho⟩ := h.own
    refine ⟨o, fun j q hj => q.loc H H' _ _ (fun i hi2 => ⟨hi2.1, by rw [k.next]; exact hi2.2.1, hi2.2.2⟩) (fun i r hi2 hr => ?_) (ho j q hj)⟩
    have hbn : B.next ≤ i := hi2.1
    rw [k.row i (by omega)]; exact hr
theorem Ow.srcCall {cv : Value} {nb si : Nat} {B H H1 H' : AH} {L M : List Th} (h : Ow B H L) (hi : si < B.next) (k : SrcB cv nb si H H1) (o : Ow H1 H' M) : ∃ B', SrcB cv nb si B B' ∧ Ow B' H' (L ++ M) := by
  obtain ⟨B', b1, b2⟩ := Ow.src h hi k
  exact ⟨B', b1, b2.call o⟩
theorem Ow.oldX {cv : Value} {nb si : Nat} {A B H : AH} {L : List Th} (h : Ow B H L) (k : SrcB cv nb si A B) (hs : Sc A) : ∀ i r, i ≠ si → A.row i = some r → H.row i = some r := fun i r hi hr => by
  rw [h.low i (by rw [k.next]; exact hs i r hr), k.row i hi, hr]
theorem Ow.srcAt {cv : Value} {nb si : Nat} {A B H : AH} {L : List Th} (h : Ow B H L) (k : SrcB cv nb si A B) (hi : si < A.next) : Src cv nb si H := by
  obtain ⟨a, x, h1, h2⟩ := k.src
  exact ⟨a, x, by rw [h.low si (by rw [k.next]; exact hi), h1], h2⟩
theorem and24 (x : Int) : ∃ y : Nat, IntKind.u64.wrap (BitVec.ofInt IntKind.u64.bits x &&& BitVec.ofInt IntKind.u64.bits 16777215).toNat = (y : Int) ∧ y ≤ 16777215 := by
  refine ⟨(BitVec.ofInt 64 x &&& BitVec.ofInt 64 16777215).toNat, ?_, ?_⟩
  · have h : (BitVec.ofInt 64 x &&& BitVec.ofInt 64 16777215).toNat ≤ 16777215 := by
      rw [BitVec.toNat_and]
      exact Nat.le_trans Nat.and_le_right (by decide)
    have hb : IntKind.u64.bits = 64 := rfl
    rw [hb]
    generalize (BitVec.ofInt 64 x &&& BitVec.ofInt 64 16777215).toNat = y at h ⊢
    unfold IntKind.wrap
    simp only [IntKind.bits, IntKind.signed, Bool.false_and, Bool.false_eq_true, if_false]
    omega
  · rw [BitVec.toNat_and]
    exact Nat.le_trans Nat.and_le_right (by decide)
theorem tmodN {y n : Int} (hy : 0 ≤ y) (hn : ¬ n < 1) : ∃ x : Nat, y.tmod n = (x : Int) ∧ (x : Int) < n := by
  have h1 := Int.emod_nonneg y (show n ≠ 0 by omega)
  have h2 := Int.emod_lt_of_pos y (show 0 < n by omega)
  exact ⟨(y % n).toNat, by rw [Int.tmod_eq_emod_of_nonneg hy]; omega, by omega⟩
theorem zc0 (cv : Value) (nb si : Nat) (n : Int) (H : AH) (hn : n ≤ 9223372036854775807) (hnb : nb ≤ 4611686018427387904) (hs : Src cv nb si H) (hc : CodeX cv nb si H) :
    ACalls Tryz.prog 31 [.pointer (some ⟨si, 0, none⟩), .int .i64 n] H (fun v H' => ∃ x : Nat, v = .int .i64 x ∧ ((n < 1 ∧ x = 0) ∨ (x : Int) < n) ∧ SrcB cv nb si H H') := by
  refine za3 [.tmp 4] Tryz.func31 (by kernel_rfl) rfl rfl (Nat.le_of_ble_eq_true rfl) (by kernel_rfl) ?_
  by_cases hn1 : n < 1
  · have e1 : decide (n < 1) = true := decide_eq_true hn1
    try simp (disch := first | omega | (simp only [L3] <;> omega)) only [Sall,evalOp,init,binA_s,binE,binI,unE,convE,okNil,builtE,gv,TD.isAgg,resV,↓reduceIte,Nat.reduceEqDiff,reduceCtorEq,Nat.reduceAdd,Nat.reduceMul,Nat.reduceLeDiff,za0,za2,Int.reduceEq,Int.reduceLT,Int.reduceLE,Nat.reduceLT,tiA,tiXA, e1]
    exact ⟨0, rfl, .inl ⟨hn1, rfl⟩, SrcB.refl hs⟩
  · have e1 : decide (n < 1) = false := decide_eq_false hn1
    obtain ⟨a, hh, hrow, ha⟩ := hs
    have hone := hc.now.one
    obtain ⟨y, hy1, hy2⟩ := and24 ((IntKind.u64.wrap (IntKind.u64.wrap (hh * 6364136223846793005) + 1442695040888963407)).fdiv (2 ^ min (Int.toNat 33) IntKind.u64.bits))
    have ey : IntKind.i64.wrap (y : Int) = (y : Int) := w64 (by omega)
    obtain ⟨h2, eh2⟩ : ∃ h2, h2 = IntKind.u64.wrap (IntKind.u64.wrap (hh * 6364136223846793005) + 1442695040888963407) := ⟨_, rfl⟩
    rw [← eh2] at hy1
    try simp (disch := first | omega | (simp only [L3] <;> omega)) only [Sall,evalOp,init,binA_s,binE,binI,unE,convE,okNil,builtE,gv,TD.isAgg,resV,↓reduceIte,Nat.reduceEqDiff,reduceCtorEq,Nat.reduceAdd,Nat.reduceMul,Nat.reduceLeDiff,za0,za2,Int.reduceEq,Int.reduceLT,Int.reduceLE,Nat.reduceLT,tiA,tiXA, e1, hrow, hone, ← eh2, hy1, ey]
    obtain ⟨H1, g1⟩ : ∃ H1, H1 = H.setCells si [cv, .int .i64 a, .int .u64 h2] := ⟨_, rfl⟩
    have r1 : H1.row si = some ⟨94, true, [cv, .int .i64 a, .int .u64 h2]⟩ := by rw [g1, AH.setCells_row, if_pos rfl, hrow]; rfl
    have k1 : ∀ i, i ≠ si → H1.row i = H.row i := fun i hi => by rw [g1, AH.setCells_row, if_neg hi]
    have n1 : H1.next = H.next := by rw [g1]; rfl
    rw [← g1]
    clear g1
    have hc1 := hc.later (H' := H1) fun i r hi hr => by rw [k1 i hi, hr]
    have hln := hc1.now.len
    refine zb2 (by kernel_rfl) (by kernel_rfl) ?_
    by_cases ha2 : a < nb
    · have e2 : decide ((a : Int) < (nb : Int)) = true := decide_eq_true (by omega)
      obtain ⟨ci, co, cu, cc, cr, b, rfl, cr1, cr2, cb1, cb2⟩ := hc1.now.get ha2
      have ebw : IntKind.i64.wrap b = b := w64 (by omega)
      try simp (disch := first | omega | (simp only [L3] <;> omega)) only [Sall,evalOp,init,binA_s,binE,binI,unE,convE,okNil,builtE,gv,TD.isAgg,resV,↓reduceIte,Nat.reduceEqDiff,reduceCtorEq,Nat.reduceAdd,Nat.reduceMul,Nat.reduceLeDiff,za0,za2,Int.reduceEq,Int.reduceLT,Int.reduceLE,Nat.reduceLT,tiA,tiXA, r1, hone, builtE, e2]
      refine zb2 (by kernel_rfl) (by kernel_rfl) ?_
      try simp (disch := first | omega | (simp only [L3] <;> omega)) only [Sall,evalOp,init,binA_s,binE,binI,unE,convE,okNil,builtE,gv,TD.isAgg,resV,↓reduceIte,Nat.reduceEqDiff,reduceCtorEq,Nat.reduceAdd,Nat.reduceMul,Nat.reduceLeDiff,za0,za2,Int.reduceEq,Int.reduceLT,Int.reduceLE,Nat.reduceLT,tiA,tiXA, r1, hone, builtE, e2, cr1, cr2, ebw]
      (repeat refine And.intro (by omega) ?_)
      try simp (disch := first | omega | (simp only [L3] <;> omega)) only [Sall,evalOp,init,binA_s,binE,binI,unE,convE,okNil,builtE,gv,TD.isAgg,resV,↓reduceIte,Nat.reduceEqDiff,reduceCtorEq,Nat.reduceAdd,Nat.reduceMul,Nat.reduceLeDiff,za0,za2,Int.reduceEq,Int.reduceLT,Int.reduceLE,Nat.reduceLT,tiA,tiXA, r1, hone, builtE, e2, cr1, cr2, ebw, w64]
      obtain ⟨x, x1, x2⟩ := tmodN (y := (y : Int) + b) (by omega) hn1
      exact ⟨x, x1, .inr x2, ⟨n1, fun i hi => by rw [AH.setCells_row, if_neg hi, k1 i hi], ⟨a + 1, h2, by rw [AH.setCells_row, if_pos rfl, r1]; rfl, by omega⟩⟩⟩
    · have e2 : decide ((a : Int) < (nb : Int)) = false := decide_eq_false (by omega)
      try simp (disch := first | omega | (simp only [L3] <;> omega)) only [Sall,evalOp,init,binA_s,binE,binI,unE,convE,okNil,builtE,gv,TD.isAgg,resV,↓reduceIte,Nat.reduceEqDiff,reduceCtorEq,Nat.reduceAdd,Nat.reduceMul,Nat.reduceLeDiff,za0,za2,Int.reduceEq,Int.reduceLT,Int.reduceLE,Nat.reduceLT,tiA,tiXA, r1, hone, builtE, hln, e2]
      obtain ⟨x, x1, x2⟩ := tmodN (y := (y : Int)) (by omega) hn1
      exact ⟨by omega, x, x1, .inr x2, ⟨n1, k1, ⟨a, h2, r1, ha⟩⟩⟩
theorem zhU (cv : Value) (nb si : Nat) (lv : Value) (k : Nat) (l : List Int) (H : AH) (hk : 0 < k) (hk2 : k ≤ 4294967296) (hnb : nb ≤ 4611686018427387904) (hs : Src cv nb si H) (hc : CodeX cv nb si H) (hl : ∀ H', SrcB cv nb si H H' → Rd 1 H' lv k l) :
    ACalls Tryz.prog 30 [.pointer (some ⟨si, 0, none⟩), lv] H (fun v H' => ∃ x : Int, v = .int .i64 x ∧ x ∈ l ∧ SrcB cv nb si H H') := by
  refine za3 [.tmp 4] Tryz.func30 (by kernel_rfl) rfl rfl (Nat.le_of_ble_eq_true rfl) (by kernel_rfl) ?_
  have hr := hl H (SrcB.refl hs)
  have hln := hr.len
  have hlk := hr.lenK1
  try simp (disch := first | omega | (simp only [L3] <;> omega)) only [Sall,evalOp,init,binA_s,binE,binI,unE,convE,okNil,builtE,gv,TD.isAgg,resV,↓reduceIte,Nat.reduceEqDiff,reduceCtorEq,Nat.reduceAdd,Nat.reduceMul,Nat.reduceLeDiff,za0,za2,Int.reduceEq,Int.reduceLT,Int.reduceLE,Nat.reduceLT,tiA,tiXA, builtE, hln]
  refine (zc0 cv nb si k H (by omega) hnb hs hc).ex ?_
  rintro x H1 ⟨hx, hS⟩
  have hxk : x < k := by rcases hx with h | h <;> omega
  obtain ⟨i, o, u, c, r, rfl, r1, r2, r3, r4⟩ := (hl H1 hS).get hk
  have r5 := r3 x (by omega)
  refine Holds.mp ?_
  try simp (disch := first | omega | (simp only [L3] <;> omega)) only [Sall,evalOp,init,binA_s,binE,binI,unE,convE,okNil,builtE,gv,TD.isAgg,resV,↓reduceIte,Nat.reduceEqDiff,reduceCtorEq,Nat.reduceAdd,Nat.reduceMul,Nat.reduceLeDiff,za0,za2,Int.reduceEq,Int.reduceLT,Int.reduceLE,Nat.reduceLT,tiA,tiXA, r1, r5]
  refine ⟨⟨by omega, by omega⟩, ?_, hS⟩
  rw [List.getD_eq_getElem?_getD, List.getElem?_eq_getElem (by omega)]
  exact List.getElem_mem _
theorem zhE (cv : Value) (nb si : Nat) (m : Int) (H : AH) (hm : -1 ≤ m ∧ m ≤ 4294967296) (hnb : nb ≤ 4611686018427387904) (hs : Src cv nb si H) (hc : CodeX cv nb si H) (hsc : Sc H) :
    ACalls Tryz.prog 47 [.pointer (some ⟨si, 0, none⟩), .int .i64 m] H (fun v H' => ∃ x : Int, v = .int .i64 x ∧ -4611686018427387904 ≤ x ∧ x ≤ 1099511627776 ∧ ∃ H1, SrcB cv nb si H H1 ∧ Ow H1 H' []) := by
  refine za3 [.tmp 4] Tryz.func47 (by kernel_rfl) rfl rfl (Nat.le_of_ble_eq_true rfl) (by kernel_rfl) ?_
  obtain ⟨_, _, hrow, _⟩ := id hs
  have hsi := hsc _ _ hrow
  try simp (disch := first | omega | (simp only [L3] <;> omega)) only [Sall,evalOp,init,binA_s,binE,binI,unE,convE,okNil,builtE,gv,TD.isAgg,resV,↓reduceIte,Nat.reduceEqDiff,reduceCtorEq,Nat.reduceAdd,Nat.reduceMul,Nat.reduceLeDiff,za0,za2,Int.reduceEq,Int.reduceLT,Int.reduceLE,Nat.reduceLT,tiA,tiXA, true_and]
  refine (zc0 cv nb si 14 H (by omega) hnb hs hc).ex ?_
  rintro x H1 ⟨hx, hS⟩
  have hc1 := hc.later (H' := H1) fun i r hi hr => by rw [hS.row i hi, hr]
  have hsc1 := hS.sc hsc hsi
  refine Holds.mp ?_
  by_cases h0 : (x : Int) = 0
  · have e0 : ((x : Int) == 0) = true := by rw [h0]; rfl
    have zz : zeros 4 [.int .i64 0] = [.int .i64 0, .int .i64 0, .int .i64 0, .int .i64 0] := rfl
    try simp (disch := first | omega | (simp only [L3] <;> omega)) only [Sall,evalOp,init,binA_s,binE,binI,unE,convE,okNil,builtE,gv,TD.isAgg,resV,↓reduceIte,Nat.reduceEqDiff,reduceCtorEq,Nat.reduceAdd,Nat.reduceMul,Nat.reduceLeDiff,za0,za2,Int.reduceEq,Int.reduceLT,Int.reduceLE,Nat.reduceLT,tiA,tiXA, e0, zz, w64]
    obtain ⟨H2, e2⟩ : ∃ H2, H2 = H1.push ⟨2, true, ints [-1, m + 1, 1099511627776, -4611686018427387904]⟩ := ⟨_, rfl⟩
    have e2' : H1.push ⟨2, true, [.int .i64 (-1), .int .i64 (m + 1), .int .i64 1099511627776, .int .i64 (-4611686018427387904)]⟩ = H2 := e2.symm
    rw [e2']
    have o2 : Ow H1 H2 [.sl 1 2 (.slice (some ⟨H1.next, 0, some 1⟩) 4 4) 4 (ints [-1, m + 1, 1099511627776, -4611686018427387904])] := by rw [e2]; exact (Ow.refl hsc1).pushSl rfl
    clear e2 e2'
    have hs2 : Src cv nb si H2 := Ow.srcAt o2 (SrcB.refl hS.src) (by rw [hS.next]; exact hsi)
    have hc2 := hc1.later (H' := H2) fun i r hi hr => Ow.oldX o2 (SrcB.refl hS.src) hsc1 i r hi hr
    have hfr := (o2.getV 0 rfl).2.2
    refine (zhU cv nb si _ 4 [-1, m + 1, 1099511627776, -4611686018427387904] H2 (by omega) (by omega) hnb hs2 hc2 fun H' hS' => Fr.rd (ty := 2) (lo := 0) (hi := H1.next + 1) ⟨rfl, .inr ⟨H1.next, Nat.zero_le _, Nat.lt_succ_self _, rfl, by rw [hS'.row _ (by have := hS.next; omega)]; exact hfr⟩⟩).ex ?_
    rintro y H3 ⟨hy, hS3⟩
    obtain ⟨B', b1, b2⟩ := Ow.src o2 (by rw [hS.next]; exact hsi) hS3
    refine Holds.mp ?_
    try simp (disch := first | omega | (simp only [L3] <;> omega)) only [Sall,evalOp,init,binA_s,binE,binI,unE,convE,okNil,builtE,gv,TD.isAgg,resV,↓reduceIte,Nat.reduceEqDiff,reduceCtorEq,Nat.reduceAdd,Nat.reduceMul,Nat.reduceLeDiff,za0,za2,Int.reduceEq,Int.reduceLT,Int.reduceLE,Nat.reduceLT,tiA,tiXA, true_and]
    simp only [List.mem_cons, List.not_mem_nil, or_false] at hy
    refine ⟨by omega, by omega, B', hS.trans b1, Ow.left (L := []) b2⟩
  · have e0 : ((x : Int) == 0) = false := beq_eq_false_iff_ne.2 h0
    try simp (disch := first | omega | (simp only [L3] <;> omega)) only [Sall,evalOp,init,binA_s,binE,binI,unE,convE,okNil,builtE,gv,TD.isAgg,resV,↓reduceIte,Nat.reduceEqDiff,reduceCtorEq,Nat.reduceAdd,Nat.reduceMul,Nat.reduceLeDiff,za0,za2,Int.reduceEq,Int.reduceLT,Int.reduceLE,Nat.reduceLT,tiA,tiXA, e0, w64]
    refine (zc0 cv nb si (m + 1) H1 (by omega) hnb hS.src hc1).ex ?_
    rintro y H2 ⟨hy, hS2⟩
    refine Holds.mp ?_
    try simp (disch := first | omega | (simp only [L3] <;> omega)) only [Sall,evalOp,init,binA_s,binE,binI,unE,convE,okNil,builtE,gv,TD.isAgg,resV,↓reduceIte,Nat.reduceEqDiff,reduceCtorEq,Nat.reduceAdd,Nat.reduceMul,Nat.reduceLeDiff,za0,za2,Int.reduceEq,Int.reduceLT,Int.reduceLE,Nat.reduceLT,tiA,tiXA, true_and]
    exact ⟨by omega, by omega, H2, hS.trans hS2, Ow.refl (hS2.sc hsc1 (by rw [hS.next]; exact hsi))⟩
end Go.Proofs.YtemgclojolmhbaaGreat.A
end

section
set_option maxRecDepth 100000
set_option maxHeartbeats 2000000
namespace Go.Proofs.YtemgclojolmhbaaGreat.A
open Go Go.Abs Go.RowKit
theorem rd_seg {k n i o c : Nat} {u : Option Nat} {H : AH} {l : List Int} (h : Rd k H (.slice (some ⟨i, o, u⟩) n c) n l) (hn : 0 < n) : ∃ r, H.row i = some r ∧ o + n * k ≤ r.cells.length ∧ seg r.cells o (n * k) = ints l := by
  rcases h.2 with ⟨h0, _⟩ | ⟨i', o', u', c', r, e, hr, h3, h4⟩
  · omega
  · cases e; exact ⟨r, hr, h3, h4⟩
def Cp (H : AH) (v : Value) (y : List Int) : Prop := Rd 1 H v y.length y ∧ (y.length = 0 → v = .slice none 0 0 ∨ ∃ i c r, v = .slice (some ⟨i, 0, some 1⟩) 0 c ∧ H.row i = some r ∧ r.rw = true)
theorem Cp.of_fr {ty lo hi : Nat} {H : AH} {v : Value} {y : List Int} (h : Fr 1 ty lo hi H v y.length y) : Cp H v y := by
  refine ⟨h.rd, fun h0 => ?_⟩
  rcases h.2 with ⟨_, rfl⟩ | ⟨i, h1, h2, rfl, hr⟩
  · exact .inl rfl
  · rw [h0]; exact .inr ⟨i, 0, _, rfl, hr, rfl⟩
theorem zgP (v : Value) (y : List Int) (H : AH) (hv : Cp H v y) (hy : y.length ≤ 4194304) :
    ACalls Tryz.prog 76 [v] H (fun u H' => Up H.next H H' ∧ Fr 1 2 H.next H'.next H' u y.length y) := by
  refine ACalls.wf (by kernel_rfl) fun hs => za3 [.tmp 2] Tryz.func76 (by kernel_rfl) rfl rfl (Nat.le_of_ble_eq_true rfl) (by kernel_rfl) ?_
  obtain ⟨hrd, hz⟩ := hv
  by_cases h0 : y.length = 0
  · have hy0 : y = [] := List.eq_nil_of_length_eq_zero h0
    subst hy0
    rcases hz h0 with rfl | ⟨i, c, r, rfl, hr, hw⟩
    · try simp (disch := first | omega | (simp only [L3] <;> omega)) only [Sall,evalOp,init,binA_s,binE,binI,unE,convE,okNil,builtE,gv,TD.isAgg,resV,↓reduceIte,Nat.reduceEqDiff,reduceCtorEq,Nat.reduceAdd,Nat.reduceMul,Nat.reduceLeDiff,za0,za2,Int.reduceEq,Int.reduceLT,Int.reduceLE,Nat.reduceLT,tiA, zaV, zaL, appE]
      refine ⟨(Up.refl _ H).push (Nat.le_refl _) _, ⟨rfl, .inr ⟨H.next, Nat.le_refl _, Nat.lt_succ_self _, rfl, by rw [AH.push_row, if_pos rfl]; rfl⟩⟩⟩
    · have hi := hs _ _ hr
      have ne : ¬ i = H.next := by omega
      have hok : Go.Abs.Row.ok r [] = True := eq_true (.inl hw)
      try simp (disch := first | omega | (simp only [L3] <;> omega)) only [Sall,evalOp,init,binA_s,binE,binI,unE,convE,okNil,builtE,gv,TD.isAgg,resV,↓reduceIte,Nat.reduceEqDiff,reduceCtorEq,Nat.reduceAdd,Nat.reduceMul,Nat.reduceLeDiff,za0,za2,Int.reduceEq,Int.reduceLT,Int.reduceLE,Nat.reduceLT,tiA, zaV, zaL, hr, ne, hok, appE]
      (repeat refine And.intro (by omega) ?_)
      refine ⟨(Up.refl _ H).push (Nat.le_refl _) _, ⟨rfl, .inr ⟨H.next, Nat.le_refl _, Nat.lt_succ_self _, rfl, by rw [AH.push_row, if_pos rfl]; rfl⟩⟩⟩
  · obtain ⟨i, o, u, c, r, rfl, hr, hc, _, _⟩ := hrd.get (by omega)
    obtain ⟨r', hr', hc', hseg⟩ := rd_seg hrd (by omega)
    rw [hr] at hr'
    cases hr'
    rw [Nat.mul_one] at hseg hc
    have hi := hs _ _ hr
    have ne : ¬ i = H.next := by omega
    try simp (disch := first | omega | (simp only [L3] <;> omega)) only [Sall,evalOp,init,binA_s,binE,binI,unE,convE,okNil,builtE,gv,TD.isAgg,resV,↓reduceIte,Nat.reduceEqDiff,reduceCtorEq,Nat.reduceAdd,Nat.reduceMul,Nat.reduceLeDiff,za0,za2,Int.reduceEq,Int.reduceLT,Int.reduceLE,Nat.reduceLT,tiA, zaV, zaL, hr, ne, hseg]
    (repeat refine And.intro (by omega) ?_)
    have h3 : Fr 1 2 H.next (H.next + 1) (H.push ⟨2, true, []⟩) (.slice (some ⟨H.next, 0, some 1⟩) 0 0) 0 [] := ⟨rfl, .inr ⟨H.next, Nat.le_refl _, Nat.lt_succ_self _, rfl, by rw [AH.push_row, if_pos rfl]; rfl⟩⟩
    refine zgH h3 rfl (by omega) (by omega) (by omega) (by decide) (by omega) (by rw [AH.push_next]; omega) ?_
    intro v' H4 k1 k2 k3
    rw [AH.push_next] at k1 k2 k3
    rw [Nat.zero_add, List.nil_append] at k3
    have k5 := k3.rd.one
    try simp (disch := first | omega | (simp only [L3] <;> omega)) only [Sall,evalOp,init,binA_s,binE,binI,unE,convE,okNil,builtE,gv,TD.isAgg,resV,↓reduceIte,Nat.reduceEqDiff,reduceCtorEq,Nat.reduceAdd,Nat.reduceMul,Nat.reduceLeDiff,za0,za2,Int.reduceEq,Int.reduceLT,Int.reduceLE,Nat.reduceLT,tiA, true_and]
    exact ⟨⟨by omega, fun i hi => by rw [k2 i (by omega) (by omega), AH.push_row, if_neg (by omega)]⟩, k3.wide (by omega) (by omega)⟩
/-! ### All orders -/
def Per (b0 : Nat) (H : AH) (v : Value) (y : List Int) : Prop := ∀ H', (∀ i, b0 ≤ i → i < H.next → H'.row i = H.row i) → Cp H' v y
theorem Per.nil (b0 : Nat) (H : AH) : Per b0 H (.slice none 0 0) [] := fun H' _ => ⟨⟨rfl, .inl ⟨rfl, none, 0, rfl, fun _ => rfl⟩⟩, fun _ => .inl rfl⟩
theorem Per.fr {b0 ty lo hi : Nat} {H : AH} {v : Value} {y : List Int} (h : Fr 1 ty lo hi H v y.length y) (hb : b0 ≤ lo) (hn : hi ≤ H.next) : Per b0 H v y := by
  intro H' hr
  refine Cp.of_fr (ty := ty) (lo := lo) (hi := hi) ⟨h.1, ?_⟩
  rcases h.2 with h2 | ⟨i, h1, h2, hv, hri⟩
  · exact .inl h2
  · exact .inr ⟨i, h1, h2, hv, by rw [hr i (by omega) (by omega)]; exact hri⟩
end Go.Proofs.YtemgclojolmhbaaGreat.A
end

section
set_option maxRecDepth 100000
set_option maxHeartbeats 2000000
namespace Go.Proofs.YtemgclojolmhbaaGreat.A
open Go Go.Abs Go.RowKit
theorem evo_pnil (t : T) : evo t (.const (.pointer none)) = some (.pointer none) := (rfl)
theorem ze3 (cv : Value) (nb : Nat) (H : AH) (hnb : nb ≤ 4611686018427387904) (hc : CodeOk H cv nb) :
    ACalls Tryz.prog 28 [cv] H (fun v H' => v = .pointer (some ⟨H.next, 0, none⟩) ∧ Up H.next H H' ∧ Sc H' ∧ H.next < H'.next ∧ Src cv nb H.next H') := by
  refine ACalls.wf (by kernel_rfl) fun hs => za3 [.tmp 2] Tryz.func28 (by kernel_rfl) rfl rfl (Nat.le_of_ble_eq_true rfl) (by kernel_rfl) ?_
  have hone := hc.one
  have hw1 := zbB hone
  have hw2 := zb0 hone
  have hln := hc.len
  have hz : [Value.slice none 0 0, .int .i64 0, .int .u64 0] = [Value.slice none 0 0, .int .i64 0, .int .u64 0] := rfl
  try simp (disch := first | omega | (simp only [L3] <;> omega)) only [Sall,evalOp,init,binA_s,binE,binI,unE,convE,okNil,builtE,gv,TD.isAgg,resV,↓reduceIte,Nat.reduceEqDiff,reduceCtorEq,Nat.reduceAdd,Nat.reduceMul,Nat.reduceLeDiff,za0,za2,Int.reduceEq,Int.reduceLT,Int.reduceLE,Nat.reduceLT,tiA,tiXA, hone, hw1, hw2, hln, builtE, evo_pnil]
  obtain ⟨h0, eh0⟩ : ∃ h0, h0 = IntKind.u64.wrap (13791 + IntKind.u64.wrap (nb : Int)) := ⟨_, rfl⟩
  rw [← eh0]
  have o1 := (Ow.refl hs).push ⟨94, true, [cv, .int .i64 0, .int .u64 h0]⟩
  refine za5 (fun z t H' => ∃ (j : Nat) (h : Int), z = nb - j ∧ j ≤ nb ∧ t 4 = .int .i64 j ∧ t 3 = .pointer (some ⟨H.next, 0, none⟩) ∧ t 0 = cv ∧ Ow H H' [.row H.next ⟨94, true, [cv, .int .i64 0, .int .u64 h]⟩]) nb ?_ ?_
  · refine ⟨0, h0, by omega, by omega, ?_⟩
    try simp (disch := first | omega | (simp only [L3] <;> omega)) only [Sall,evalOp,init,binA_s,binE,binI,unE,convE,okNil,builtE,gv,TD.isAgg,resV,↓reduceIte,Nat.reduceEqDiff,reduceCtorEq,Nat.reduceAdd,Nat.reduceMul,Nat.reduceLeDiff,za0,za2,Int.reduceEq,Int.reduceLT,Int.reduceLE,Nat.reduceLT,tiA,tiXA, Int.natCast_zero]
    exact o1
  · rintro z t H' ⟨j, h, hz, hj, h4, h3, h0', o2⟩
    have g0 := (o2.rowAt 0 rfl).1
    have n0 := (o2.rowAt 0 rfl).2
    by_cases c1 : j < nb
    · have e1 : decide ((j : Int) < (nb : Int)) = true := decide_eq_true (by omega)
      by_cases c2 : j < 4096
      · have e2 : decide ((j : Int) < 4096) = true := decide_eq_true (by omega)
        try simp (disch := first | omega | (simp only [L3] <;> omega)) only [Sall,evalOp,init,binA_s,binE,binI,unE,convE,okNil,builtE,gv,TD.isAgg,resV,↓reduceIte,Nat.reduceEqDiff,reduceCtorEq,Nat.reduceAdd,Nat.reduceMul,Nat.reduceLeDiff,za0,za2,Int.reduceEq,Int.reduceLT,Int.reduceLE,Nat.reduceLT,tiA,tiXA, h4, h0', builtE, hln, e1, e2]
        have hc' : CodeOk H' cv nb := by
          rcases hc with ⟨q1, q2⟩ | ⟨i, o, u, c, r, q1, q2, q3⟩
          · exact .inl ⟨q1, q2⟩
          · exact .inr ⟨i, o, u, c, r, q1, o2.old hs _ _ q2, q3⟩
        obtain ⟨ci, co, cu, cc, cr, b, rfl, cr1, cr2, cb1, cb2⟩ := hc'.get c1
        try simp (disch := first | omega | (simp only [L3] <;> omega)) only [Sall,evalOp,init,binA_s,binE,binI,unE,convE,okNil,builtE,gv,TD.isAgg,resV,↓reduceIte,Nat.reduceEqDiff,reduceCtorEq,Nat.reduceAdd,Nat.reduceMul,Nat.reduceLeDiff,za0,za2,Int.reduceEq,Int.reduceLT,Int.reduceLE,Nat.reduceLT,tiA,tiXA, h4, h3]
        refine zb2 (by kernel_rfl) (by kernel_rfl) ?_
        try simp (disch := first | omega | (simp only [L3] <;> omega)) only [Sall,evalOp,init,binA_s,binE,binI,unE,convE,okNil,builtE,gv,TD.isAgg,resV,↓reduceIte,Nat.reduceEqDiff,reduceCtorEq,Nat.reduceAdd,Nat.reduceMul,Nat.reduceLeDiff,za0,za2,Int.reduceEq,Int.reduceLT,Int.reduceLE,Nat.reduceLT,tiA,tiXA, h4, h3, h0', g0, cr1, cr2, hone]
        (repeat refine And.intro (by omega) ?_)
        exact ⟨.inr (.inl (by kernel_rfl)), nb - (j + 1), by omega, j + 1, _, rfl, by omega, w64 (by omega), o2.putRow 0 rfl⟩
      · have e2 : decide ((j : Int) < 4096) = false := decide_eq_false (by omega)
        try simp (disch := first | omega | (simp only [L3] <;> omega)) only [Sall,evalOp,init,binA_s,binE,binI,unE,convE,okNil,builtE,gv,TD.isAgg,resV,↓reduceIte,Nat.reduceEqDiff,reduceCtorEq,Nat.reduceAdd,Nat.reduceMul,Nat.reduceLeDiff,za0,za2,Int.reduceEq,Int.reduceLT,Int.reduceLE,Nat.reduceLT,tiA,tiXA, h4, h0', h3, builtE, hln, e1, e2]
        exact ⟨o2.up, o2.sc, by omega, ⟨0, h, g0, Nat.zero_le _⟩⟩
    · have e1 : decide ((j : Int) < (nb : Int)) = false := decide_eq_false (by omega)
      try simp (disch := first | omega | (simp only [L3] <;> omega)) only [Sall,evalOp,init,binA_s,binE,binI,unE,convE,okNil,builtE,gv,TD.isAgg,resV,↓reduceIte,Nat.reduceEqDiff,reduceCtorEq,Nat.reduceAdd,Nat.reduceMul,Nat.reduceLeDiff,za0,za2,Int.reduceEq,Int.reduceLT,Int.reduceLE,Nat.reduceLT,tiA,tiXA, h4, h0', h3, builtE, hln, e1]
      exact ⟨o2.up, o2.sc, by omega, ⟨0, h, g0, Nat.zero_le _⟩⟩
structure PermL (n : Nat) (l : List Int) : Prop where
  len : l.length = n
  nod : l.Nodup
  rng : ∀ x ∈ l, 0 ≤ x ∧ x < (n : Int)
  all : ∀ x : Nat, x < n → (x : Int) ∈ l
theorem PermL.zero : PermL 0 [] := ⟨rfl, by simp, by simp, fun x hx => by omega⟩
theorem PermL.ins {n : Nat} {l : List Int} (h : PermL n l) (a : Nat) (ha : a ≤ n) : PermL (n + 1) (l.take a ++ [(n : Int)] ++ l.drop a) := by
  have hta := List.take_append_drop a l
  have hp : (l.take a ++ [(n : Int)] ++ l.drop a).Perm ((n : Int) :: l) := by
    rw [List.append_assoc]
    refine (List.perm_middle (l₁ := l.take a) (l₂ := l.drop a) (a := (n : Int))).trans ?_
    rw [hta]
  refine ⟨?_, ?_, fun x hx => ?_, fun x hx => ?_⟩
  · rw [hp.length_eq, List.length_cons, h.len]
  · rw [hp.nodup_iff, List.nodup_cons]
    exact ⟨fun hm => by have := h.rng _ hm; omega, h.nod⟩
  · have := hp.mem_iff.1 hx
    rcases List.mem_cons.1 this with e | e
    · omega
    · have := h.rng _ e; omega
  · rw [hp.mem_iff]
    by_cases e : x = n
    · rw [e]; simp
    · exact List.mem_cons_of_mem _ (h.all x (by omega))
theorem frcut {P : Program} {E : TI} {K : Value → AH → Prop} {H : AH} {i n a b : Nat} {lo hi : Option Int} (hE : E.size = 1) (ha : lo.getD 0 = (a : Int)) (hb : hi.getD (n : Int) = (b : Int)) (hab : a ≤ b) (hbn : b ≤ n) (hK : K (.slice (some ⟨i, a, some 1⟩) (b - a) (b - a)) H) :
    runOut P H (sliceE E (.slice (some ⟨i, 0, some 1⟩) n n) lo hi none H) K := by
  unfold sliceE
  rw [if_neg (by simp)]
  simp only [zbD, zaE, zaQ, ha, hb, Int.toNat_natCast, hE, Nat.mul_one, Nat.zero_add]
  exact ⟨⟨by omega, by omega, by omega, trivial⟩, hK⟩
theorem zhM {P : Program} {E : TI} {K : Value → AH → Prop} {H : AH} {ty : TypeId} {i o z n c : Nat} {xs : List Value} (hK : K (.slice (some ⟨i, o, some z⟩) n c) H) : runOut P H (appE E ty (.slice (some ⟨i, o, some z⟩) n c) xs 0 H) K := by
  unfold appE
  rw [if_pos rfl]
  simp only [zbD, zaE, zaQ]
  exact ⟨(fun h => by cases h), hK⟩
theorem cp_pre {H : AH} {i a n : Nat} {ty : TypeId} {l : List Int} (hr : H.row i = some ⟨ty, true, ints l⟩) (ha : a ≤ l.length) : Cp H (.slice (some ⟨i, 0, some 1⟩) a n) (l.take a) := by
  have hl : (l.take a).length = a := by rw [List.length_take]; omega
  refine ⟨⟨by omega, .inr ⟨i, 0, some 1, n, _, by rw [hl], hr, by rw [hl, za1]; omega, ?_⟩⟩, fun h => .inr ⟨i, n, _, by rw [show a = 0 by omega], hr, rfl⟩⟩
  rw [hl, Nat.mul_one]
  simp [seg, ints, List.map_take]
theorem zbG (cv : Value) (nb si : Nat) (n : Int) (H : AH) (hn : n ≤ 4096) (hnb : nb ≤ 4611686018427387904) (hs : Src cv nb si H) (hc : CodeX cv nb si H) :
    ACalls Tryz.prog 34 [.pointer (some ⟨si, 0, none⟩), .int .i64 n] H (fun v H' => ∃ (l : List Int) (H1 : AH), SrcB cv nb si H H1 ∧ Ow H1 H' [.sl 1 2 v n.toNat (ints l)] ∧ PermL n.toNat l) := by
  refine ACalls.wf (by kernel_rfl) fun hsc => za3 [.tmp 4] Tryz.func34 (by kernel_rfl) rfl rfl (Nat.le_of_ble_eq_true rfl) (by kernel_rfl) ?_
  obtain ⟨_, _, hrow, _⟩ := id hs
  have hsi := hsc _ _ hrow
  have o1 := (Ow.refl hsc).pushSl (k := 1) (n := 0) (ty := 2) (vs := ints []) rfl
  try simp (disch := first | omega | (simp only [L3] <;> omega)) only [Sall,evalOp,init,binA_s,binE,binI,unE,convE,okNil,builtE,gv,TD.isAgg,resV,↓reduceIte,Nat.reduceEqDiff,reduceCtorEq,Nat.reduceAdd,Nat.reduceMul,Nat.reduceLeDiff,za0,za2,Int.reduceEq,Int.reduceLT,Int.reduceLE,Nat.reduceLT,tiA,tiXA, zaV]
  refine za5 (fun z t H' => ∃ (i ui : Nat) (l : List Int) (B : AH), z = n.toNat - i ∧ i ≤ n.toNat ∧ t 6 = .int .i64 i ∧ t 5 = .slice (some ⟨ui, 0, some 1⟩) i i ∧ t 0 = .pointer (some ⟨si, 0, none⟩) ∧ t 1 = .int .i64 n ∧ SrcB cv nb si H B ∧ Ow B H' [.sl 1 2 (.slice (some ⟨ui, 0, some 1⟩) i i) i (ints l)] ∧ PermL i l) n.toNat ?_ ?_
  · refine ⟨0, H.next, [], H, by omega, by omega, ?_⟩
    try simp (disch := first | omega | (simp only [L3] <;> omega)) only [Sall,evalOp,init,binA_s,binE,binI,unE,convE,okNil,builtE,gv,TD.isAgg,resV,↓reduceIte,Nat.reduceEqDiff,reduceCtorEq,Nat.reduceAdd,Nat.reduceMul,Nat.reduceLeDiff,za0,za2,Int.reduceEq,Int.reduceLT,Int.reduceLE,Nat.reduceLT,tiA,tiXA, Int.natCast_zero]
    exact ⟨SrcB.refl hs, o1, PermL.zero⟩
  · rintro z t H' ⟨i, ui, l, B, hz, hi, h6, h5, h0, h1, hB, o2, hp⟩
    try simp (disch := first | omega | (simp only [L3] <;> omega)) only [Sall,evalOp,init,binA_s,binE,binI,unE,convE,okNil,builtE,gv,TD.isAgg,resV,↓reduceIte,Nat.reduceEqDiff,reduceCtorEq,Nat.reduceAdd,Nat.reduceMul,Nat.reduceLeDiff,za0,za2,Int.reduceEq,Int.reduceLT,Int.reduceLE,Nat.reduceLT,tiA,tiXA, h6, h1]
    have hsiB : si < B.next := by rw [hB.next]; exact hsi
    refine za4 (fun hh => ?_) (fun hh => ?_)
    · try simp (disch := first | omega | (simp only [L3] <;> omega)) only [Sall,evalOp,init,binA_s,binE,binI,unE,convE,okNil,builtE,gv,TD.isAgg,resV,↓reduceIte,Nat.reduceEqDiff,reduceCtorEq,Nat.reduceAdd,Nat.reduceMul,Nat.reduceLeDiff,za0,za2,Int.reduceEq,Int.reduceLT,Int.reduceLE,Nat.reduceLT,tiA,tiXA, h6, h0, w64]
      refine (zc0 cv nb si ((i : Int) + 1) H' (by omega) hnb (Ow.srcAt o2 hB hsi) (hc.later fun j r hj hr => Ow.oldX o2 hB hsc j r hj hr)).ex ?_
      rintro a H2 ⟨ha, hS⟩
      have hai : a ≤ i := by omega
      obtain ⟨B2, b1, o3⟩ := Ow.src o2 hsiB hS
      have hB2 := hB.trans b1
      have hl := hp.len
      have rU3 := (o3.getV 0 rfl).2.2
      refine Holds.mp ?_
      try simp (disch := first | omega | (simp only [L3] <;> omega)) only [Sall,evalOp,init,binA_s,binE,binI,unE,convE,okNil,builtE,gv,TD.isAgg,resV,↓reduceIte,Nat.reduceEqDiff,reduceCtorEq,Nat.reduceAdd,Nat.reduceMul,Nat.reduceLeDiff,za0,za2,Int.reduceEq,Int.reduceLT,Int.reduceLE,Nat.reduceLT,tiA,tiXA, h6, h5]
      refine draw_tree (OT.run [0, 1, 2, 4, 7, 8, 9] (.two 3 5 (OT.run [5, 6, 10, 11] .nil) (OT.run [3, 6, 10, 11] .nil))) (by kernel_rfl) (by kernel_rfl) (Nat.le_of_ble_eq_true rfl) ?_
      try simp (disch := first | omega | (simp only [L3] <;> omega)) only [Sall,evalOp,init,binA_s,binE,binI,unE,convE,okNil,builtE,gv,TD.isAgg,resV,↓reduceIte,Nat.reduceEqDiff,reduceCtorEq,Nat.reduceAdd,Nat.reduceMul,Nat.reduceLeDiff,za0,za2,Int.reduceEq,Int.reduceLT,Int.reduceLE,Nat.reduceLT,tiA,tiXA, zbJ, zbK, zaS, zaN, h6, h5]
      refine frcut (a := 0) (b := a) rfl rfl rfl (Nat.zero_le _) hai ?_
      try simp (disch := first | omega | (simp only [L3] <;> omega)) only [Sall,evalOp,init,binA_s,binE,binI,unE,convE,okNil,builtE,gv,TD.isAgg,resV,↓reduceIte,Nat.reduceEqDiff,reduceCtorEq,Nat.reduceAdd,Nat.reduceMul,Nat.reduceLeDiff,za0,za2,Int.reduceEq,Int.reduceLT,Int.reduceLE,Nat.reduceLT,tiA,tiXA, zbJ, zbK, zaS, zaN, h6, h5]
      refine frcut (a := a) (b := i) rfl rfl rfl hai (Nat.le_refl _) ?_
      have hsg : seg (ints l) a (i - a) = ints (l.drop a) := by
        rw [zfD, List.take_of_length_le (by rw [List.length_drop]; omega)]
      have hm6 : PermL (i + 1) (l.take a ++ [(i : Int)] ++ l.drop a) := hp.ins a hai
      have fin7 : ∀ (A : AH) (H7 : AH) (x y : Th), Ow A H7 [x, y] → Ow A H7 [y] := fun A H7 x y o => o.sub (fun _ => 1) (fun j hj => by
          obtain rfl : j = 0 := by simp at hj; omega
          rfl) (fun x y hx hy _ => by simp at hx hy; omega)
      have hla : (l.take a).length = a := by rw [List.length_take]; omega
      have zz : zeros 1 [.int .i64 0] = [.int .i64 0] := rfl
      try simp (disch := first | omega | (simp only [L3] <;> omega)) only [Sall,evalOp,init,binA_s,binE,binI,unE,convE,okNil,builtE,gv,TD.isAgg,resV,↓reduceIte,Nat.reduceEqDiff,reduceCtorEq,Nat.reduceAdd,Nat.reduceMul,Nat.reduceLeDiff,za0,za2,Int.reduceEq,Int.reduceLT,Int.reduceLE,Nat.reduceLT,tiA,tiXA, zbJ, zbK, zaS, zaN, h6, h5, Nat.sub_zero]
      refine awpT_two ?_ ?_
      · try simp (disch := first | omega | (simp only [L3] <;> omega)) only [Sall,evalOp,init,binA_s,binE,binI,unE,convE,okNil,builtE,gv,TD.isAgg,resV,↓reduceIte,Nat.reduceEqDiff,reduceCtorEq,Nat.reduceAdd,Nat.reduceMul,Nat.reduceLeDiff,za0,za2,Int.reduceEq,Int.reduceLT,Int.reduceLE,Nat.reduceLT,tiA,tiXA, zbJ, zbK, zaS, zaN, h6, h5]
        refine (zgP _ (l.take a) H2 (cp_pre rU3 (by omega)) (by omega)).sc.mono ?_
        rintro w H4 ⟨⟨up4, hf4⟩, sc4⟩
        have o4 := o3.call (Ow.of_fr up4 sc4 hf4)
        rw [hla] at o4
        have rU4 := (o4.getV 0 rfl).2
        refine ⟨.inr (.inr (up4.le o3.sc)), ?_⟩
        have ne4 : ¬ ui = H4.next := by omega
        try simp (disch := first | omega | (simp only [L3] <;> omega)) only [Sall,evalOp,init,binA_s,binE,binI,unE,convE,okNil,builtE,gv,TD.isAgg,resV,↓reduceIte,Nat.reduceEqDiff,reduceCtorEq,Nat.reduceAdd,Nat.reduceMul,Nat.reduceLeDiff,za0,za2,Int.reduceEq,Int.reduceLT,Int.reduceLE,Nat.reduceLT,tiA,tiXA, zbJ, zbK, zaS, zaN, h6, h5, zz, zaL]
        (repeat refine And.intro (by omega) ?_)
        refine ⟨.inr (.inr (o4.sc.le _)), ?_⟩
        try simp (disch := first | omega | (simp only [L3] <;> omega)) only [Sall,evalOp,init,binA_s,binE,binI,unE,convE,okNil,builtE,gv,TD.isAgg,resV,↓reduceIte,Nat.reduceEqDiff,reduceCtorEq,Nat.reduceAdd,Nat.reduceMul,Nat.reduceLeDiff,za0,za2,Int.reduceEq,Int.reduceLT,Int.reduceLE,Nat.reduceLT,tiA,tiXA, zbJ, zbK, zaS, zaN, h6, h5, zz, zaL]
        (repeat refine And.intro (by omega) ?_)
        refine (o4.tmp ⟨2, true, [.int .i64 i]⟩).app 1 (ms := ints [(i : Int)]) rfl rfl (by omega) rfl (by omega) (by decide) (by omega) ?_
        intro v6 H6 n6 o6
        rw [zaK] at o6
        refine ⟨.inr (.inl (by kernel_rfl)), ?_⟩
        try simp (disch := first | omega | (simp only [L3] <;> omega)) only [Sall,evalOp,init,binA_s,binE,binI,unE,convE,okNil,builtE,gv,TD.isAgg,resV,↓reduceIte,Nat.reduceEqDiff,reduceCtorEq,Nat.reduceAdd,Nat.reduceMul,Nat.reduceLeDiff,za0,za2,Int.reduceEq,Int.reduceLT,Int.reduceLE,Nat.reduceLT,tiA,tiXA, zbJ, zbK, zaS, zaN, h6, h5]
        have rU := (o6.getV 0 rfl).2.2
        try simp (disch := first | omega | (simp only [L3] <;> omega)) only [Sall,evalOp,init,binA_s,binE,binI,unE,convE,okNil,builtE,gv,TD.isAgg,resV,↓reduceIte,Nat.reduceEqDiff,reduceCtorEq,Nat.reduceAdd,Nat.reduceMul,Nat.reduceLeDiff,za0,za2,Int.reduceEq,Int.reduceLT,Int.reduceLE,Nat.reduceLT,tiA,tiXA, zbJ, zbK, zaS, zaN, h6, h5, zaL, rU, hsg, hl, za1]
        (repeat refine And.intro (by omega) ?_)
        by_cases hd : a < i
        · refine o6.app 1 (vs := ints (l.take a ++ [(i : Int)])) (n := a + 1) (c := i - a) (ms := ints (l.drop a)) rfl rfl (by omega) (by rw [za1, List.length_drop]; omega) (by omega) (by decide) (by omega) ?_
          intro v7 H7 n7 o7
          rw [show a + 1 + (i - a) = i + 1 by omega, zaK] at o7
          have o8 : Ow B2 H7 [.sl 1 2 (.slice (some ⟨ui, 0, some 1⟩) i i) i (ints l), .sl 1 2 v7 (i + 1) (ints (l.take a ++ [(i : Int)] ++ l.drop a))] := o7
          obtain ⟨u7, q1, q2, rfl, q4⟩ := o8.get 1 rfl (by omega)
          try simp (disch := first | omega | (simp only [L3] <;> omega)) only [Sall,evalOp,init,binA_s,binE,binI,unE,convE,okNil,builtE,gv,TD.isAgg,resV,↓reduceIte,Nat.reduceEqDiff,reduceCtorEq,Nat.reduceAdd,Nat.reduceMul,Nat.reduceLeDiff,za0,za2,Int.reduceEq,Int.reduceLT,Int.reduceLE,Nat.reduceLT,tiA,tiXA, zbJ, zbK, zaS, zaN, h6, h5, h0, h1, w64]
          exact ⟨.inr (.inl (by kernel_rfl)), n.toNat - (i + 1), by omega, i + 1, u7, _, B2, rfl, by omega, by omega, rfl, hB2, fin7 _ _ _ _ o8, hm6⟩
        · have hai2 : a = i := by omega
          subst hai2
          have o8 : Ow B2 H6 [.sl 1 2 (.slice (some ⟨ui, 0, some 1⟩) a a) a (ints l), .sl 1 2 v6 (a + 1) (ints (l.take a ++ [(a : Int)]))] := o6
          obtain ⟨u7, q1, q2, rfl, q4⟩ := o8.get 1 rfl (by omega)
          rw [Nat.sub_self]
          refine zhM ?_
          have hd0 : l.drop a = [] := List.drop_eq_nil_of_le (by omega)
          rw [hd0, List.append_nil] at hm6
          try simp (disch := first | omega | (simp only [L3] <;> omega)) only [Sall,evalOp,init,binA_s,binE,binI,unE,convE,okNil,builtE,gv,TD.isAgg,resV,↓reduceIte,Nat.reduceEqDiff,reduceCtorEq,Nat.reduceAdd,Nat.reduceMul,Nat.reduceLeDiff,za0,za2,Int.reduceEq,Int.reduceLT,Int.reduceLE,Nat.reduceLT,tiA,tiXA, zbJ, zbK, zaS, zaN, h6, h5, h0, h1, w64]
          exact ⟨.inr (.inl (by kernel_rfl)), n.toNat - (a + 1), by omega, a + 1, u7, _, B2, rfl, by omega, by omega, rfl, hB2, fin7 _ _ _ _ o8, hm6⟩
      · try simp (disch := first | omega | (simp only [L3] <;> omega)) only [Sall,evalOp,init,binA_s,binE,binI,unE,convE,okNil,builtE,gv,TD.isAgg,resV,↓reduceIte,Nat.reduceEqDiff,reduceCtorEq,Nat.reduceAdd,Nat.reduceMul,Nat.reduceLeDiff,za0,za2,Int.reduceEq,Int.reduceLT,Int.reduceLE,Nat.reduceLT,tiA,tiXA, zbJ, zbK, zaS, zaN, h6, h5, zz, zaL]
        (repeat refine And.intro (by omega) ?_)
        refine ⟨.inr (.inr (o3.sc.le _)), ?_⟩
        have o3t := o3.tmp ⟨2, true, [.int .i64 i]⟩
        have rT : (H2.push ⟨2, true, [.int .i64 i]⟩).row H2.next = some ⟨2, true, [.int .i64 i]⟩ := by rw [AH.push_row, if_pos rfl]
        have nT : (H2.push ⟨2, true, [.int .i64 i]⟩).next = H2.next + 1 := rfl
        revert o3t rT nT
        generalize H2.push ⟨2, true, [.int .i64 i]⟩ = H3
        intro o3t rT nT
        try simp (disch := first | omega | (simp only [L3] <;> omega)) only [Sall,evalOp,init,binA_s,binE,binI,unE,convE,okNil,builtE,gv,TD.isAgg,resV,↓reduceIte,Nat.reduceEqDiff,reduceCtorEq,Nat.reduceAdd,Nat.reduceMul,Nat.reduceLeDiff,za0,za2,Int.reduceEq,Int.reduceLT,Int.reduceLE,Nat.reduceLT,tiA,tiXA, zbJ, zbK, zaS, zaN, h6, h5]
        have rU3' := (o3t.getV 0 rfl).2.2
        refine (zgP _ (l.take a) H3 (cp_pre rU3' (by omega)) (by omega)).sc.mono ?_
        rintro w H4 ⟨⟨up4, hf4⟩, sc4⟩
        have o4 := o3t.call (Ow.of_fr up4 sc4 hf4)
        rw [hla] at o4
        have rT4 : H4.row H2.next = some ⟨2, true, [.int .i64 i]⟩ := by rw [up4.row _ (by omega)]; exact rT
        refine ⟨.inr (.inr (up4.le o3t.sc)), ?_⟩
        try simp (disch := first | omega | (simp only [L3] <;> omega)) only [Sall,evalOp,init,binA_s,binE,binI,unE,convE,okNil,builtE,gv,TD.isAgg,resV,↓reduceIte,Nat.reduceEqDiff,reduceCtorEq,Nat.reduceAdd,Nat.reduceMul,Nat.reduceLeDiff,za0,za2,Int.reduceEq,Int.reduceLT,Int.reduceLE,Nat.reduceLT,tiA,tiXA, zbJ, zbK, zaS, zaN, h6, h5, zz, zaL, rT4]
        (repeat refine And.intro (by omega) ?_)
        refine o4.app 1 (ms := ints [(i : Int)]) rfl rfl (by omega) rfl (by omega) (by decide) (by omega) ?_
        intro v6 H6 n6 o6
        rw [zaK] at o6
        refine ⟨.inr (.inl (by kernel_rfl)), ?_⟩
        try simp (disch := first | omega | (simp only [L3] <;> omega)) only [Sall,evalOp,init,binA_s,binE,binI,unE,convE,okNil,builtE,gv,TD.isAgg,resV,↓reduceIte,Nat.reduceEqDiff,reduceCtorEq,Nat.reduceAdd,Nat.reduceMul,Nat.reduceLeDiff,za0,za2,Int.reduceEq,Int.reduceLT,Int.reduceLE,Nat.reduceLT,tiA,tiXA, zbJ, zbK, zaS, zaN, h6, h5]
        have rU := (o6.getV 0 rfl).2.2
        try simp (disch := first | omega | (simp only [L3] <;> omega)) only [Sall,evalOp,init,binA_s,binE,binI,unE,convE,okNil,builtE,gv,TD.isAgg,resV,↓reduceIte,Nat.reduceEqDiff,reduceCtorEq,Nat.reduceAdd,Nat.reduceMul,Nat.reduceLeDiff,za0,za2,Int.reduceEq,Int.reduceLT,Int.reduceLE,Nat.reduceLT,tiA,tiXA, zbJ, zbK, zaS, zaN, h6, h5, zaL, rU, hsg, hl, za1]
        (repeat refine And.intro (by omega) ?_)
        by_cases hd : a < i
        · refine o6.app 1 (vs := ints (l.take a ++ [(i : Int)])) (n := a + 1) (c := i - a) (ms := ints (l.drop a)) rfl rfl (by omega) (by rw [za1, List.length_drop]; omega) (by omega) (by decide) (by omega) ?_
          intro v7 H7 n7 o7
          rw [show a + 1 + (i - a) = i + 1 by omega, zaK] at o7
          have o8 : Ow B2 H7 [.sl 1 2 (.slice (some ⟨ui, 0, some 1⟩) i i) i (ints l), .sl 1 2 v7 (i + 1) (ints (l.take a ++ [(i : Int)] ++ l.drop a))] := o7
          obtain ⟨u7, q1, q2, rfl, q4⟩ := o8.get 1 rfl (by omega)
          try simp (disch := first | omega | (simp only [L3] <;> omega)) only [Sall,evalOp,init,binA_s,binE,binI,unE,convE,okNil,builtE,gv,TD.isAgg,resV,↓reduceIte,Nat.reduceEqDiff,reduceCtorEq,Nat.reduceAdd,Nat.reduceMul,Nat.reduceLeDiff,za0,za2,Int.reduceEq,Int.reduceLT,Int.reduceLE,Nat.reduceLT,tiA,tiXA, zbJ, zbK, zaS, zaN, h6, h5, h0, h1, w64]
          exact ⟨.inr (.inl (by kernel_rfl)), n.toNat - (i + 1), by omega, i + 1, u7, _, B2, rfl, by omega, by omega, rfl, hB2, fin7 _ _ _ _ o8, hm6⟩
        · have hai2 : a = i := by omega
          subst hai2
          have o8 : Ow B2 H6 [.sl 1 2 (.slice (some ⟨ui, 0, some 1⟩) a a) a (ints l), .sl 1 2 v6 (a + 1) (ints (l.take a ++ [(a : Int)]))] := o6
          obtain ⟨u7, q1, q2, rfl, q4⟩ := o8.get 1 rfl (by omega)
          rw [Nat.sub_self]
          refine zhM ?_
          have hd0 : l.drop a = [] := List.drop_eq_nil_of_le (by omega)
          rw [hd0, List.append_nil] at hm6
          try simp (disch := first | omega | (simp only [L3] <;> omega)) only [Sall,evalOp,init,binA_s,binE,binI,unE,convE,okNil,builtE,gv,TD.isAgg,resV,↓reduceIte,Nat.reduceEqDiff,reduceCtorEq,Nat.reduceAdd,Nat.reduceMul,Nat.reduceLeDiff,za0,za2,Int.reduceEq,Int.reduceLT,Int.reduceLE,Nat.reduceLT,tiA,tiXA, zbJ, zbK, zaS, zaN, h6, h5, h0, h1, w64]
          exact ⟨.inr (.inl (by kernel_rfl)), n.toNat - (a + 1), by omega, a + 1, u7, _, B2, rfl, by omega, by omega, rfl, hB2, fin7 _ _ _ _ o8, hm6⟩
    · have hie : i = n.toNat := by omega
      subst hie
      try simp (disch := first | omega | (simp only [L3] <;> omega)) only [Sall,evalOp,init,binA_s,binE,binI,unE,convE,okNil,builtE,gv,TD.isAgg,resV,↓reduceIte,Nat.reduceEqDiff,reduceCtorEq,Nat.reduceAdd,Nat.reduceMul,Nat.reduceLeDiff,za0,za2,Int.reduceEq,Int.reduceLT,Int.reduceLE,Nat.reduceLT,tiA,tiXA, h5]
      exact ⟨l, B, hB, o2, hp⟩
end Go.Proofs.YtemgclojolmhbaaGreat.A
end

section
set_option maxRecDepth 100000
set_option maxHeartbeats 2000000
namespace Go.Proofs.YtemgclojolmhbaaGreat.A
open Go Go.Abs Go.RowKit
theorem zeros_int0 (n : Nat) : zeros n [.int .i64 0] = ints (List.replicate n 0) := by
  have h := zeros_ints n 1
  rw [Nat.mul_one] at h; exact h
theorem replicate_snoc {α : Type} (n : Nat) (a : α) : List.replicate (n + 1) a = List.replicate n a ++ [a] := by
  rw [List.replicate_succ']
theorem square_c (n : Nat) (hn : n ≤ 1024) (H : AH) : ACalls Tryz.prog 62 [.int .i64 n] H (fun v H' => Up H.next H H' ∧ Fr2 1 33 2 H.next H'.next H' v (zeroM n)) := by
  refine za3 [.tmp 2] Tryz.func62 (by kernel_rfl) rfl rfl (Nat.le_of_ble_eq_true rfl) (by kernel_rfl) ?_
  try simp (disch := first | omega | (simp only [L3] <;> omega)) only [Sall,evalOp,init,binA_s,binE,binI,unE,convE,okNil,builtE,gv,TD.isAgg,resV,↓reduceIte,Nat.reduceEqDiff,reduceCtorEq,Nat.reduceAdd,Nat.reduceMul,Nat.reduceLeDiff,za0,za2,Int.reduceEq,Int.reduceLT,Int.reduceLE,Nat.reduceLT,tiA, zaV]
  refine za5 (fun m t H' => ∃ (a : Nat) (u : Value) (lo hi : Nat), m = n - a ∧ a ≤ n ∧ t 6 = .int .i64 a ∧ t 5 = .int .i64 n ∧ t 0 = .int .i64 n ∧ t 3 = u ∧ Up H.next H H' ∧ H.next ≤ lo ∧ lo ≤ hi ∧ hi ≤ H'.next ∧ Fr2 1 33 2 lo hi H' u (List.replicate a (List.replicate n 0))) n ?_ ?_
  · refine ⟨0, .slice (some ⟨H.next, 0, some 1⟩) 0 0, H.next, H.next + 1, by omega, by omega, ?_⟩
    try simp (disch := first | omega | (simp only [L3] <;> omega)) only [Sall,evalOp,init,binA_s,binE,binI,unE,convE,okNil,builtE,gv,TD.isAgg,resV,↓reduceIte,Nat.reduceEqDiff,reduceCtorEq,Nat.reduceAdd,Nat.reduceMul,Nat.reduceLeDiff,za0,za2,Int.reduceEq,Int.reduceLT,Int.reduceLE,Nat.reduceLT,tiA, Int.natCast_zero]
    refine ⟨(Up.refl _ H).push (by omega) _, ?_⟩
    (repeat refine And.intro (by omega) ?_)
    exact .inr ⟨H.next, [], fun _ => H.next + 1, by omega, by omega, rfl, by rw [AH.push_row, if_pos rfl], rfl, by dsimp only; omega, by dsimp only; omega, .inl (by dsimp only; omega), fun _ => Nat.le_refl _, fun j hj => by simp at hj⟩
  · rintro m t H' ⟨a, u, lo, hi, hm, h14, h6, h5, h0, h3, hup, hlo, hlh, hhi, hfr⟩
    try simp (disch := first | omega | (simp only [L3] <;> omega)) only [Sall,evalOp,init,binA_s,binE,binI,unE,convE,okNil,builtE,gv,TD.isAgg,resV,↓reduceIte,Nat.reduceEqDiff,reduceCtorEq,Nat.reduceAdd,Nat.reduceMul,Nat.reduceLeDiff,za0,za2,Int.reduceEq,Int.reduceLT,Int.reduceLE,Nat.reduceLT,tiA, h6, h5]
    refine za4 (fun h => ?_) (fun h => ?_)
    · have zz : zeros 1 [.slice none 0 0] = [.slice none 0 0] := rfl
      have ne1 : ¬ H'.next = H'.next + 1 := by omega
      try simp (disch := first | omega | (simp only [L3] <;> omega)) only [Sall,evalOp,init,binA_s,binE,binI,unE,convE,okNil,builtE,gv,TD.isAgg,resV,↓reduceIte,Nat.reduceEqDiff,reduceCtorEq,Nat.reduceAdd,Nat.reduceMul,Nat.reduceLeDiff,za0,za2,Int.reduceEq,Int.reduceLT,Int.reduceLE,Nat.reduceLT,tiA, h6, h5, h3, h0, zeros_int0, zz, zaL]
      (repeat refine And.intro (by omega) ?_)
      obtain ⟨H2, e2⟩ : ∃ H2, H2 = (H'.push ⟨2, true, ints (List.replicate n 0)⟩).push ⟨33, true, [.slice (some ⟨H'.next, 0, some 1⟩) n n]⟩ := ⟨_, rfl⟩
      have n2 : H2.next = H'.next + 2 := by rw [e2]; rfl
      have s2 : ∀ i, i < H'.next → H2.row i = H'.row i := fun i hi => by rw [e2, AH.push_row, if_neg (by rw [AH.push_next]; omega), AH.push_row, if_neg (by omega)]
      have x2 : H2.row H'.next = some ⟨2, true, ints (List.replicate n 0)⟩ := by rw [e2, AH.push_row, if_neg (by rw [AH.push_next]; omega), AH.push_row, if_pos rfl]
      rw [← e2]
      clear e2
      refine zgW (hfr.same fun i _ hi => s2 i (by omega)) (m := n) (l := List.replicate n 0) ⟨by simp, .inr ⟨H'.next, by omega, by omega, rfl, x2⟩⟩ rfl (by decide) (by rw [List.length_replicate]; omega) hlh (by omega) ?_
      intro v' H3 n3 s3 f3
      try simp (disch := first | omega | (simp only [L3] <;> omega)) only [Sall,evalOp,init,binA_s,binE,binI,unE,convE,okNil,builtE,gv,TD.isAgg,resV,↓reduceIte,Nat.reduceEqDiff,reduceCtorEq,Nat.reduceAdd,Nat.reduceMul,Nat.reduceLeDiff,za0,za2,Int.reduceEq,Int.reduceLT,Int.reduceLE,Nat.reduceLT,tiA, h6, h5, h0, w64]
      refine ⟨n - (a + 1), by omega, a + 1, v', lo, H2.next + 1, rfl, by omega, rfl, rfl, ⟨by have := hup.next; omega, fun i hi => ?_⟩, by omega, by omega, by omega, ?_⟩
      · rw [s3 i (by have := hup.next; omega) (by have := hup.next; omega), s2 i (by have := hup.next; omega), hup.row i hi]
      · rw [replicate_snoc]; exact f3
    · have ha : a = n := by omega
      subst ha
      try simp (disch := first | omega | (simp only [L3] <;> omega)) only [Sall,evalOp,init,binA_s,binE,binI,unE,convE,okNil,builtE,gv,TD.isAgg,resV,↓reduceIte,Nat.reduceEqDiff,reduceCtorEq,Nat.reduceAdd,Nat.reduceMul,Nat.reduceLeDiff,za0,za2,Int.reduceEq,Int.reduceLT,Int.reduceLE,Nat.reduceLT,tiA, h3]
      exact ⟨hup, hfr.wide hlo hhi⟩
theorem meetings_c (n : Nat) (v : Value) (k : Nat) (l : List Int) (H : AH) (hb : schedB n k l = true) (hv : Rd 14 H v k l) (hk : k ≤ 4294967296) :
    ACalls Tryz.prog 91 [.agg #[.int .i64 n, v]] H (fun u H' => Up H.next H H' ∧ Fr2 1 33 2 H.next H'.next H' u (meetM n l k)) := by
  refine ACalls.wf (by kernel_rfl) fun hs => za3 [.tmp 2] Tryz.func91 (by kernel_rfl) rfl rfl (Nat.le_of_ble_eq_true rfl) (by kernel_rfl) ?_
  obtain ⟨hn, hk40, hrounds⟩ := zaT hb
  have hone := hv.one
  have up : Up H.next H (H.push ⟨26, true, [.int .i64 n, v]⟩) := (Up.refl _ H).push (Nat.le_refl _) _
  have e1 : (H.push ⟨26, true, [.int .i64 n, v]⟩).row H.next = some ⟨26, true, [.int .i64 n, v]⟩ := by rw [AH.push_row, if_pos rfl]
  have n1 : (H.push ⟨26, true, [.int .i64 n, v]⟩).next = H.next + 1 := rfl
  try simp (disch := first | omega | (simp only [L3] <;> omega)) only [Sall,evalOp,init,binA_s,binE,binI,unE,convE,okNil,builtE,gv,TD.isAgg,resV,↓reduceIte,Nat.reduceEqDiff,reduceCtorEq,Nat.reduceAdd,Nat.reduceMul,Nat.reduceLeDiff,za0,za2,Int.reduceEq,Int.reduceLT,Int.reduceLE,Nat.reduceLT,tiA, hone]
  revert up e1 n1
  generalize H.push ⟨26, true, [.int .i64 n, v]⟩ = H1
  intro up e1 n1
  refine (square_c n (by omega) H1).mono ?_
  rintro u H2 ⟨up2, hf⟩
  have n2 := up2.next
  have u2 : Up H.next H H2 := up.trans up2 (by omega)
  have r2 : H2.row H.next = some ⟨26, true, [.int .i64 n, v]⟩ := by rw [up2.row _ (by omega), e1]
  refine Holds.mp ?_
  try simp (disch := first | omega | (simp only [L3] <;> omega)) only [Sall,evalOp,init,binA_s,binE,binI,unE,convE,okNil,builtE,gv,TD.isAgg,resV,↓reduceIte,Nat.reduceEqDiff,reduceCtorEq,Nat.reduceAdd,Nat.reduceMul,Nat.reduceLeDiff,za0,za2,Int.reduceEq,Int.reduceLT,Int.reduceLE,Nat.reduceLT,tiA, r2, builtE, hv.len]
  refine za5 (fun m t H' => ∃ (a : Nat), m = k - a ∧ a ≤ k ∧ t 13 = .int .i64 a ∧ t 12 = .int .i64 k ∧ t 11 = v ∧ t 3 = u ∧ t 1 = .pointer (some ⟨H.next, 0, none⟩) ∧ Up H.next H H' ∧ H2.next ≤ H'.next ∧ H'.row H.next = some ⟨26, true, [.int .i64 n, v]⟩ ∧ Fr2 1 33 2 H1.next H2.next H' u (meetM n l a)) k ?_ ?_
  · refine ⟨0, by omega, by omega, ?_⟩
    try simp (disch := first | omega | (simp only [L3] <;> omega)) only [Sall,evalOp,init,binA_s,binE,binI,unE,convE,okNil,builtE,gv,TD.isAgg,resV,↓reduceIte,Nat.reduceEqDiff,reduceCtorEq,Nat.reduceAdd,Nat.reduceMul,Nat.reduceLeDiff,za0,za2,Int.reduceEq,Int.reduceLT,Int.reduceLE,Nat.reduceLT,tiA, Int.natCast_zero, meetM_zero]
    exact ⟨u2, r2, hf⟩
  · rintro m t H' ⟨a, hm, h14, h13, h12, h11, h3, h1, hup, hnx, hr1, hf'⟩
    try simp (disch := first | omega | (simp only [L3] <;> omega)) only [Sall,evalOp,init,binA_s,binE,binI,unE,convE,okNil,builtE,gv,TD.isAgg,resV,↓reduceIte,Nat.reduceEqDiff,reduceCtorEq,Nat.reduceAdd,Nat.reduceMul,Nat.reduceLeDiff,za0,za2,Int.reduceEq,Int.reduceLT,Int.reduceLE,Nat.reduceLT,tiA, h13, h12]
    refine za4 (fun h => ?_) (fun h => ?_)
    · obtain ⟨i', o', u', c', r', rfl, hrB', hc', hs', hg'⟩ := hv.get (by omega)
      have hr' : H'.row i' = some r' := by rw [hup.row _ (hs _ _ hrB'), hrB']
      have hrl : (rnd l a).length = 14 := zbF l a k hv.1 (by omega)
      have hiB := hs _ _ hrB'
      have hup1 := hup.next
      have ne1 : ¬ i' = H'.next := by omega
      have ne2 : ¬ H.next = H'.next := by omega
      have hrl2 : ((l.drop (a * 14)).take 14).length = 14 := hrl
      have hsp := zdV (List.replicate 14 0) (rnd l a) (by simp) hrl
      try simp (disch := first | omega | (simp only [L3] <;> omega)) only [Sall,evalOp,init,binA_s,binE,binI,unE,convE,okNil,builtE,gv,TD.isAgg,resV,↓reduceIte,Nat.reduceEqDiff,reduceCtorEq,Nat.reduceAdd,Nat.reduceMul,Nat.reduceLeDiff,za0,za2,Int.reduceEq,Int.reduceLT,Int.reduceLE,Nat.reduceLT,tiA, h13, h11, hr', hg', push_setCells, hrl2, za1, ne1, ne2, hr1, h1]
      (repeat refine And.intro (by omega) ?_)
      obtain ⟨H3, e3⟩ : ∃ H3, H3 = H'.push ⟨67, true, ints ((l.drop (a * 14)).take 14)⟩ := ⟨_, rfl⟩
      have s3 : ∀ i, i < H'.next → H3.row i = H'.row i := fun i hi => by rw [e3, AH.push_row, if_neg (by omega)]
      have r3 : H3.row H'.next = some ⟨67, true, ints (rnd l a)⟩ := by rw [e3, AH.push_row, if_pos rfl]; rfl
      have n3 : H3.next = H'.next + 1 := by rw [e3]; rfl
      rw [← e3]
      clear e3
      have hround := hrounds a (by omega)
      refine za5 (fun z t H4 => ∃ c : Nat, z = n - c ∧ c ≤ n ∧ t 19 = .int .i64 c ∧ t 18 = .int .i64 n ∧ t 5 = .pointer (some ⟨H'.next, 0, none⟩) ∧ t 13 = .int .i64 a ∧ t 12 = .int .i64 k ∧ t 11 = .slice (some ⟨i', o', u'⟩) k c' ∧ t 3 = u ∧ t 1 = .pointer (some ⟨H.next, 0, none⟩) ∧ Up H.next H H4 ∧ H3.next ≤ H4.next ∧ H4.row H.next = some ⟨26, true, [.int .i64 n, .slice (some ⟨i', o', u'⟩) k c']⟩ ∧ H4.row H'.next = some ⟨67, true, ints (rnd l a)⟩ ∧ Fr2 1 33 2 H1.next H2.next H4 u (midM n l a c)) n ?_ ?_
      · refine ⟨0, by omega, by omega, ?_⟩
        try simp (disch := first | omega | (simp only [L3] <;> omega)) only [Sall,evalOp,init,binA_s,binE,binI,unE,convE,okNil,builtE,gv,TD.isAgg,resV,↓reduceIte,Nat.reduceEqDiff,reduceCtorEq,Nat.reduceAdd,Nat.reduceMul,Nat.reduceLeDiff,za0,za2,Int.reduceEq,Int.reduceLT,Int.reduceLE,Nat.reduceLT,tiA, Int.natCast_zero, h13, h12, h11, h3, h1]
        refine ⟨⟨by omega, fun i hi => by rw [s3 i (by omega), hup.row i hi]⟩, by rw [s3 _ (by omega), hr1], r3, ?_⟩
        rw [zhH]
        exact hf'.same fun i _ hi => s3 i (by omega)
      · rintro z t H4 ⟨c, hz, hcn, h19, h18, h5, h13, h12, h11, h3, h1, hup4, hn4, hr4, hr5, hf4⟩
        try simp (disch := first | omega | (simp only [L3] <;> omega)) only [Sall,evalOp,init,binA_s,binE,binI,unE,convE,okNil,builtE,gv,TD.isAgg,resV,↓reduceIte,Nat.reduceEqDiff,reduceCtorEq,Nat.reduceAdd,Nat.reduceMul,Nat.reduceLeDiff,za0,za2,Int.reduceEq,Int.reduceLT,Int.reduceLE,Nat.reduceLT,tiA, h19, h18]
        refine za4 (fun hh => ?_) (fun hh => ?_)
        · obtain ⟨_, ha4, ha5, _⟩ := zbR hround (a := c) (by omega)
          have hsq := zi1 n l a c
          by_cases hne : (rnd l a).getD c 0 = (c : Int)
          · have e0 : ((rnd l a).getD c 0 != (c : Int)) = false := by rw [hne]; exact bne_self_eq_false _
            try simp (disch := first | omega | (simp only [L3] <;> omega)) only [Sall,evalOp,init,binA_s,binE,binI,unE,convE,okNil,builtE,gv,TD.isAgg,resV,↓reduceIte,Nat.reduceEqDiff,reduceCtorEq,Nat.reduceAdd,Nat.reduceMul,Nat.reduceLeDiff,za0,za2,Int.reduceEq,Int.reduceLT,Int.reduceLE,Nat.reduceLT,tiA, h19, h5, hr5, ints_get?, e0, h18, h13, h12, h11, h3, h1, w64]
            (repeat refine And.intro (by omega) ?_)
            refine ⟨n - (c + 1), by omega, c + 1, rfl, by omega, rfl, hup4, hn4, hr4, ?_⟩
            rw [midM_same (by omega) hne]; exact hf4
          · have e0 : ((rnd l a).getD c 0 != (c : Int)) = true := by simpa using hne
            have hrow := hsq.2 c (by omega)
            obtain ⟨mi, mvs, i6, rfl, q1, q2, q3, q4, q5, q6, q7, q8, q9⟩ := hf4.setF (j := c) (by rw [hsq.1]; omega) (by omega)
            have ne6 : ¬ H'.next = i6 := by omega
            have ne7 : ¬ H.next = i6 := by omega
            have hMl := hsq.1
            rw [hrow] at q4
            try simp (disch := first | omega | (simp only [L3] <;> omega)) only [Sall,evalOp,init,binA_s,binE,binI,unE,convE,okNil,builtE,gv,TD.isAgg,resV,↓reduceIte,Nat.reduceEqDiff,reduceCtorEq,Nat.reduceAdd,Nat.reduceMul,Nat.reduceLeDiff,za0,za2,Int.reduceEq,Int.reduceLT,Int.reduceLE,Nat.reduceLT,tiA, h19, h5, hr5, ints_get?, e0, h18, h13, h12, h11, h3, h1, w64]
            (repeat refine And.intro (by omega) ?_)
            refine zb2 (by kernel_rfl) (by kernel_rfl) ?_
            try simp (disch := first | omega | (simp only [L3] <;> omega)) only [Sall,evalOp,init,binA_s,binE,binI,unE,convE,okNil,builtE,gv,TD.isAgg,resV,↓reduceIte,Nat.reduceEqDiff,reduceCtorEq,Nat.reduceAdd,Nat.reduceMul,Nat.reduceLeDiff,za0,za2,Int.reduceEq,Int.reduceLT,Int.reduceLE,Nat.reduceLT,tiA, h19, h5, hr5, ints_get?, h3, q3, q4, q8, zaR]
            rw [hMl]
            (repeat refine And.intro (by omega) ?_)
            refine ⟨.inr (.inl (by kernel_rfl)), ?_⟩
            try simp (disch := first | omega | (simp only [L3] <;> omega)) only [Sall,evalOp,init,binA_s,binE,binI,unE,convE,okNil,builtE,gv,TD.isAgg,resV,↓reduceIte,Nat.reduceEqDiff,reduceCtorEq,Nat.reduceAdd,Nat.reduceMul,Nat.reduceLeDiff,za0,za2,Int.reduceEq,Int.reduceLT,Int.reduceLE,Nat.reduceLT,tiA, h19, h18, h5, h13, h12, h11, h3, h1, w64, ne6, ne7, hr4]
            refine ⟨n - (c + 1), by omega, c + 1, rfl, by omega, rfl, hup4.set (by omega) _, hn4, ?_⟩
            have q10 := q9 (incR ((midM n l a c).getD c []) ((rnd l a).getD c 0)) (zf7 _ _)
            rw [hMl] at q10
            rw [midM_inc (by omega) hne]
            unfold incM
            rw [Int.toNat_natCast]
            exact q10
        · try simp (disch := first | omega | (simp only [L3] <;> omega)) only [Sall,evalOp,init,binA_s,binE,binI,unE,convE,okNil,builtE,gv,TD.isAgg,resV,↓reduceIte,Nat.reduceEqDiff,reduceCtorEq,Nat.reduceAdd,Nat.reduceMul,Nat.reduceLeDiff,za0,za2,Int.reduceEq,Int.reduceLT,Int.reduceLE,Nat.reduceLT,tiA, h13, h12, h11, h3, h1, w64]
          have hc : c = n := by omega
          subst hc
          refine ⟨k - (a + 1), by omega, a + 1, rfl, by omega, rfl, hup4, by omega, hr4, ?_⟩
          rw [← midM_all]; exact hf4
    · have ha : a = k := by omega
      subst ha
      try simp (disch := first | omega | (simp only [L3] <;> omega)) only [Sall,evalOp,init,binA_s,binE,binI,unE,convE,okNil,builtE,gv,TD.isAgg,resV,↓reduceIte,Nat.reduceEqDiff,reduceCtorEq,Nat.reduceAdd,Nat.reduceMul,Nat.reduceLeDiff,za0,za2,Int.reduceEq,Int.reduceLT,Int.reduceLE,Nat.reduceLT,tiA, h3]
      exact ⟨hup, hf'.wide (by omega) hnx⟩
end Go.Proofs.YtemgclojolmhbaaGreat.A
end

section
set_option maxRecDepth 100000
set_option maxHeartbeats 2000000
namespace Go.Proofs.YtemgclojolmhbaaGreat.A
open Go Go.Abs Go.RowKit
end Go.Proofs.YtemgclojolmhbaaGreat.A
end

section
set_option maxRecDepth 100000
set_option maxHeartbeats 2000000
namespace Go.Proofs.YtemgclojolmhbaaGreat.A
open Go Go.Abs Go.RowKit
theorem Ow.rebase {cv : Value} {nb si : Nat} {H H1 B H' : AH} {L : List Th} (o : Ow B H' L) (up : Up H.next H H1) (k : SrcB cv nb si H1 B) (hsi : H.next ≤ si) : Ow H H' L := by
  obtain ⟨w, hw⟩ := o.own
  have h1 := up.next
  have h2 := k.next
  have h3 := o.next
  refine ⟨o.sc, by omega, fun i hi => by rw [o.low i (by omega), k.row i (by omega), up.row i hi], w, fun j q hj => q.loc H' H' _ _ (fun i hi => ⟨by omega, hi.2⟩) (fun _ _ _ h => h) (hw j q hj)⟩
theorem CodeX.of {cv : Value} {nb : Nat} {H H1 : AH} (h : CodeOk H cv nb) (hs : Sc H) (up : Up H.next H H1) : CodeX cv nb H.next H1 := fun H' hk => by
  rcases h with ⟨q1, q2⟩ | ⟨i, o, u, c, r, q1, q2, q3⟩
  · exact .inl ⟨q1, q2⟩
  · have := hs _ _ q2
    exact .inr ⟨i, o, u, c, r, q1, hk _ _ (by omega) (by rw [up.row i this]; exact q2), q3⟩
theorem CodeOk.up {cv : Value} {nb : Nat} {H H1 : AH} (h : CodeOk H cv nb) (hs : ∀ i r, H.row i = some r → H1.row i = some r) : CodeOk H1 cv nb := by
  rcases h with ⟨q1, q2⟩ | ⟨i, o, u, c, r, q1, q2, q3⟩
  · exact .inl ⟨q1, q2⟩
  · exact .inr ⟨i, o, u, c, r, q1, hs _ _ q2, q3⟩
end Go.Proofs.YtemgclojolmhbaaGreat.A
end

section
set_option maxRecDepth 100000
set_option maxHeartbeats 2000000
namespace Go.Proofs.YtemgclojolmhbaaGreat.A
open Go Go.Abs Go.RowKit
theorem big_c (cv : Value) (nb : Nat) (H : AH) (hc : CodeOk H cv nb) : ACalls Tryz.prog 4 [cv] H (is (.bool (decide (4096 < (nb : Int)))) H) := by
  refine za3 [.tmp 2] Tryz.func4 (by kernel_rfl) rfl rfl (Nat.le_of_ble_eq_true rfl) (by kernel_rfl) ?_
  have hln := hc.len
  try simp (disch := first | omega | (simp only [L3] <;> omega)) only [Sall,evalOp,init,binA_s,binE,binI,unE,convE,okNil,builtE,gv,TD.isAgg,resV,↓reduceIte,Nat.reduceEqDiff,reduceCtorEq,Nat.reduceAdd,Nat.reduceMul,Nat.reduceLeDiff,za0,za2,Int.reduceEq,Int.reduceLT,Int.reduceLE,Nat.reduceLT,tiA,tiXA, hln, builtE]
  exact ⟨rfl, rfl⟩
theorem zdF (a b : Value) (n : Nat) (l : List Int) (H : AH) (hn : n ≤ 4294967296) (ha : Rd 1 H a n l) (hb : Rd 1 H b n l) : ACalls Tryz.prog 23 [a, b] H (is (.bool true) H) := by
  refine za3 [.tmp 4] Tryz.func23 (by kernel_rfl) rfl rfl (Nat.le_of_ble_eq_true rfl) (by kernel_rfl) ?_
  have la := ha.len
  have lb := hb.len
  try simp (disch := first | omega | (simp only [L3] <;> omega)) only [Sall,evalOp,init,binA_s,binE,binI,unE,convE,okNil,builtE,gv,TD.isAgg,resV,↓reduceIte,Nat.reduceEqDiff,reduceCtorEq,Nat.reduceAdd,Nat.reduceMul,Nat.reduceLeDiff,za0,za2,Int.reduceEq,Int.reduceLT,Int.reduceLE,Nat.reduceLT,tiA,tiXA, la, lb, builtE, bne_self_eq_false]
  refine za5 (fun z t H' => H' = H ∧ ∃ j : Nat, z = n - j ∧ j ≤ n ∧ t 5 = .int .i64 j ∧ t 0 = a ∧ t 1 = b) n ?_ ?_
  · refine ⟨rfl, 0, by omega, by omega, ?_⟩
    try simp (disch := first | omega | (simp only [L3] <;> omega)) only [Sall,evalOp,init,binA_s,binE,binI,unE,convE,okNil,builtE,gv,TD.isAgg,resV,↓reduceIte,Nat.reduceEqDiff,reduceCtorEq,Nat.reduceAdd,Nat.reduceMul,Nat.reduceLeDiff,za0,za2,Int.reduceEq,Int.reduceLT,Int.reduceLE,Nat.reduceLT,tiA,tiXA, Int.natCast_zero]
  · rintro z t H' ⟨rfl, j, hz, hj, h5, h0, h1⟩
    try simp (disch := first | omega | (simp only [L3] <;> omega)) only [Sall,evalOp,init,binA_s,binE,binI,unE,convE,okNil,builtE,gv,TD.isAgg,resV,↓reduceIte,Nat.reduceEqDiff,reduceCtorEq,Nat.reduceAdd,Nat.reduceMul,Nat.reduceLeDiff,za0,za2,Int.reduceEq,Int.reduceLT,Int.reduceLE,Nat.reduceLT,tiA,tiXA, h5, h0, la, builtE]
    refine za4 (fun hh => ?_) (fun hh => ?_)
    · obtain ⟨ai, ao, au, ac, ar, rfl, a1, a2, a3, a4⟩ := ha.get (by omega)
      obtain ⟨bi, bo, bu, bc, br, rfl, b1, b2, b3, b4⟩ := hb.get (by omega)
      have a5 := a3 j (by omega)
      have b5 := b3 j (by omega)
      try simp (disch := first | omega | (simp only [L3] <;> omega)) only [Sall,evalOp,init,binA_s,binE,binI,unE,convE,okNil,builtE,gv,TD.isAgg,resV,↓reduceIte,Nat.reduceEqDiff,reduceCtorEq,Nat.reduceAdd,Nat.reduceMul,Nat.reduceLeDiff,za0,za2,Int.reduceEq,Int.reduceLT,Int.reduceLE,Nat.reduceLT,tiA,tiXA, h5, h0, h1]
      refine zb2 (by kernel_rfl) (by kernel_rfl) ?_
      try simp (disch := first | omega | (simp only [L3] <;> omega)) only [Sall,evalOp,init,binA_s,binE,binI,unE,convE,okNil,builtE,gv,TD.isAgg,resV,↓reduceIte,Nat.reduceEqDiff,reduceCtorEq,Nat.reduceAdd,Nat.reduceMul,Nat.reduceLeDiff,za0,za2,Int.reduceEq,Int.reduceLT,Int.reduceLE,Nat.reduceLT,tiA,tiXA, h5, h0, h1, a1, a5, b1, b5, bne_self_eq_false, w64]
      (repeat refine And.intro (by omega) ?_)
      try simp (disch := first | omega | (simp only [L3] <;> omega)) only [Sall,evalOp,init,binA_s,binE,binI,unE,convE,okNil,builtE,gv,TD.isAgg,resV,↓reduceIte,Nat.reduceEqDiff,reduceCtorEq,Nat.reduceAdd,Nat.reduceMul,Nat.reduceLeDiff,za0,za2,Int.reduceEq,Int.reduceLT,Int.reduceLE,Nat.reduceLT,tiA,tiXA, h5, h0, h1, a1, a5, b1, b5, bne_self_eq_false, w64]
      exact ⟨n - (j + 1), by omega, j + 1, rfl, by omega, rfl⟩
    · try simp (disch := first | omega | (simp only [L3] <;> omega)) only [Sall,evalOp,init,binA_s,binE,binI,unE,convE,okNil,builtE,gv,TD.isAgg,resV,↓reduceIte,Nat.reduceEqDiff,reduceCtorEq,Nat.reduceAdd,Nat.reduceMul,Nat.reduceLeDiff,za0,za2,Int.reduceEq,Int.reduceLT,Int.reduceLE,Nat.reduceLT,tiA,tiXA, true_and]
      exact ⟨rfl, rfl⟩
theorem rows5_c (a b : Value) (ll : List (List Int)) (H : AH) (hn : ll.length ≤ 4294967296) (hr : ∀ j, j < ll.length → (ll.getD j []).length ≤ 4294967296) (ha : Rd2 1 H a ll) (hb : Rd2 1 H b ll) : ACalls Tryz.prog 14 [a, b] H (is (.bool true) H) := by
  refine za3 [.tmp 4] Tryz.func14 (by kernel_rfl) rfl rfl (Nat.le_of_ble_eq_true rfl) (by kernel_rfl) ?_
  have la := ha.len
  have lb := hb.len
  try simp (disch := first | omega | (simp only [L3] <;> omega)) only [Sall,evalOp,init,binA_s,binE,binI,unE,convE,okNil,builtE,gv,TD.isAgg,resV,↓reduceIte,Nat.reduceEqDiff,reduceCtorEq,Nat.reduceAdd,Nat.reduceMul,Nat.reduceLeDiff,za0,za2,Int.reduceEq,Int.reduceLT,Int.reduceLE,Nat.reduceLT,tiA,tiXA, la, lb, builtE, bne_self_eq_false]
  refine za5 (fun z t H' => H' = H ∧ ∃ j : Nat, z = ll.length - j ∧ j ≤ ll.length ∧ t 5 = .int .i64 j ∧ t 0 = a ∧ t 1 = b) ll.length ?_ ?_
  · refine ⟨rfl, 0, by omega, by omega, ?_⟩
    try simp (disch := first | omega | (simp only [L3] <;> omega)) only [Sall,evalOp,init,binA_s,binE,binI,unE,convE,okNil,builtE,gv,TD.isAgg,resV,↓reduceIte,Nat.reduceEqDiff,reduceCtorEq,Nat.reduceAdd,Nat.reduceMul,Nat.reduceLeDiff,za0,za2,Int.reduceEq,Int.reduceLT,Int.reduceLE,Nat.reduceLT,tiA,tiXA, Int.natCast_zero]
  · rintro z t H' ⟨rfl, j, hz, hj, h5, h0, h1⟩
    try simp (disch := first | omega | (simp only [L3] <;> omega)) only [Sall,evalOp,init,binA_s,binE,binI,unE,convE,okNil,builtE,gv,TD.isAgg,resV,↓reduceIte,Nat.reduceEqDiff,reduceCtorEq,Nat.reduceAdd,Nat.reduceMul,Nat.reduceLeDiff,za0,za2,Int.reduceEq,Int.reduceLT,Int.reduceLE,Nat.reduceLT,tiA,tiXA, h5, h0, la, builtE]
    refine za4 (fun hh => ?_) (fun hh => ?_)
    · obtain ⟨ai, ao, au, ac, ar, ax, am, rfl, a1, a2, a3, a4⟩ := ha.get (j := j) (by omega)
      obtain ⟨bi, bo, bu, bc, br, bx, bm, rfl, b1, b2, b3, b4⟩ := hb.get (j := j) (by omega)
      have a5 := a3.lenK1
      have b5 := b3.lenK1
      rw [a5] at a3
      rw [b5] at b3
      have hj2 := hr j (by omega)
      try simp (disch := first | omega | (simp only [L3] <;> omega)) only [Sall,evalOp,init,binA_s,binE,binI,unE,convE,okNil,builtE,gv,TD.isAgg,resV,↓reduceIte,Nat.reduceEqDiff,reduceCtorEq,Nat.reduceAdd,Nat.reduceMul,Nat.reduceLeDiff,za0,za2,Int.reduceEq,Int.reduceLT,Int.reduceLE,Nat.reduceLT,tiA,tiXA, h5, h0, h1]
      refine zb2 (by kernel_rfl) (by kernel_rfl) ?_
      try simp (disch := first | omega | (simp only [L3] <;> omega)) only [Sall,evalOp,init,binA_s,binE,binI,unE,convE,okNil,builtE,gv,TD.isAgg,resV,↓reduceIte,Nat.reduceEqDiff,reduceCtorEq,Nat.reduceAdd,Nat.reduceMul,Nat.reduceLeDiff,za0,za2,Int.reduceEq,Int.reduceLT,Int.reduceLE,Nat.reduceLT,tiA,tiXA, h5, h0, h1, a1, a2, a4, b1, b2, b4]
      (repeat refine And.intro (by omega) ?_)
      try simp (disch := first | omega | (simp only [L3] <;> omega)) only [Sall,evalOp,init,binA_s,binE,binI,unE,convE,okNil,builtE,gv,TD.isAgg,resV,↓reduceIte,Nat.reduceEqDiff,reduceCtorEq,Nat.reduceAdd,Nat.reduceMul,Nat.reduceLeDiff,za0,za2,Int.reduceEq,Int.reduceLT,Int.reduceLE,Nat.reduceLT,tiA,tiXA, h5, h0, h1, a1, a2, a4, b1, b2, b4]
      refine (zdF ax bx _ _ H' hj2 a3 b3).to ?_
      refine ⟨.inr (.inr (LE.refl _)), ?_⟩
      try simp (disch := first | omega | (simp only [L3] <;> omega)) only [Sall,evalOp,init,binA_s,binE,binI,unE,convE,okNil,builtE,gv,TD.isAgg,resV,↓reduceIte,Nat.reduceEqDiff,reduceCtorEq,Nat.reduceAdd,Nat.reduceMul,Nat.reduceLeDiff,za0,za2,Int.reduceEq,Int.reduceLT,Int.reduceLE,Nat.reduceLT,tiA,tiXA, h5, h0, h1, w64]
      exact ⟨ll.length - (j + 1), by omega, j + 1, rfl, by omega, rfl⟩
    · try simp (disch := first | omega | (simp only [L3] <;> omega)) only [Sall,evalOp,init,binA_s,binE,binI,unE,convE,okNil,builtE,gv,TD.isAgg,resV,↓reduceIte,Nat.reduceEqDiff,reduceCtorEq,Nat.reduceAdd,Nat.reduceMul,Nat.reduceLeDiff,za0,za2,Int.reduceEq,Int.reduceLT,Int.reduceLE,Nat.reduceLT,tiA,tiXA, true_and]
      exact ⟨rfl, rfl⟩
structure Dr (cv : Value) (nb : Nat) (H H1 H' : AH) (L : List Th) : Prop where
  ex : ∃ B, SrcB cv nb H.next H1 B ∧ Ow B H' L
section
variable {cv : Value} {nb : Nat} {H H1 H' : AH} {L : List Th}
theorem Dr.src (h : Dr cv nb H H1 H' L) (hn : H.next < H1.next) : Src cv nb H.next H' := by
  obtain ⟨B, b, o⟩ := h.ex; exact Ow.srcAt o b hn
theorem Dr.code (h : Dr cv nb H H1 H' L) (hx : CodeX cv nb H.next H1) (sc : Sc H1) : CodeX cv nb H.next H' := by
  obtain ⟨B, b, o⟩ := h.ex; exact hx.later fun i r hi hr => Ow.oldX o b sc i r hi hr
theorem Dr.sc (h : Dr cv nb H H1 H' L) : Sc H' := by obtain ⟨B, b, o⟩ := h.ex; exact o.sc
theorem Dr.next (h : Dr cv nb H H1 H' L) (hn : H.next < H1.next) {H2 : AH} (k : SrcB cv nb H.next H' H2) : Dr cv nb H H1 H2 L := by
  obtain ⟨B, b, o⟩ := h.ex
  obtain ⟨B2, b2, o2⟩ := Ow.src o (by rw [b.next]; exact hn) k
  exact ⟨B2, b.trans b2, o2⟩
theorem Dr.call (h : Dr cv nb H H1 H' L) (hn : H.next < H1.next) {H2 H3 : AH} {M : List Th} (k : SrcB cv nb H.next H' H2) (o3 : Ow H2 H3 M) : Dr cv nb H H1 H3 (L ++ M) := by
  obtain ⟨B, b, o⟩ := h.ex
  obtain ⟨B2, b2, o2⟩ := Ow.srcCall o (by rw [b.next]; exact hn) k o3
  exact ⟨B2, b.trans b2, o2⟩
theorem Dr.calls (h : Dr cv nb H H1 H' L) {H3 : AH} {M : List Th} (o3 : Ow H' H3 M) : Dr cv nb H H1 H3 (L ++ M) := by
  obtain ⟨B, b, o⟩ := h.ex
  exact ⟨B, b, o.call o3⟩
theorem Dr.map (h : Dr cv nb H H1 H' L) {H2 : AH} {M : List Th} (f : ∀ B, Ow B H' L → Ow B H2 M) : Dr cv nb H H1 H2 M := by
  obtain ⟨B, b, o⟩ := h.ex
  exact ⟨B, b, f B o⟩
theorem Dr.fin (h : Dr cv nb H H1 H' L) (up : Up H.next H H1) : Ow H H' L := by
  obtain ⟨B, b, o⟩ := h.ex
  exact Ow.rebase o up b (Nat.le_refl _)
end
end Go.Proofs.YtemgclojolmhbaaGreat.A
end

section
set_option maxRecDepth 100000
set_option maxHeartbeats 2000000
namespace Go.Proofs.YtemgclojolmhbaaGreat.A
open Go Go.Abs Go.RowKit
theorem zgQ (l : List Int) (j : Nat) (hj : j < l.length) : (l.take (j + 1)).sum = (l.take j).sum + l.getD j 0 := by
  have e : l.take (j + 1) = l.take j ++ [l[j]] := by rw [List.take_add_one, List.getElem?_eq_getElem hj]; rfl
  have e2 : l.getD j 0 = l[j] := by rw [List.getD_eq_getElem?_getD, List.getElem?_eq_getElem hj]; rfl
  rw [e, e2, List.sum_append, List.sum_cons, List.sum_nil, Int.add_zero]
theorem zdB {l : List Int} (hb : ∀ x, x ∈ l → 0 ≤ x ∧ x ≤ 1000000) : ∀ j, j ≤ l.length → 0 ≤ (l.take j).sum ∧ (l.take j).sum ≤ (j : Int) * 1000000
  | 0, _ => by simp
  | j + 1, h => by
    have ih := zdB hb j (by omega)
    rw [zgQ l j (by omega)]
    have h2 : l.getD j 0 ∈ l := by
      rw [List.getD_eq_getElem?_getD, List.getElem?_eq_getElem (by omega)]
      exact List.getElem_mem _
    have := hb _ h2
    omega
theorem sum_c (v : Value) (n : Nat) (l : List Int) (H : AH) (hn : n ≤ 1000) (hv : Rd 1 H v n l) (hb : ∀ x, x ∈ l → 0 ≤ x ∧ x ≤ 1000000) : ACalls Tryz.prog 10 [v] H (is (.int .i64 l.sum) H) := by
  refine za3 [.tmp 2] Tryz.func10 (by kernel_rfl) rfl rfl (Nat.le_of_ble_eq_true rfl) (by kernel_rfl) ?_
  have hln := hv.len
  have hl := hv.lenK1
  try simp (disch := first | omega | (simp only [L3] <;> omega)) only [Sall,evalOp,init,binA_s,binE,binI,unE,convE,okNil,builtE,gv,TD.isAgg,resV,↓reduceIte,Nat.reduceEqDiff,reduceCtorEq,Nat.reduceAdd,Nat.reduceMul,Nat.reduceLeDiff,za0,za2,Int.reduceEq,Int.reduceLT,Int.reduceLE,Nat.reduceLT,tiA,tiXA, true_and]
  refine za5 (fun z t H' => H' = H ∧ ∃ j : Nat, z = n - j ∧ j ≤ n ∧ t 4 = .int .i64 j ∧ t 3 = .int .i64 (l.take j).sum ∧ t 0 = v) n ?_ ?_
  · refine ⟨rfl, 0, by omega, by omega, ?_⟩
    try simp (disch := first | omega | (simp only [L3] <;> omega)) only [Sall,evalOp,init,binA_s,binE,binI,unE,convE,okNil,builtE,gv,TD.isAgg,resV,↓reduceIte,Nat.reduceEqDiff,reduceCtorEq,Nat.reduceAdd,Nat.reduceMul,Nat.reduceLeDiff,za0,za2,Int.reduceEq,Int.reduceLT,Int.reduceLE,Nat.reduceLT,tiA,tiXA, Int.natCast_zero, List.take_zero, List.sum_nil]
  · rintro z t H' ⟨rfl, j, hz, hj, h4, h3, h0⟩
    try simp (disch := first | omega | (simp only [L3] <;> omega)) only [Sall,evalOp,init,binA_s,binE,binI,unE,convE,okNil,builtE,gv,TD.isAgg,resV,↓reduceIte,Nat.reduceEqDiff,reduceCtorEq,Nat.reduceAdd,Nat.reduceMul,Nat.reduceLeDiff,za0,za2,Int.reduceEq,Int.reduceLT,Int.reduceLE,Nat.reduceLT,tiA,tiXA, h4, h0, hln, builtE]
    refine za4 (fun hh => ?_) (fun hh => ?_)
    · obtain ⟨ai, ao, au, ac, ar, rfl, a1, a2, a3, a4⟩ := hv.get (by omega)
      have a5 := a3 j (by omega)
      have hs := zdB hb j (by omega)
      have hs1 := zdB hb (j + 1) (by omega)
      have hst := zgQ l j (by omega)
      have ew : IntKind.i64.wrap ((l.take j).sum + l.getD j 0) = (l.take (j + 1)).sum := by
        rw [← hst]; exact w64 (by omega)
      try simp (disch := first | omega | (simp only [L3] <;> omega)) only [Sall,evalOp,init,binA_s,binE,binI,unE,convE,okNil,builtE,gv,TD.isAgg,resV,↓reduceIte,Nat.reduceEqDiff,reduceCtorEq,Nat.reduceAdd,Nat.reduceMul,Nat.reduceLeDiff,za0,za2,Int.reduceEq,Int.reduceLT,Int.reduceLE,Nat.reduceLT,tiA,tiXA, h4, h3, h0, a1, a5, ew, w64]
      (repeat refine And.intro (by omega) ?_)
      try simp (disch := first | omega | (simp only [L3] <;> omega)) only [Sall,evalOp,init,binA_s,binE,binI,unE,convE,okNil,builtE,gv,TD.isAgg,resV,↓reduceIte,Nat.reduceEqDiff,reduceCtorEq,Nat.reduceAdd,Nat.reduceMul,Nat.reduceLeDiff,za0,za2,Int.reduceEq,Int.reduceLT,Int.reduceLE,Nat.reduceLT,tiA,tiXA, h4, h3, h0, a1, a5, ew, w64]
      exact ⟨n - (j + 1), by omega, j + 1, rfl, by omega, rfl, rfl⟩
    · have e : l.take j = l := List.take_of_length_le (by omega)
      rw [e] at h3
      try simp (disch := first | omega | (simp only [L3] <;> omega)) only [Sall,evalOp,init,binA_s,binE,binI,unE,convE,okNil,builtE,gv,TD.isAgg,resV,↓reduceIte,Nat.reduceEqDiff,reduceCtorEq,Nat.reduceAdd,Nat.reduceMul,Nat.reduceLeDiff,za0,za2,Int.reduceEq,Int.reduceLT,Int.reduceLE,Nat.reduceLT,tiA,tiXA, h3]
      exact ⟨rfl, rfl⟩
end Go.Proofs.YtemgclojolmhbaaGreat.A
end

section
set_option maxRecDepth 100000
set_option maxHeartbeats 2000000
namespace Go.Proofs.YtemgclojolmhbaaGreat.A
open Go Go.Abs Go.RowKit
theorem brO_le (x y : List Int) (a : Nat) : 0 ≤ brO x y a ∧ brO x y a ≤ 1 := by unfold brO; split <;> decide
theorem bkI_le (V : List (List Int)) (a : Nat) : ∀ k : Nat, 0 ≤ bkI V a k ∧ bkI V a k ≤ (k : Int)
  | 0 => ⟨Int.le_refl _, Int.le_refl _⟩
  | k + 1 => by
    have h1 := bkI_le V a k
    have h2 := brO_le (V.getD k []) (V.getD (k + 1) []) a
    show 0 ≤ bkI V a k + brO (V.getD k []) (V.getD (k + 1) []) a ∧ bkI V a k + brO (V.getD k []) (V.getD (k + 1) []) a ≤ _
    omega
def bkP (n : Nat) (V : List (List Int)) (i a : Nat) : List Int := (List.range n).map fun b => bkI V b (if b < a then i else i - 1)
theorem za8 (n : Nat) (V : List (List Int)) (i a : Nat) : (bkP n V i a).length = n := by simp [bkP]
theorem bkP_at (n : Nat) (V : List (List Int)) (i a b : Nat) (h : b < n) : (bkP n V i a).getD b 0 = bkI V b (if b < a then i else i - 1) := by
  unfold bkP
  rw [List.getD_eq_getElem?_getD, List.getElem?_map, List.getElem?_range h]
  rfl
theorem zfL (n : Nat) (V : List (List Int)) : bkP n V 1 0 = List.replicate n 0 := by
  unfold bkP
  rw [List.eq_replicate_iff]
  simp [bkI]
theorem bkP_next (n : Nat) (V : List (List Int)) (i : Nat) : bkP n V i n = bkP n V (i + 1) 0 := by
  unfold bkP
  refine List.map_congr_left fun a ha => ?_
  rw [if_pos (List.mem_range.1 ha), if_neg (by omega)]
  rfl
theorem bkP_full (n : Nat) (V : List (List Int)) (i : Nat) (h : i - 1 = V.length - 1) : bkP n V i 0 = bkL n V := by
  unfold bkP bkL
  refine List.map_congr_left fun a ha => ?_
  rw [if_neg (by omega), h]
theorem bkP_succ {n : Nat} {V : List (List Int)} {i a : Nat} (h : a < n) {x : Int} (hx : x = bkI V a i) : (bkP n V i a).set a x = bkP n V i (a + 1) := by
  refine zcP (n := n) (by rw [List.length_set, za8]) (za8 _ _ _ _) fun b hb => ?_
  rw [zcO _ _ _ _ (by rw [za8]; omega), bkP_at _ _ _ _ _ hb, bkP_at _ _ _ _ _ hb]
  by_cases e : b = a
  · rw [if_pos e, if_pos (by omega), e, hx]
  · rw [if_neg e]
    by_cases e2 : b < a
    · rw [if_pos e2, if_pos (by omega)]
    · rw [if_neg e2, if_neg (by omega)]
theorem zfR {n : Nat} {V : List (List Int)} {i a : Nat} (h : a < n) (h0 : bkI V a i = bkI V a (i - 1)) : bkP n V i (a + 1) = bkP n V i a := by
  refine zcP (n := n) (za8 _ _ _ _) (za8 _ _ _ _) fun b hb => ?_
  rw [bkP_at _ _ _ _ _ hb, bkP_at _ _ _ _ _ hb]
  by_cases e : b = a
  · rw [if_pos (by omega), if_neg (by omega), e, h0]
  · by_cases e2 : b < a
    · rw [if_pos e2, if_pos (by omega)]
    · rw [if_neg e2, if_neg (by omega)]
theorem bkI_at (V : List (List Int)) (a i : Nat) (h : 1 ≤ i) : bkI V a i = bkI V a (i - 1) + brO (V.getD (i - 1) []) (V.getD i []) a := by
  obtain ⟨j, rfl⟩ : ∃ j, i = j + 1 := ⟨i - 1, by omega⟩
  rfl
theorem breaks_c (n : Nat) (x : Value) (ll : List (List Int)) (H : AH) (hn : n ≤ 64) (hx : Rd2 1 H x ll) (hl : ll.length ≤ 4194304) (hl2 : ∀ i, i < ll.length → (ll.getD i []).length = n) :
    ACalls Tryz.prog 41 [.int .i64 n, x] H (fun u H' => Ow H H' [.sl 1 2 u n (ints (bkL n ll))]) := by
  refine ACalls.wf (by kernel_rfl) fun hs => za3 [.tmp 4] Tryz.func41 (by kernel_rfl) rfl rfl (Nat.le_of_ble_eq_true rfl) (by kernel_rfl) ?_
  have hlx := hx.len
  have zn : zeros n [.int .i64 0] = ints (List.replicate n 0) := by simp [zeros, ints]
  have o2 := (Ow.refl hs).pushSl (k := 1) (n := n) (ty := 2) (vs := ints (List.replicate n 0)) (by simp [ints])
  rw [← zfL n ll] at o2
  try simp (disch := first | omega | (simp only [za1, List.length_replicate, List.length_set, za8] <;> omega)) only [Sall,evalOp,init,binA_s,binE,binI,unE,convE,okNil,builtE,gv,TD.isAgg,resV,↓reduceIte,Nat.reduceEqDiff,reduceCtorEq,Nat.reduceAdd,Nat.reduceMul,Nat.reduceLeDiff,za0,za2,Int.reduceEq,Int.reduceLT,Int.reduceLE,Nat.reduceLT,tiA,tiXA, zn]
  (repeat refine And.intro (by omega) ?_)
  rw [← zfL n ll]
  refine za5 (fun m t H' => ∃ i : Nat, m = ll.length + 1 - i ∧ 1 ≤ i ∧ i ≤ max 1 ll.length ∧ t 6 = .int .i64 i ∧ t 5 = .slice (some ⟨H.next, 0, some 1⟩) n n ∧ t 1 = x ∧ Ow H H' [.sl 1 2 (.slice (some ⟨H.next, 0, some 1⟩) n n) n (ints (bkP n ll i 0))]) ll.length ?_ ?_
  · refine ⟨1, by omega, Nat.le_refl _, by omega, ?_⟩
    try simp (disch := first | omega | (simp only [za1, List.length_replicate, List.length_set, za8] <;> omega)) only [Sall,evalOp,init,binA_s,binE,binI,unE,convE,okNil,builtE,gv,TD.isAgg,resV,↓reduceIte,Nat.reduceEqDiff,reduceCtorEq,Nat.reduceAdd,Nat.reduceMul,Nat.reduceLeDiff,za0,za2,Int.reduceEq,Int.reduceLT,Int.reduceLE,Nat.reduceLT,tiA,tiXA, Int.natCast_one]
    exact o2
  · rintro m t H' ⟨i, hm, hi1, hi, h6, h5, h1, o3⟩
    try simp (disch := first | omega | (simp only [za1, List.length_replicate, List.length_set, za8] <;> omega)) only [Sall,evalOp,init,binA_s,binE,binI,unE,convE,okNil,builtE,gv,TD.isAgg,resV,↓reduceIte,Nat.reduceEqDiff,reduceCtorEq,Nat.reduceAdd,Nat.reduceMul,Nat.reduceLeDiff,za0,za2,Int.reduceEq,Int.reduceLT,Int.reduceLE,Nat.reduceLT,tiA,tiXA, h6, h1, builtE, hlx]
    refine za4 (fun hh => ?_) (fun hh => ?_)
    · have hil : i < ll.length := by omega
      obtain ⟨xi, xo, xu, xc, xr, y, my, ex, x1, x2, x3, x4⟩ := hx.get (j := i) hil
      have hmy := x3.lenK1
      rw [hl2 i hil] at hmy
      have hmy := hmy.symm
      subst hmy
      have hyl := x3.len
      have hy := x3.one
      have hix : (i : Int) < (ll.length : Int) := hh
      have x1b := o3.old hs _ _ x1
      try simp (disch := first | omega | (simp only [za1, List.length_replicate, List.length_set, za8] <;> omega)) only [Sall,evalOp,init,binA_s,binE,binI,unE,convE,okNil,builtE,gv,TD.isAgg,resV,↓reduceIte,Nat.reduceEqDiff,reduceCtorEq,Nat.reduceAdd,Nat.reduceMul,Nat.reduceLeDiff,za0,za2,Int.reduceEq,Int.reduceLT,Int.reduceLE,Nat.reduceLT,tiA,tiXA, h6, h5, h1, ex, x1b, x2, x4, hix, hyl, hy, builtE]
      (repeat refine And.intro (by omega) ?_)
      try simp (disch := first | omega | (simp only [za1, List.length_replicate, List.length_set, za8] <;> omega)) only [Sall,evalOp,init,binA_s,binE,binI,unE,convE,okNil,builtE,gv,TD.isAgg,resV,↓reduceIte,Nat.reduceEqDiff,reduceCtorEq,Nat.reduceAdd,Nat.reduceMul,Nat.reduceLeDiff,za0,za2,Int.reduceEq,Int.reduceLT,Int.reduceLE,Nat.reduceLT,tiA,tiXA, h6, h5, h1, ex, x1b, x2, x4, hix, hyl, hy, builtE]
      refine za5 (fun m' t H' => ∃ a : Nat, m' = n - a ∧ a ≤ n ∧ t 22 = .int .i64 a ∧ t 21 = .int .i64 n ∧ t 20 = y ∧ t 6 = .int .i64 i ∧ t 5 = .slice (some ⟨H.next, 0, some 1⟩) n n ∧ t 1 = x ∧ Ow H H' [.sl 1 2 (.slice (some ⟨H.next, 0, some 1⟩) n n) n (ints (bkP n ll i a))]) n ?_ ?_
      · refine ⟨0, by omega, by omega, ?_⟩
        try simp (disch := first | omega | (simp only [za1, List.length_replicate, List.length_set, za8] <;> omega)) only [Sall,evalOp,init,binA_s,binE,binI,unE,convE,okNil,builtE,gv,TD.isAgg,resV,↓reduceIte,Nat.reduceEqDiff,reduceCtorEq,Nat.reduceAdd,Nat.reduceMul,Nat.reduceLeDiff,za0,za2,Int.reduceEq,Int.reduceLT,Int.reduceLE,Nat.reduceLT,tiA,tiXA, Int.natCast_zero, h6, h5, h1, ex]
        exact o3
      · rintro m' t Hx ⟨a, hm', ha, h22, h21, h20, h6, h5, h1, o4⟩
        try simp (disch := first | omega | (simp only [za1, List.length_replicate, List.length_set, za8] <;> omega)) only [Sall,evalOp,init,binA_s,binE,binI,unE,convE,okNil,builtE,gv,TD.isAgg,resV,↓reduceIte,Nat.reduceEqDiff,reduceCtorEq,Nat.reduceAdd,Nat.reduceMul,Nat.reduceLeDiff,za0,za2,Int.reduceEq,Int.reduceLT,Int.reduceLE,Nat.reduceLT,tiA,tiXA, h22, h21]
        refine za4 (fun hh2 => ?_) (fun hh2 => ?_)
        · have han : a < n := by omega
          obtain ⟨wi, wo, wu, wc, wr, yw, mw, ew, w1, w2, w3, w4⟩ := hx.get (j := i - 1) (by omega)
          have hmw := w3.lenK1
          rw [hl2 (i - 1) (by omega)] at hmw
          have hmw := hmw.symm
          subst hmw
          rw [ex] at ew
          simp only [Value.slice.injEq, Option.some.injEq, Addr.mk.injEq] at ew
          obtain ⟨⟨rfl, rfl, rfl⟩, _, rfl⟩ := ew
          rw [x1] at w1
          cases w1
          obtain ⟨zi, zo, zu, zc, zr, ez, z1, z2, z3, _⟩ := x3.get (by omega)
          obtain ⟨pi, po, pu, pc, pr, ep, p1, p2, p3, _⟩ := w3.get (by omega)
          have z4 := z3 a (by omega)
          have p4 := p3 a (by omega)
          have x1b := o4.old hs _ _ x1
          have z1b := o4.old hs _ _ z1
          have p1b := o4.old hs _ _ p1
          subst ez
          subst ep
          have e6 := (o4.getV 0 rfl).2.2
          have hb1 := bkI_le ll a (i - 1)
          have hbi := bkI_at ll a i hi1
          have hvi : (ints (bkP n ll i a))[a]? = some (.int .i64 (bkI ll a (i - 1))) := by
            rw [ints_get? _ _ (by rw [za8]; omega), bkP_at _ _ _ _ _ han, if_neg (by omega)]
          have wa : IntKind.i64.wrap ((a : Int) + 1) = ((a + 1 : Nat) : Int) := w64 ⟨by omega, by omega⟩
          have wi1 : IntKind.i64.wrap ((i : Int) - 1) = ((i - 1 : Nat) : Int) := by rw [show (i : Int) - 1 = ((i - 1 : Nat) : Int) by omega]; exact w64 ⟨by omega, by omega⟩
          have wv : IntKind.i64.wrap (bkI ll a (i - 1) + 1) = bkI ll a (i - 1) + 1 := w64 ⟨by omega, by omega⟩
          have hi1l : ((i - 1 : Nat) : Int) < (ll.length : Int) := by omega
          have brE : brO (ll.getD (i - 1) []) (ll.getD i []) a = if 0 ≤ (ll.getD i []).getD a 0 ∧ (ll.getD i []).getD a 0 = (ll.getD (i - 1) []).getD a 0 then 1 else 0 := rfl
          generalize (ll.getD i []).getD a 0 = va at z4 brE
          generalize (ll.getD (i - 1) []).getD a 0 = vb at p4 brE
          have hge : ∀ b : Bool, decide (va ≥ 0) = b → decide ((0 : Int) ≤ va) = b := fun b h => h
          by_cases h0 : 0 ≤ va
          · have d0 : decide ((0 : Int) ≤ va) = true := decide_eq_true h0
            by_cases hvv : va = vb
            · have d1 : (va == vb) = true := by rw [hvv]; exact beq_self_eq_true _
              rw [if_pos ⟨h0, hvv⟩] at brE
              have op := o4.put 0 rfl (vs' := (ints (bkP n ll i a)).set a (.int .i64 (bkI ll a (i - 1) + 1))) (by simp)
              try simp (disch := first | omega | (simp only [za1, List.length_replicate, List.length_set, za8] <;> omega)) only [Sall,evalOp,init,binA_s,binE,binI,unE,convE,okNil,builtE,gv,TD.isAgg,resV,↓reduceIte,Nat.reduceEqDiff,reduceCtorEq,Nat.reduceAdd,Nat.reduceMul,Nat.reduceLeDiff,za0,za2,Int.reduceEq,Int.reduceLT,Int.reduceLE,Nat.reduceLT,tiA,tiXA, h22, h21, h20, h6, h5, h1, ex, x1b, x2, x4, w2, z1b, z4, p1b, p4, e6, hvi, wa, wi1, wv, hi1l, d0, d1, ge_iff_le]
              refine ⟨⟨by omega, by omega⟩, by omega, ⟨by omega, by omega⟩, ⟨by omega, by omega⟩, ⟨by omega, by omega⟩, by rw [za8]; omega, n - (a + 1), by omega, a + 1, rfl, by omega, rfl, ?_⟩
              rw [← bkP_succ han (x := bkI ll a (i - 1) + 1) (by rw [hbi, brE]), ← zaR]
              exact op
            · have d1 : (va == vb) = false := beq_eq_false_iff_ne.2 hvv
              rw [if_neg (fun h => hvv h.2)] at brE
              try simp (disch := first | omega | (simp only [za1, List.length_replicate, List.length_set, za8] <;> omega)) only [Sall,evalOp,init,binA_s,binE,binI,unE,convE,okNil,builtE,gv,TD.isAgg,resV,↓reduceIte,Nat.reduceEqDiff,reduceCtorEq,Nat.reduceAdd,Nat.reduceMul,Nat.reduceLeDiff,za0,za2,Int.reduceEq,Int.reduceLT,Int.reduceLE,Nat.reduceLT,tiA,tiXA, h22, h21, h20, h6, h5, h1, ex, x1b, x2, x4, w2, z1b, z4, p1b, p4, e6, hvi, wa, wi1, wv, hi1l, d0, d1, ge_iff_le]
              refine ⟨⟨by omega, by omega⟩, by omega, ⟨by omega, by omega⟩, n - (a + 1), by omega, a + 1, rfl, by omega, rfl, ?_⟩
              rw [zfR han (by rw [hbi, brE, Int.add_zero])]
              exact o4
          · have d0 : decide ((0 : Int) ≤ va) = false := decide_eq_false h0
            rw [if_neg (fun h => h0 h.1)] at brE
            try simp (disch := first | omega | (simp only [za1, List.length_replicate, List.length_set, za8] <;> omega)) only [Sall,evalOp,init,binA_s,binE,binI,unE,convE,okNil,builtE,gv,TD.isAgg,resV,↓reduceIte,Nat.reduceEqDiff,reduceCtorEq,Nat.reduceAdd,Nat.reduceMul,Nat.reduceLeDiff,za0,za2,Int.reduceEq,Int.reduceLT,Int.reduceLE,Nat.reduceLT,tiA,tiXA, h22, h21, h20, h6, h5, h1, ex, x1b, x2, x4, w2, z1b, z4, p1b, p4, e6, hvi, wa, wi1, wv, hi1l, d0, ge_iff_le]
            refine ⟨⟨by omega, by omega⟩, n - (a + 1), by omega, a + 1, rfl, by omega, rfl, ?_⟩
            rw [zfR han (by rw [hbi, brE, Int.add_zero])]
            exact o4
        · have hae : a = n := by omega
          rw [hae, bkP_next] at o4
          have wi : IntKind.i64.wrap ((i : Int) + 1) = ((i + 1 : Nat) : Int) := w64 ⟨by omega, by omega⟩
          try simp (disch := first | omega | (simp only [za1, List.length_replicate, List.length_set, za8] <;> omega)) only [Sall,evalOp,init,binA_s,binE,binI,unE,convE,okNil,builtE,gv,TD.isAgg,resV,↓reduceIte,Nat.reduceEqDiff,reduceCtorEq,Nat.reduceAdd,Nat.reduceMul,Nat.reduceLeDiff,za0,za2,Int.reduceEq,Int.reduceLT,Int.reduceLE,Nat.reduceLT,tiA,tiXA, h6, h5, h1, wi]
          exact ⟨ll.length + 1 - (i + 1), by omega, i + 1, rfl, by omega, by omega, rfl, o4⟩
    · try simp (disch := first | omega | (simp only [za1, List.length_replicate, List.length_set, za8] <;> omega)) only [Sall,evalOp,init,binA_s,binE,binI,unE,convE,okNil,builtE,gv,TD.isAgg,resV,↓reduceIte,Nat.reduceEqDiff,reduceCtorEq,Nat.reduceAdd,Nat.reduceMul,Nat.reduceLeDiff,za0,za2,Int.reduceEq,Int.reduceLT,Int.reduceLE,Nat.reduceLT,tiA,tiXA, h5]
      rw [bkP_full n ll i (by omega)] at o3
      exact o3
theorem zeZ (n : Nat) (x : Value) (ll : List (List Int)) (H : AH) (hn : n ≤ 64) (hx : Rd2 1 H x ll) (hl : ll.length ≤ 4194304) (hl2 : ∀ i, i < ll.length → (ll.getD i []).length = n) :
    ACalls Tryz.prog 45 [.int .i64 n, x] H (fun u H' => Ow H H' [.sl 1 2 u n (ints (bkL n ll))]) := by
  refine ACalls.wf (by kernel_rfl) fun hs => za3 [.tmp 4] Tryz.func45 (by kernel_rfl) rfl rfl (Nat.le_of_ble_eq_true rfl) (by kernel_rfl) ?_
  have hlx := hx.len
  have zn : zeros n [.int .i64 0] = ints (List.replicate n 0) := by simp [zeros, ints]
  have o2 := (Ow.refl hs).pushSl (k := 1) (n := n) (ty := 2) (vs := ints (List.replicate n 0)) (by simp [ints])
  rw [← zfL n ll] at o2
  try simp (disch := first | omega | (simp only [za1, List.length_replicate, List.length_set, za8] <;> omega)) only [Sall,evalOp,init,binA_s,binE,binI,unE,convE,okNil,builtE,gv,TD.isAgg,resV,↓reduceIte,Nat.reduceEqDiff,reduceCtorEq,Nat.reduceAdd,Nat.reduceMul,Nat.reduceLeDiff,za0,za2,Int.reduceEq,Int.reduceLT,Int.reduceLE,Nat.reduceLT,tiA,tiXA, zn]
  (repeat refine And.intro (by omega) ?_)
  rw [← zfL n ll]
  refine za5 (fun m t H' => ∃ i : Nat, m = ll.length + 1 - i ∧ 1 ≤ i ∧ i ≤ max 1 ll.length ∧ t 6 = .int .i64 i ∧ t 5 = .slice (some ⟨H.next, 0, some 1⟩) n n ∧ t 1 = x ∧ t 0 = .int .i64 n ∧ Ow H H' [.sl 1 2 (.slice (some ⟨H.next, 0, some 1⟩) n n) n (ints (bkP n ll i 0))]) ll.length ?_ ?_
  · refine ⟨1, by omega, Nat.le_refl _, by omega, ?_⟩
    try simp (disch := first | omega | (simp only [za1, List.length_replicate, List.length_set, za8] <;> omega)) only [Sall,evalOp,init,binA_s,binE,binI,unE,convE,okNil,builtE,gv,TD.isAgg,resV,↓reduceIte,Nat.reduceEqDiff,reduceCtorEq,Nat.reduceAdd,Nat.reduceMul,Nat.reduceLeDiff,za0,za2,Int.reduceEq,Int.reduceLT,Int.reduceLE,Nat.reduceLT,tiA,tiXA, Int.natCast_one]
    exact o2
  · rintro m t H' ⟨i, hm, hi1, hi, h6, h5, h1, h0, o3⟩
    try simp (disch := first | omega | (simp only [za1, List.length_replicate, List.length_set, za8] <;> omega)) only [Sall,evalOp,init,binA_s,binE,binI,unE,convE,okNil,builtE,gv,TD.isAgg,resV,↓reduceIte,Nat.reduceEqDiff,reduceCtorEq,Nat.reduceAdd,Nat.reduceMul,Nat.reduceLeDiff,za0,za2,Int.reduceEq,Int.reduceLT,Int.reduceLE,Nat.reduceLT,tiA,tiXA, h6, h1, builtE, hlx]
    refine za4 (fun hh => ?_) (fun hh => ?_)
    · have hil : i < ll.length := by omega
      have hix : (i : Int) < (ll.length : Int) := hh
      try simp (disch := first | omega | (simp only [za1, List.length_replicate, List.length_set, za8] <;> omega)) only [Sall,evalOp,init,binA_s,binE,binI,unE,convE,okNil,builtE,gv,TD.isAgg,resV,↓reduceIte,Nat.reduceEqDiff,reduceCtorEq,Nat.reduceAdd,Nat.reduceMul,Nat.reduceLeDiff,za0,za2,Int.reduceEq,Int.reduceLT,Int.reduceLE,Nat.reduceLT,tiA,tiXA, true_and]
      refine za5 (fun m' t H' => ∃ a : Nat, m' = n - a ∧ a ≤ n ∧ t 7 = .int .i64 a ∧ t 6 = .int .i64 i ∧ t 5 = .slice (some ⟨H.next, 0, some 1⟩) n n ∧ t 1 = x ∧ t 0 = .int .i64 n ∧ Ow H H' [.sl 1 2 (.slice (some ⟨H.next, 0, some 1⟩) n n) n (ints (bkP n ll i a))]) n ?_ ?_
      · refine ⟨0, by omega, by omega, ?_⟩
        try simp (disch := first | omega | (simp only [za1, List.length_replicate, List.length_set, za8] <;> omega)) only [Sall,evalOp,init,binA_s,binE,binI,unE,convE,okNil,builtE,gv,TD.isAgg,resV,↓reduceIte,Nat.reduceEqDiff,reduceCtorEq,Nat.reduceAdd,Nat.reduceMul,Nat.reduceLeDiff,za0,za2,Int.reduceEq,Int.reduceLT,Int.reduceLE,Nat.reduceLT,tiA,tiXA, Int.natCast_zero, h6, h5, h1, h0]
        exact o3
      · rintro m' t Hx ⟨a, hm', ha, h7, h6, h5, h1, h0, o4⟩
        try simp (disch := first | omega | (simp only [za1, List.length_replicate, List.length_set, za8] <;> omega)) only [Sall,evalOp,init,binA_s,binE,binI,unE,convE,okNil,builtE,gv,TD.isAgg,resV,↓reduceIte,Nat.reduceEqDiff,reduceCtorEq,Nat.reduceAdd,Nat.reduceMul,Nat.reduceLeDiff,za0,za2,Int.reduceEq,Int.reduceLT,Int.reduceLE,Nat.reduceLT,tiA,tiXA, h7, h0]
        refine za4 (fun hh2 => ?_) (fun hh2 => ?_)
        · have han : a < n := by omega
          obtain ⟨xi, xo, xu, xc, xr, y, my, ex, x1, x2, x3, x4⟩ := hx.get (j := i) hil
          have hmy := x3.lenK1
          rw [hl2 i hil] at hmy
          have hmy := hmy.symm
          subst hmy
          obtain ⟨wi, wo, wu, wc, wr, yw, mw, ew, w1, w2, w3, w4⟩ := hx.get (j := i - 1) (by omega)
          have hmw := w3.lenK1
          rw [hl2 (i - 1) (by omega)] at hmw
          have hmw := hmw.symm
          subst hmw
          rw [ex] at ew
          simp only [Value.slice.injEq, Option.some.injEq, Addr.mk.injEq] at ew
          obtain ⟨⟨rfl, rfl, rfl⟩, _, rfl⟩ := ew
          rw [x1] at w1
          cases w1
          obtain ⟨zi, zo, zu, zc, zr, ez, z1, z2, z3, _⟩ := x3.get (by omega)
          obtain ⟨pi, po, pu, pc, pr, ep, p1, p2, p3, _⟩ := w3.get (by omega)
          have z4 := z3 a (by omega)
          have p4 := p3 a (by omega)
          have x1b := o4.old hs _ _ x1
          have z1b := o4.old hs _ _ z1
          have p1b := o4.old hs _ _ p1
          subst ez
          subst ep
          have e6 := (o4.getV 0 rfl).2.2
          have hb1 := bkI_le ll a (i - 1)
          have hbi := bkI_at ll a i hi1
          have hvi : (ints (bkP n ll i a))[a]? = some (.int .i64 (bkI ll a (i - 1))) := by
            rw [ints_get? _ _ (by rw [za8]; omega), bkP_at _ _ _ _ _ han, if_neg (by omega)]
          have wa : IntKind.i64.wrap ((a : Int) + 1) = ((a + 1 : Nat) : Int) := w64 ⟨by omega, by omega⟩
          have wi1 : IntKind.i64.wrap ((i : Int) - 1) = ((i - 1 : Nat) : Int) := by rw [show (i : Int) - 1 = ((i - 1 : Nat) : Int) by omega]; exact w64 ⟨by omega, by omega⟩
          have wv : IntKind.i64.wrap (bkI ll a (i - 1) + 1) = bkI ll a (i - 1) + 1 := w64 ⟨by omega, by omega⟩
          have hi1l : ((i - 1 : Nat) : Int) < (ll.length : Int) := by omega
          have brE : brO (ll.getD (i - 1) []) (ll.getD i []) a = if 0 ≤ (ll.getD i []).getD a 0 ∧ (ll.getD i []).getD a 0 = (ll.getD (i - 1) []).getD a 0 then 1 else 0 := rfl
          generalize (ll.getD i []).getD a 0 = va at z4 brE
          generalize (ll.getD (i - 1) []).getD a 0 = vb at p4 brE
          have gi : (0 : Int) ≤ (i : Int) := by omega
          have gi1 : (0 : Int) ≤ ((i - 1 : Nat) : Int) := by omega
          have ga1 : (0 : Int) ≤ (a : Int) := by omega
          have ga2 : (a : Int) < (n : Int) := by omega
          try simp (disch := first | omega | (simp only [za1, List.length_replicate, List.length_set, za8] <;> omega)) only [Sall,evalOp,init,binA_s,binE,binI,unE,convE,okNil,builtE,gv,TD.isAgg,resV,↓reduceIte,Nat.reduceEqDiff,reduceCtorEq,Nat.reduceAdd,Nat.reduceMul,Nat.reduceLeDiff,za0,za2,Int.reduceEq,Int.reduceLT,Int.reduceLE,Nat.reduceLT,tiA,tiXA, true_and]
          refine zb2 (by kernel_rfl) (by kernel_rfl) ?_
          by_cases h00 : 0 ≤ va
          · have d0 : decide ((0 : Int) ≤ va) = true := decide_eq_true h00
            by_cases hvv : va = vb
            · have d1 : (va == vb) = true := by rw [hvv]; exact beq_self_eq_true _
              rw [if_pos ⟨h00, hvv⟩] at brE
              have op := o4.put 0 rfl (vs' := (ints (bkP n ll i a)).set a (.int .i64 (bkI ll a (i - 1) + 1))) (by simp)
              try simp (disch := first | omega | (simp only [za1, List.length_replicate, List.length_set, za8] <;> omega)) only [Sall,evalOp,init,binA_s,binE,binI,unE,convE,okNil,builtE,gv,TD.isAgg,resV,↓reduceIte,Nat.reduceEqDiff,reduceCtorEq,Nat.reduceAdd,Nat.reduceMul,Nat.reduceLeDiff,za0,za2,Int.reduceEq,Int.reduceLT,Int.reduceLE,Nat.reduceLT,tiA,tiXA, h7, h6, h5, h1, h0, ex, x1b, x2, x4, w2, z1b, z4, p1b, p4, e6, hvi, wa, wi1, wv, hi1l, hix, gi, gi1, ga1, ga2, d0, d1, ge_iff_le]
              refine ⟨by rw [za8]; omega, n - (a + 1), by omega, a + 1, rfl, by omega, rfl, ?_⟩
              rw [← bkP_succ han (x := bkI ll a (i - 1) + 1) (by rw [hbi, brE]), ← zaR]
              exact op
            · have d1 : (va == vb) = false := beq_eq_false_iff_ne.2 hvv
              rw [if_neg (fun h => hvv h.2)] at brE
              try simp (disch := first | omega | (simp only [za1, List.length_replicate, List.length_set, za8] <;> omega)) only [Sall,evalOp,init,binA_s,binE,binI,unE,convE,okNil,builtE,gv,TD.isAgg,resV,↓reduceIte,Nat.reduceEqDiff,reduceCtorEq,Nat.reduceAdd,Nat.reduceMul,Nat.reduceLeDiff,za0,za2,Int.reduceEq,Int.reduceLT,Int.reduceLE,Nat.reduceLT,tiA,tiXA, h7, h6, h5, h1, h0, ex, x1b, x2, x4, w2, z1b, z4, p1b, p4, e6, hvi, wa, wi1, wv, hi1l, hix, gi, gi1, ga1, ga2, d0, d1, ge_iff_le]
              refine ⟨n - (a + 1), by omega, a + 1, rfl, by omega, rfl, ?_⟩
              rw [zfR han (by rw [hbi, brE, Int.add_zero])]
              exact o4
          · have d0 : decide ((0 : Int) ≤ va) = false := decide_eq_false h00
            rw [if_neg (fun h => h00 h.1)] at brE
            try simp (disch := first | omega | (simp only [za1, List.length_replicate, List.length_set, za8] <;> omega)) only [Sall,evalOp,init,binA_s,binE,binI,unE,convE,okNil,builtE,gv,TD.isAgg,resV,↓reduceIte,Nat.reduceEqDiff,reduceCtorEq,Nat.reduceAdd,Nat.reduceMul,Nat.reduceLeDiff,za0,za2,Int.reduceEq,Int.reduceLT,Int.reduceLE,Nat.reduceLT,tiA,tiXA, h7, h6, h5, h1, h0, ex, x1b, x2, x4, w2, z1b, z4, p1b, p4, e6, hvi, wa, wi1, wv, hi1l, hix, gi, gi1, ga1, ga2, d0, ge_iff_le]
            refine ⟨n - (a + 1), by omega, a + 1, rfl, by omega, rfl, ?_⟩
            rw [zfR han (by rw [hbi, brE, Int.add_zero])]
            exact o4
        · have hae : a = n := by omega
          rw [hae, bkP_next] at o4
          have wi : IntKind.i64.wrap ((i : Int) + 1) = ((i + 1 : Nat) : Int) := w64 ⟨by omega, by omega⟩
          try simp (disch := first | omega | (simp only [za1, List.length_replicate, List.length_set, za8] <;> omega)) only [Sall,evalOp,init,binA_s,binE,binI,unE,convE,okNil,builtE,gv,TD.isAgg,resV,↓reduceIte,Nat.reduceEqDiff,reduceCtorEq,Nat.reduceAdd,Nat.reduceMul,Nat.reduceLeDiff,za0,za2,Int.reduceEq,Int.reduceLT,Int.reduceLE,Nat.reduceLT,tiA,tiXA, h6, h5, h1, h0, wi]
          exact ⟨ll.length + 1 - (i + 1), by omega, i + 1, rfl, by omega, by omega, rfl, o4⟩
    · try simp (disch := first | omega | (simp only [za1, List.length_replicate, List.length_set, za8] <;> omega)) only [Sall,evalOp,init,binA_s,binE,binI,unE,convE,okNil,builtE,gv,TD.isAgg,resV,↓reduceIte,Nat.reduceEqDiff,reduceCtorEq,Nat.reduceAdd,Nat.reduceMul,Nat.reduceLeDiff,za0,za2,Int.reduceEq,Int.reduceLT,Int.reduceLE,Nat.reduceLT,tiA,tiXA, h5]
      rw [bkP_full n ll i (by omega)] at o3
      exact o3
theorem total_c (v : Value) (n : Nat) (l : List Int) (H : AH) (hn : n ≤ 1000) (hv : Rd 1 H v n l) (hb : ∀ x, x ∈ l → 0 ≤ x ∧ x ≤ 1000000) : ACalls Tryz.prog 40 [v] H (is (.int .i64 l.sum) H) := by
  refine za3 [.tmp 2] Tryz.func40 (by kernel_rfl) rfl rfl (Nat.le_of_ble_eq_true rfl) (by kernel_rfl) ?_
  have hln := hv.len
  have hl := hv.lenK1
  try simp (disch := first | omega | (simp only [za1, List.length_replicate, List.length_set, za8] <;> omega)) only [Sall,evalOp,init,binA_s,binE,binI,unE,convE,okNil,builtE,gv,TD.isAgg,resV,↓reduceIte,Nat.reduceEqDiff,reduceCtorEq,Nat.reduceAdd,Nat.reduceMul,Nat.reduceLeDiff,za0,za2,Int.reduceEq,Int.reduceLT,Int.reduceLE,Nat.reduceLT,tiA,tiXA, builtE, hln]
  refine za5 (fun z t H' => H' = H ∧ ∃ j : Nat, z = n - j ∧ j ≤ n ∧ t 8 = .int .i64 j ∧ t 7 = .int .i64 n ∧ t 6 = v ∧ t 3 = .int .i64 (l.take j).sum) n ?_ ?_
  · refine ⟨rfl, 0, by omega, by omega, ?_⟩
    try simp (disch := first | omega | (simp only [za1, List.length_replicate, List.length_set, za8] <;> omega)) only [Sall,evalOp,init,binA_s,binE,binI,unE,convE,okNil,builtE,gv,TD.isAgg,resV,↓reduceIte,Nat.reduceEqDiff,reduceCtorEq,Nat.reduceAdd,Nat.reduceMul,Nat.reduceLeDiff,za0,za2,Int.reduceEq,Int.reduceLT,Int.reduceLE,Nat.reduceLT,tiA,tiXA, Int.natCast_zero, List.take_zero, List.sum_nil]
  · rintro z t H' ⟨rfl, j, hz, hj, h8, h7, h6, h3⟩
    try simp (disch := first | omega | (simp only [za1, List.length_replicate, List.length_set, za8] <;> omega)) only [Sall,evalOp,init,binA_s,binE,binI,unE,convE,okNil,builtE,gv,TD.isAgg,resV,↓reduceIte,Nat.reduceEqDiff,reduceCtorEq,Nat.reduceAdd,Nat.reduceMul,Nat.reduceLeDiff,za0,za2,Int.reduceEq,Int.reduceLT,Int.reduceLE,Nat.reduceLT,tiA,tiXA, h8, h7]
    refine za4 (fun hh => ?_) (fun hh => ?_)
    · obtain ⟨ai, ao, au, ac, ar, rfl, a1, a2, a3, a4⟩ := hv.get (by omega)
      have a5 := a3 j (by omega)
      have hs := zdB hb j (by omega)
      have hs1 := zdB hb (j + 1) (by omega)
      have hst := zgQ l j (by omega)
      have ew : IntKind.i64.wrap ((l.take j).sum + l.getD j 0) = (l.take (j + 1)).sum := by
        rw [← hst]; exact w64 (by omega)
      try simp (disch := first | omega | (simp only [za1, List.length_replicate, List.length_set, za8] <;> omega)) only [Sall,evalOp,init,binA_s,binE,binI,unE,convE,okNil,builtE,gv,TD.isAgg,resV,↓reduceIte,Nat.reduceEqDiff,reduceCtorEq,Nat.reduceAdd,Nat.reduceMul,Nat.reduceLeDiff,za0,za2,Int.reduceEq,Int.reduceLT,Int.reduceLE,Nat.reduceLT,tiA,tiXA, h8, h7, h6, h3, a1, a5, ew, w64]
      (repeat refine And.intro (by omega) ?_)
      try simp (disch := first | omega | (simp only [za1, List.length_replicate, List.length_set, za8] <;> omega)) only [Sall,evalOp,init,binA_s,binE,binI,unE,convE,okNil,builtE,gv,TD.isAgg,resV,↓reduceIte,Nat.reduceEqDiff,reduceCtorEq,Nat.reduceAdd,Nat.reduceMul,Nat.reduceLeDiff,za0,za2,Int.reduceEq,Int.reduceLT,Int.reduceLE,Nat.reduceLT,tiA,tiXA, h8, h7, h6, h3, a1, a5, ew, w64]
      exact ⟨n - (j + 1), by omega, j + 1, rfl, by omega, rfl, rfl⟩
    · have e : l.take j = l := List.take_of_length_le (by omega)
      rw [e] at h3
      try simp (disch := first | omega | (simp only [za1, List.length_replicate, List.length_set, za8] <;> omega)) only [Sall,evalOp,init,binA_s,binE,binI,unE,convE,okNil,builtE,gv,TD.isAgg,resV,↓reduceIte,Nat.reduceEqDiff,reduceCtorEq,Nat.reduceAdd,Nat.reduceMul,Nat.reduceLeDiff,za0,za2,Int.reduceEq,Int.reduceLT,Int.reduceLE,Nat.reduceLT,tiA,tiXA, h3]
      exact ⟨rfl, rfl⟩
def brkR (q : Int) (k : Nat) (l : List Int) (ll : List (List Int)) : List Int := if codeV q k l ll true = 0 then bkL q.toNat ll else []
theorem zeJ (q : Int) (v : Value) (k : Nat) (l : List Int) (x : Value) (ll : List (List Int)) (H : AH)
    (hv : Rd 14 H v k l) (hk : k ≤ 4294967296) (hx : Rd2 1 H x ll) (hl : ll.length ≤ 4194304) (hl2 : ∀ y ∈ ll, y.length ≤ 4194304) :
    ACalls Tryz.prog 9 [.agg #[.int .i64 q, v], x] H (fun r H' => ∃ u, r = .tuple #[u, .int .i64 (codeV q k l ll true)] ∧ Ow H H' [.sl 1 2 u (brkR q k l ll).length (ints (brkR q k l ll))]) := by
  refine ACalls.wf (by kernel_rfl) fun hs => za3 [.tmp 4, .tmp 5] Tryz.func9 (by kernel_rfl) rfl rfl (Nat.le_of_ble_eq_true rfl) (by kernel_rfl) ?_
  have hone := hv.one
  have o1 := (Ow.refl hs).push ⟨26, true, [.int .i64 q, v]⟩
  try simp (disch := first | omega | (simp only [za1, List.length_replicate, List.length_set, za8] <;> omega)) only [Sall,evalOp,init,binA_s,binE,binI,unE,convE,okNil,builtE,gv,TD.isAgg,resV,↓reduceIte,Nat.reduceEqDiff,reduceCtorEq,Nat.reduceAdd,Nat.reduceMul,Nat.reduceLeDiff,za0,za2,Int.reduceEq,Int.reduceLT,Int.reduceLE,Nat.reduceLT,tiA,tiXA, hone]
  obtain ⟨pi, epi⟩ : ∃ pi, pi = H.next := ⟨_, rfl⟩
  rw [← epi] at o1 ⊢
  revert o1
  generalize H.push ⟨26, true, [.int .i64 q, v]⟩ = H1
  intro o1
  have e1 := (o1.rowAt 0 rfl).1
  have hv1 := hv.same (o1.old hs)
  have hxg := hx.same (o1.old hs)
  refine (zeT q v k l x ll 37 [] true H1 hv1 hk hxg hl hl2 fun H' _ _ _ => zfT H').to ?_
  refine Holds.mp ?_
  unfold brkR
  rcases zd1 q k l ll true with hC | hC
  rotate_left
  · rw [if_neg (bne_iff_ne.1 hC)]
    try simp (disch := first | omega | (simp only [za1, List.length_replicate, List.length_set, za8] <;> omega)) only [Sall,evalOp,init,binA_s,binE,binI,unE,convE,okNil,builtE,gv,TD.isAgg,resV,↓reduceIte,Nat.reduceEqDiff,reduceCtorEq,Nat.reduceAdd,Nat.reduceMul,Nat.reduceLeDiff,za0,za2,Int.reduceEq,Int.reduceLT,Int.reduceLE,Nat.reduceLT,tiA,tiXA, hC]
    exact ⟨_, rfl, (o1.addNil 1 2).only 1 rfl⟩
  rw [if_pos hC, hC]
  obtain ⟨hb, hf, _, hvn⟩ := codeV_zero.1 hC
  obtain ⟨⟨hq2, hq14⟩, hk40, _⟩ := zaT hb
  obtain ⟨hlk, hfr⟩ := zd9 hf
  obtain ⟨n, rfl⟩ : ∃ n : Nat, q = n := ⟨q.toNat, by omega⟩
  rw [Int.toNat_natCast] at hf hfr hvn ⊢
  have c0 : ((0 : Int) != 0) = false := rfl
  try simp (disch := first | omega | (simp only [za1, List.length_replicate, List.length_set, za8] <;> omega)) only [Sall,evalOp,init,binA_s,binE,binI,unE,convE,okNil,builtE,gv,TD.isAgg,resV,↓reduceIte,Nat.reduceEqDiff,reduceCtorEq,Nat.reduceAdd,Nat.reduceMul,Nat.reduceLeDiff,za0,za2,Int.reduceEq,Int.reduceLT,Int.reduceLE,Nat.reduceLT,tiA,tiXA, c0, e1]
  refine ACalls.mono (breaks_c n x ll H1 (by omega) hxg hl fun i hi => (hfr i (by omega)).1) ?_
  intro u H2 o2
  have hu := o2.one 0 rfl
  refine Holds.mp ?_
  try simp (disch := first | omega | (simp only [za1, List.length_replicate, List.length_set, za8] <;> omega)) only [Sall,evalOp,init,binA_s,binE,binI,unE,convE,okNil,builtE,gv,TD.isAgg,resV,↓reduceIte,Nat.reduceEqDiff,reduceCtorEq,Nat.reduceAdd,Nat.reduceMul,Nat.reduceLeDiff,za0,za2,Int.reduceEq,Int.reduceLT,Int.reduceLE,Nat.reduceLT,tiA,tiXA, hu]
  have e : (bkL n ll).length = n := by unfold bkL; rw [List.length_map, List.length_range]
  rw [e]
  exact ⟨u, rfl, (o1.call o2).only 1 rfl⟩
theorem specBreaksOf_c (q : Int) (v : Value) (k : Nat) (l : List Int) (x : Value) (ll : List (List Int)) (H : AH)
    (hv : Rd 14 H v k l) (hk : k ≤ 4294967296) (hx : Rd2 1 H x ll) (hl : ll.length ≤ 4194304) (hl2 : ∀ y ∈ ll, y.length ≤ 4194304) :
    ACalls Tryz.prog 25 [.agg #[.int .i64 q, v], x] H (fun r H' => ∃ u, r = .tuple #[u, .int .i64 (codeV q k l ll true)] ∧ Ow H H' [.sl 1 2 u (brkR q k l ll).length (ints (brkR q k l ll))]) := by
  refine ACalls.wf (by kernel_rfl) fun hs => za3 [.tmp 4, .tmp 5] Tryz.func25 (by kernel_rfl) rfl rfl (Nat.le_of_ble_eq_true rfl) (by kernel_rfl) ?_
  have hone := hv.one
  have o1 := (Ow.refl hs).push ⟨26, true, [.int .i64 q, v]⟩
  try simp (disch := first | omega | (simp only [za1, List.length_replicate, List.length_set, za8] <;> omega)) only [Sall,evalOp,init,binA_s,binE,binI,unE,convE,okNil,builtE,gv,TD.isAgg,resV,↓reduceIte,Nat.reduceEqDiff,reduceCtorEq,Nat.reduceAdd,Nat.reduceMul,Nat.reduceLeDiff,za0,za2,Int.reduceEq,Int.reduceLT,Int.reduceLE,Nat.reduceLT,tiA,tiXA, hone]
  obtain ⟨pi, epi⟩ : ∃ pi, pi = H.next := ⟨_, rfl⟩
  rw [← epi] at o1 ⊢
  revert o1
  generalize H.push ⟨26, true, [.int .i64 q, v]⟩ = H1
  intro o1
  have e1 := (o1.rowAt 0 rfl).1
  have hv1 := hv.same (o1.old hs)
  have hxg := hx.same (o1.old hs)
  refine (l05Code_c q v k l x ll H1 hv1 hk hxg hl hl2).to ?_
  refine Holds.mp ?_
  unfold brkR
  rcases zd1 q k l ll true with hC | hC
  rotate_left
  · rw [if_neg (bne_iff_ne.1 hC)]
    try simp (disch := first | omega | (simp only [za1, List.length_replicate, List.length_set, za8] <;> omega)) only [Sall,evalOp,init,binA_s,binE,binI,unE,convE,okNil,builtE,gv,TD.isAgg,resV,↓reduceIte,Nat.reduceEqDiff,reduceCtorEq,Nat.reduceAdd,Nat.reduceMul,Nat.reduceLeDiff,za0,za2,Int.reduceEq,Int.reduceLT,Int.reduceLE,Nat.reduceLT,tiA,tiXA, hC]
    exact ⟨_, rfl, (o1.addNil 1 2).only 1 rfl⟩
  rw [if_pos hC, hC]
  obtain ⟨hb, hf, _, hvn⟩ := codeV_zero.1 hC
  obtain ⟨⟨hq2, hq14⟩, hk40, _⟩ := zaT hb
  obtain ⟨hlk, hfr⟩ := zd9 hf
  obtain ⟨n, rfl⟩ : ∃ n : Nat, q = n := ⟨q.toNat, by omega⟩
  rw [Int.toNat_natCast] at hf hfr hvn ⊢
  have c0 : ((0 : Int) != 0) = false := rfl
  try simp (disch := first | omega | (simp only [za1, List.length_replicate, List.length_set, za8] <;> omega)) only [Sall,evalOp,init,binA_s,binE,binI,unE,convE,okNil,builtE,gv,TD.isAgg,resV,↓reduceIte,Nat.reduceEqDiff,reduceCtorEq,Nat.reduceAdd,Nat.reduceMul,Nat.reduceLeDiff,za0,za2,Int.reduceEq,Int.reduceLT,Int.reduceLE,Nat.reduceLT,tiA,tiXA, c0, e1]
  refine ACalls.mono (zeZ n x ll H1 (by omega) hxg hl fun i hi => (hfr i (by omega)).1) ?_
  intro u H2 o2
  have hu := o2.one 0 rfl
  refine Holds.mp ?_
  try simp (disch := first | omega | (simp only [za1, List.length_replicate, List.length_set, za8] <;> omega)) only [Sall,evalOp,init,binA_s,binE,binI,unE,convE,okNil,builtE,gv,TD.isAgg,resV,↓reduceIte,Nat.reduceEqDiff,reduceCtorEq,Nat.reduceAdd,Nat.reduceMul,Nat.reduceLeDiff,za0,za2,Int.reduceEq,Int.reduceLT,Int.reduceLE,Nat.reduceLT,tiA,tiXA, hu]
  have e : (bkL n ll).length = n := by unfold bkL; rw [List.length_map, List.length_range]
  rw [e]
  exact ⟨u, rfl, (o1.call o2).only 1 rfl⟩
end Go.Proofs.YtemgclojolmhbaaGreat.A
end

section
namespace Go.Abs
open Go Go.RowKit
theorem venS_ext {n k : Nat} {l : List Int} (hr : ∀ i, i < k → RndOk n (rnd l i)) {V W : List (List Int)} (hV : VSeq n k l V) (hW : VSeq n k l W) (bits : Nat) : venS l (gmAll n l k) V bits (gmAll n l k).length = venS l (gmAll n l k) W bits (gmAll n l k).length := by
  have hS := zcT hr hV bits _ (Nat.le_refl (gmAll n l k).length)
  have hA := zgE hr hV bits _ (Nat.le_refl (gmAll n l k).length)
  have hS' := zcT hr hW bits _ (Nat.le_refl (gmAll n l k).length)
  have hA' := zgE hr hW bits _ (Nat.le_refl (gmAll n l k).length)
  apply List.ext_getElem (by rw [hS.len, hS'.len])
  intro i h1 h2
  have hi : i < k := by rw [hS'.len] at h2; exact h2
  have e1 : (venS l (gmAll n l k) V bits (gmAll n l k).length)[i] = (venS l (gmAll n l k) V bits (gmAll n l k).length).getD i [] := by rw [List.getD_eq_getElem?_getD, List.getElem?_eq_getElem h1]; rfl
  have e2 : (venS l (gmAll n l k) W bits (gmAll n l k).length)[i] = (venS l (gmAll n l k) W bits (gmAll n l k).length).getD i [] := by rw [List.getD_eq_getElem?_getD, List.getElem?_eq_getElem h2]; rfl
  rw [e1, e2]
  refine zgZ (hr i hi) (hS.row i hi) (hS'.row i hi) fun a ha hlt => ?_
  have hm : (i, a) ∈ gmAll n l k := (zcA k).2 ⟨hi, ha, hlt⟩
  obtain ⟨u, hu, eu⟩ := List.mem_iff_getElem.1 hm
  have eg : (gmAll n l k).getD u (0, 0) = (i, a) := by rw [List.getD_eq_getElem?_getD, List.getElem?_eq_getElem hu, ← eu]; rfl
  have h3 := hA u hu
  have h4 := hA' u hu
  rw [eg] at h3 h4
  rw [h3, h4]
def gm3 (l : List Int) (p : Nat × Nat) : List Int := [(p.1 : Int), (p.2 : Int), (rnd l p.1).getD p.2 0]
theorem zeV {α : Type} (f : α → List Int) (h : ∀ x, (f x).length = 3) : ∀ L : List α, (L.flatMap f).length = L.length * 3
  | [] => rfl
  | x :: L => by rw [List.flatMap_cons, List.length_append, h, zeV f h L, List.length_cons]; omega
theorem flat3_at {α : Type} (f : α → List Int) (h : ∀ x, (f x).length = 3) (d : α) : ∀ (L : List α) (t : Nat), t < L.length → ((L.flatMap f).drop (t * 3)).take 3 = f (L.getD t d)
  | x :: L, 0, _ => by
    rw [List.flatMap_cons, Nat.zero_mul, List.drop_zero, List.take_append_of_le_length (by rw [h]; omega), List.take_of_length_le (by rw [h]; omega)]
    rfl
  | x :: L, t + 1, ht => by
    rw [List.flatMap_cons, List.drop_append, h, List.drop_eq_nil_of_le (by rw [h]; omega), List.nil_append, show (t + 1) * 3 - 3 = t * 3 by omega, flat3_at f h d L t (by simp at ht; omega)]
    rfl
theorem zgI (l : List Int) (p : Nat × Nat) : (gm3 l p).length = 3 := rfl
theorem gmR_take (n : Nat) (l : List Int) (i t : Nat) (h : t < (pairsL (rnd l i) n).length) :
    ((gmR n l i).take (t + 1)).flatMap (gm3 l) = ((gmR n l i).take t).flatMap (gm3 l) ++ [(i : Int), ((pairsL (rnd l i) n).getD t []).getD 0 0, ((pairsL (rnd l i) n).getD t []).getD 1 0] := by
  have hl : t < (gmR n l i).length := by rw [zcQ]; exact h
  rw [List.take_add_one, List.getElem?_eq_getElem hl, List.flatMap_append]
  congr 1
  show gm3 l (gmR n l i)[t] ++ [] = _
  rw [List.append_nil]
  unfold gmR pairsL at *
  rw [List.getD_eq_getElem?_getD (l := List.map _ _), List.getElem?_eq_getElem h]
  simp only [List.getElem_map, Option.getD_some]
  rfl
theorem zcU (n : Nat) (l : List Int) (i : Nat) : gmAll n l (i + 1) = gmAll n l i ++ gmR n l i := rfl
theorem zb1 {α : Type} {L : List α} {t : Nat} {d : α} (h : t < L.length) : L.getD t d ∈ L := by
  rw [List.getD_eq_getElem?_getD, List.getElem?_eq_getElem h]; exact List.getElem_mem _
/-! ### Shifts -/
theorem shl_one {g : Nat} (h : g ≤ 15) : IntKind.i64.wrap (1 * 2 ^ (min ((g : Int)).toNat IntKind.i64.bits)) = ((2 ^ g : Nat) : Int) := by
  have : ∀ g : Fin 16, IntKind.i64.wrap (1 * 2 ^ (min (((g.val : Nat) : Int)).toNat IntKind.i64.bits)) = ((2 ^ g.val : Nat) : Int) := by decide
  exact this ⟨g, by omega⟩
theorem shr_nat {b t : Nat} (h : t ≤ 15) : ((b : Int)).fdiv (2 ^ (min ((t : Int)).toNat IntKind.i64.bits)) = ((b / 2 ^ t : Nat) : Int) := by
  rw [Int.toNat_natCast, Nat.min_eq_left (show t ≤ IntKind.i64.bits by show t ≤ 64; omega)]
  rw [show ((2 : Int) ^ t) = ((2 ^ t : Nat) : Int) by simp, Int.fdiv_eq_ediv_of_nonneg _ (Int.natCast_nonneg _)]
  rfl
theorem and_one {x : Nat} (h : x < 65536) : IntKind.i64.wrap ((BitVec.ofInt IntKind.i64.bits (x : Int) &&& BitVec.ofInt IntKind.i64.bits 1).toNat : Int) = ((x % 2 : Nat) : Int) := by
  have e1 : (BitVec.ofInt IntKind.i64.bits (x : Int) &&& BitVec.ofInt IntKind.i64.bits 1).toNat = x % 2 := by
    show (BitVec.ofInt 64 (x : Int) &&& BitVec.ofInt 64 1).toNat = x % 2
    rw [BitVec.toNat_and]
    have h1 : (BitVec.ofInt 64 (x : Int)).toNat = x := by
      rw [BitVec.toNat_ofInt]; omega
    have h2 : (BitVec.ofInt 64 1).toNat = 1 := by decide
    rw [h1, h2, Nat.and_one_is_mod]
  rw [e1]
  rw [IntKind.wrap_i64]
  omega
end Go.Abs
end

section
namespace Go.Abs
theorem zdZ {n : Nat} {mt : Nat → Nat → Bool} (hn : n ≤ 14) : ∀ (f : Nat) (now : List Int) (a : Nat), now.length = 14 → ∀ z ∈ matF n mt f now a, z.length = 14 ∧ ∀ x, now.getD x 0 ≠ (x : Int) → z.getD x 0 = now.getD x 0
  | 0, now, a, hl, z, hz => by simp [matF] at hz
  | f + 1, now, a, hl, z, hz => by
    unfold matF at hz
    split at hz
    · rw [List.mem_singleton] at hz; subst hz; exact ⟨hl, fun x _ => rfl⟩
    · rename_i hc
      obtain ⟨c, ec⟩ : ∃ c, c = fstF now (n - a) a := ⟨_, rfl⟩
      rw [← ec] at hz hc
      rw [List.mem_flatMap] at hz
      obtain ⟨b, hb, hz⟩ := hz
      rw [List.mem_range'] at hb
      obtain ⟨i, hi, eb⟩ := hb
      unfold matB at hz
      split at hz
      · simp at hz
      · rename_i hm
        have hbb : now.getD b 0 = (b : Int) := by
          apply Classical.byContradiction
          intro h; exact hm (.inl h)
        obtain ⟨k1, k2⟩ := zdZ hn f (meetN now c b) (c + 1) (by rw [zb8, hl]) z hz
        have hcc : now.getD c 0 = (c : Int) := by
          have h1 := zf9 now (n - a) a
          by_cases e : fstF now (n - a) a < a + (n - a)
          · have := ze4 now (n - a) a e
            rw [← ec] at this
            exact this
          · omega
        refine ⟨k1, fun x hx => ?_⟩
        have hg := zcL hl (a := c) (b := b) (by omega) (by omega) x
        have hne : (meetN now c b).getD x 0 = now.getD x 0 := by
          rw [hg, if_neg (by rintro rfl; exact hx hbb), if_neg (by rintro rfl; exact hx hcc)]
        rw [k2 x (by rw [hne]; exact hx), hne]
def frF (r : List Int) : Nat → Nat → Nat
  | 0, a => a
  | d + 1, a => if r.getD a 0 < 0 then a else frF r d (a + 1)
def fillF (n : Nat) (mt : Nat → Nat → Bool) (row : List Int) : Nat → List Int → Nat → List (List Int)
  | 0, _, _ => []
  | f + 1, r, a => if frF r (n - a) a = n then [r] else
    (List.range' (frF r (n - a) a + 1) (n - (frF r (n - a) a + 1))).flatMap fun b => if 0 ≤ r.getD b 0 ∨ mt (frF r (n - a) a) b = true ∨ row.getD (frF r (n - a) a) 0 + row.getD b 0 ≠ 1 then [] else fillF n mt row f (meetN r (frF r (n - a) a) b) (frF r (n - a) a + 1)
structure RelR (n a : Nat) (row r now : List Int) : Prop where
  l1 : r.length = 14
  l2 : now.length = 14
  at' : ∀ x, x < n → (r.getD x 0 < 0 ∧ now.getD x 0 = (x : Int)) ∨ (0 ≤ r.getD x 0 ∧ r.getD x 0 = now.getD x 0 ∧ now.getD x 0 ≠ (x : Int) ∧ now.getD x 0 < (n : Int) ∧ row.getD x 0 + row.getD (now.getD x 0).toNat 0 = 1)
  up : ∀ x, n ≤ x → r.getD x 0 = now.getD x 0
  done : ∀ x, x < a → x < n → 0 ≤ r.getD x 0
theorem frF_eq {n a : Nat} {row r now : List Int} (h : RelR n a row r now) : ∀ d b, b + d ≤ n → frF r d b = fstF now d b
  | 0, b, _ => rfl
  | d + 1, b, hb => by
    unfold frF fstF
    have h1 := h.at' b (by omega)
    rw [frF_eq h d (b + 1) (by omega)]
    by_cases e : r.getD b 0 < 0
    · rw [if_pos e, if_pos]
      rcases h1 with h1 | h1
      · exact h1.2
      · omega
    · rw [if_neg e, if_neg]
      rcases h1 with h1 | h1
      · exact absurd h1.1 e
      · exact h1.2.2.1
def fitB (n : Nat) (row z : List Int) : Bool := (List.range n).all fun x => decide (row.getD x 0 + row.getD (z.getD x 0).toNat 0 = 1)
theorem fill_eq {n : Nat} {mt : Nat → Nat → Bool} {row : List Int} (hn : n ≤ 14) : ∀ (f : Nat) (r now : List Int) (a : Nat), a ≤ n → RelR n a row r now → fillF n mt row f r a = (matF n mt f now a).filter (fitB n row)
  | 0, r, now, a, ha, h => rfl
  | f + 1, r, now, a, ha, h => by
    unfold fillF matF
    rw [frF_eq h (n - a) a (by omega)]
    have hge := zf9 now (n - a) a
    have hmet := zi4 now (n - a) a
    have hfree := ze4 now (n - a) a
    generalize fstF now (n - a) a = c at *
    by_cases hc : c = n
    · rw [if_pos hc, if_pos hc]
      have e : r = now := by
        refine list14 h.l1 h.l2 fun x hx => ?_
        by_cases hxn : x < n
        · have h1 := h.at' x hxn
          rcases h1 with h1 | h1
          · exfalso
            by_cases hxa : x < a
            · have := h.done x hxa hxn; omega
            · exact hmet x (by omega) (by omega) h1.2
          · exact h1.2.1
        · exact h.up x (by omega)
      have hfit : fitB n row now = true := by
        unfold fitB
        rw [List.all_eq_true]
        intro x hx
        rw [List.mem_range] at hx
        rw [decide_eq_true_iff]
        rcases h.at' x hx with h1 | h1
        · rw [e] at h1; omega
        · exact h1.2.2.2.2
      rw [List.filter_cons_of_pos hfit, e]; rfl
    · rw [if_neg hc, if_neg hc, List.filter_flatMap]
      have hcn : c < n := by omega
      have hcc := hfree (by omega)
      have hrc : r.getD c 0 < 0 := by
        rcases h.at' c hcn with h1 | h1
        · exact h1.1
        · exact absurd hcc h1.2.2.1
      rw [List.flatMap_def, List.flatMap_def]
      congr 1
      refine List.map_congr_left fun b hb => ?_
      rw [List.mem_range'] at hb
      obtain ⟨i, hi, eb⟩ := hb
      have hbn : b < n := by omega
      unfold matB
      by_cases hm : now.getD b 0 ≠ (b : Int) ∨ mt c b = true
      · rw [if_pos hm, List.filter_nil, if_pos]
        rcases hm with hm | hm
        · rcases h.at' b hbn with h1 | h1
          · exact absurd h1.2 hm
          · exact .inl h1.1
        · exact .inr (.inl hm)
      · rw [if_neg hm]
        have hbb : now.getD b 0 = (b : Int) := by
          apply Classical.byContradiction
          intro h; exact hm (.inl h)
        have hrb : r.getD b 0 < 0 := by
          rcases h.at' b hbn with h1 | h1
          · exact h1.1
          · exact absurd hbb h1.2.2.1
        have hg : ∀ x, (meetN now c b).getD x 0 = if x = b then (c : Int) else if x = c then (b : Int) else now.getD x 0 := fun x => zcL h.l2 (by omega) (by omega) x
        have hg2 : ∀ x, (meetN r c b).getD x 0 = if x = b then (c : Int) else if x = c then (b : Int) else r.getD x 0 := fun x => zcL h.l1 (by omega) (by omega) x
        by_cases hs : row.getD c 0 + row.getD b 0 = 1
        · rw [if_neg (by rintro (h1 | h1 | h1); omega; exact hm (.inr h1); exact h1 hs)]
          refine fill_eq hn f _ _ (c + 1) (by omega) ⟨by rw [zb8, h.l1], by rw [zb8, h.l2], fun x hx => ?_, fun x hx => ?_, fun x h1 h2 => ?_⟩
          · rw [hg, hg2]
            by_cases e1 : x = b
            · subst e1
              right
              rw [if_pos rfl, if_pos rfl]
              exact ⟨by omega, rfl, by omega, by omega, by rw [Int.toNat_natCast]; omega⟩
            · by_cases e2 : x = c
              · subst e2
                right
                rw [if_neg e1, if_neg e1, if_pos rfl, if_pos rfl]
                exact ⟨by omega, rfl, by omega, by omega, by rw [Int.toNat_natCast]; exact hs⟩
              · rw [if_neg e1, if_neg e1, if_neg e2, if_neg e2]
                exact h.at' x hx
          · rw [hg, hg2, if_neg (by omega), if_neg (by omega), if_neg (by omega), if_neg (by omega)]
            exact h.up x hx
          · rw [hg2]
            by_cases e1 : x = b
            · rw [if_pos e1]; omega
            · rw [if_neg e1]
              by_cases e2 : x = c
              · rw [if_pos e2]; omega
              · rw [if_neg e2]
                rcases h.at' x h2 with h3 | h3
                · exfalso
                  by_cases hxa : x < a
                  · have := h.done x hxa h2; omega
                  · exact hmet x (by omega) (by omega) h3.2
                · exact h3.1
        · rw [if_pos (.inr (.inr hs))]
          symm
          rw [List.filter_eq_nil_iff]
          intro z hz hfit
          obtain ⟨_, k2⟩ := zdZ hn f (meetN now c b) (c + 1) (by rw [zb8, h.l2]) z hz
          have hzc := k2 c (by rw [hg, if_neg (by omega), if_pos rfl]; omega)
          rw [hg, if_neg (by omega), if_pos rfl] at hzc
          unfold fitB at hfit
          rw [List.all_eq_true] at hfit
          have := of_decide_eq_true (hfit c (List.mem_range.2 hcn))
          rw [hzc, Int.toNat_natCast] at this
          exact hs this
end Go.Abs
end

section
namespace Go.Abs
end Go.Abs
end

section
namespace Go.Abs
def freP (n : Int) : List Int := (List.range 14).map fun (a : Nat) => if (a : Int) < n then (a : Int) else 0
theorem zcH (n : Int) : (freP n).length = 14 := by simp [freP]
def metR (D : List (List Int)) (a b : Nat) : Bool := D.any fun r => r.getD a 0 == (b : Int)
def fitL (n : Nat) (rows : List (List Int)) (D : List (List Int)) : List (List Int) := (matF n (metR D) (n + 1) (freP n) 0).filter (fitB n (rows.getD D.length []))
def fitP (n : Nat) (rows : List (List Int)) : Nat → List (List Int) → Option (List (List Int))
  | 0, D => some D
  | d + 1, D => (fitL n rows D).findSome? fun r => fitP n rows d (D ++ [r])
def fitI (n : Nat) (rows : List (List Int)) : Nat → List (List Int) → Option (List (List Int))
  | 0, _ => some []
  | d + 1, D => (matF n (metR D) (n + 1) (freP n) 0).findSome? fun r => if fitB n (rows.getD D.length []) r = true then (fitI n rows d (D ++ [r])).map (r :: ·) else none
theorem zcF {α β : Type} (p : α → Bool) (F : α → Option β) : ∀ L : List α, (L.filter p).findSome? F = L.findSome? fun x => if p x = true then F x else none
  | [] => rfl
  | x :: L => by
    rw [List.findSome?_cons]
    by_cases h : p x = true
    · rw [List.filter_cons_of_pos h, List.findSome?_cons, if_pos h, zcF p F L]
    · rw [List.filter_cons_of_neg h, if_neg h, zcF p F L]
theorem zeF {α β γ : Type} (F : α → Option β) (h : β → γ) : ∀ L : List α, (L.findSome? F).map h = L.findSome? fun x => (F x).map h
  | [] => rfl
  | x :: L => by
    rw [List.findSome?_cons, List.findSome?_cons]
    cases F x with
    | none => exact zeF F h L
    | some b => rfl
theorem fit_eq (n : Nat) (rows : List (List Int)) : ∀ d D, fitP n rows d D = (fitI n rows d D).map (D ++ ·)
  | 0, D => by show some D = some (D ++ []); rw [List.append_nil]
  | d + 1, D => by
    show (fitL n rows D).findSome? (fun r => fitP n rows d (D ++ [r])) = Option.map _ ((matF n (metR D) (n + 1) (freP n) 0).findSome? _)
    unfold fitL
    rw [zcF, zeF]
    congr 1
    funext r
    by_cases h : fitB n (rows.getD D.length []) r = true
    · rw [if_pos h, if_pos h, fit_eq n rows d (D ++ [r])]
      cases fitI n rows d (D ++ [r]) with
      | none => rfl
      | some X => show some (D ++ [r] ++ X) = some (D ++ (r :: X)); rw [List.append_assoc]; rfl
    · rw [if_neg h, if_neg h]; rfl
structure RdE (n : Nat) (mt : Nat → Nat → Bool) (row r : List Int) : Prop where
  ok : roundB n r = true
  fit : ∀ a, a < n → row.getD a 0 + row.getD (r.getD a 0).toNat 0 = 1
  new : ∀ a, a < n → r.getD a 0 ≠ (a : Int) → mt a (r.getD a 0).toNat = false
theorem zh1 {n : Nat} {mt : Nat → Nat → Bool} (hn : n ≤ 14) (hsy : ∀ a b, mt a b = mt b a) : ∀ (f : Nat) (now : List Int) (a : Nat), now.length = 14 → (∀ x, x < n → 0 ≤ now.getD x 0 ∧ now.getD x 0 < (n : Int) ∧ now.getD (now.getD x 0).toNat 0 = (x : Int) ∧ (now.getD x 0 ≠ (x : Int) → mt x (now.getD x 0).toNat = false)) → (∀ x, n ≤ x → x < 14 → now.getD x 0 = 0) →
    ∀ z ∈ matF n mt f now a, z.length = 14 ∧ (∀ x, x < n → 0 ≤ z.getD x 0 ∧ z.getD x 0 < (n : Int) ∧ z.getD (z.getD x 0).toNat 0 = (x : Int) ∧ (z.getD x 0 ≠ (x : Int) → mt x (z.getD x 0).toNat = false)) ∧ ∀ x, n ≤ x → x < 14 → z.getD x 0 = 0
  | 0, now, a, hl, h, hu, z, hz => by simp [matF] at hz
  | f + 1, now, a, hl, h, hu, z, hz => by
    unfold matF at hz
    split at hz
    · rw [List.mem_singleton] at hz; subst hz; exact ⟨hl, h, hu⟩
    · rename_i hc
      have hge := zf9 now (n - a) a
      have hfree := ze4 now (n - a) a
      generalize fstF now (n - a) a = c at *
      rw [List.mem_flatMap] at hz
      obtain ⟨b, hb, hz⟩ := hz
      rw [List.mem_range'] at hb
      obtain ⟨i, hi, eb⟩ := hb
      have hcn : c < n := by omega
      have hbn : b < n := by omega
      have hcc := hfree (by omega)
      unfold matB at hz
      split at hz
      · simp at hz
      · rename_i hm
        have hbb : now.getD b 0 = (b : Int) := by
          apply Classical.byContradiction
          intro h; exact hm (.inl h)
        have hmt : mt c b = false := by
          cases e : mt c b with
          | false => rfl
          | true => exact absurd (.inr e) hm
        have hg : ∀ x, (meetN now c b).getD x 0 = if x = b then (c : Int) else if x = c then (b : Int) else now.getD x 0 := fun x => zcL hl (by omega) (by omega) x
        refine zh1 hn hsy f (meetN now c b) (c + 1) (by rw [zb8, hl]) (fun x hx => ?_) (fun x h1 h2 => ?_) z hz
        · obtain ⟨h1, h2, h3, h4⟩ := h x hx
          rw [hg]
          by_cases e1 : x = b
          · subst e1
            rw [if_pos rfl, Int.toNat_natCast, hg, if_neg (by omega), if_pos rfl]
            exact ⟨by omega, by omega, rfl, fun _ => by rw [hsy]; exact hmt⟩
          · rw [if_neg e1]
            by_cases e2 : x = c
            · subst e2
              rw [if_pos rfl, Int.toNat_natCast, hg, if_pos rfl]
              exact ⟨by omega, by omega, rfl, fun _ => hmt⟩
            · rw [if_neg e2, hg, if_neg (fun e => by rw [e, hbb] at h3; omega), if_neg (fun e => by rw [e, hcc] at h3; omega)]
              exact ⟨h1, h2, h3, h4⟩
        · rw [hg, if_neg (by omega), if_neg (by omega)]; exact hu x h1 h2
theorem zg7 (n : Nat) {x : Nat} (hx : x < 14) : (freP (n : Int)).getD x 0 = if x < n then (x : Int) else 0 := by
  unfold freP
  rw [List.getD_eq_getElem?_getD, List.getElem?_map, List.getElem?_range hx]
  show (if (x : Int) < (n : Int) then (x : Int) else 0) = _
  by_cases h : x < n
  · rw [if_pos h, if_pos (by omega)]
  · rw [if_neg h, if_neg (by omega)]
theorem fitL_mem {n : Nat} {rows D : List (List Int)} (hn : 2 ≤ n ∧ n ≤ 14) (hD : ∀ r ∈ D, roundB n r = true) {r : List Int} (h : r ∈ fitL n rows D) : roundB n r = true ∧ (∀ a, a < n → (rows.getD D.length []).getD a 0 + (rows.getD D.length []).getD (r.getD a 0).toNat 0 = 1) ∧ ∀ a, a < n → r.getD a 0 ≠ (a : Int) → ∀ y ∈ D, y.getD a 0 ≠ r.getD a 0 := by
  unfold fitL at h
  rw [List.mem_filter] at h
  obtain ⟨h1, h2⟩ := h
  have hsy : ∀ a b, (fun a b => decide (a < n ∧ b < n) && metR D a b) a b = (fun a b => decide (a < n ∧ b < n) && metR D a b) b a := fun a b => by
    show (decide (a < n ∧ b < n) && metR D a b) = (decide (b < n ∧ a < n) && metR D b a)
    by_cases hab : a < n ∧ b < n
    · rw [decide_eq_true hab, decide_eq_true ⟨hab.2, hab.1⟩, Bool.true_and, Bool.true_and]
      unfold metR
      rw [Bool.eq_iff_iff, List.any_eq_true, List.any_eq_true]
      constructor
      · rintro ⟨y, hy, e⟩
        rw [beq_iff_eq] at e
        obtain ⟨_, _, _, g3⟩ := zbR (hD y hy) (a := a) (by omega)
        rw [e, Int.toNat_natCast] at g3
        exact ⟨y, hy, beq_iff_eq.2 g3⟩
      · rintro ⟨y, hy, e⟩
        rw [beq_iff_eq] at e
        obtain ⟨_, _, _, g3⟩ := zbR (hD y hy) (a := b) (by omega)
        rw [e, Int.toNat_natCast] at g3
        exact ⟨y, hy, beq_iff_eq.2 g3⟩
    · rw [decide_eq_false hab, decide_eq_false (fun h => hab ⟨h.2, h.1⟩)]; rfl
  have hcong : ∀ (f : Nat) (now : List Int) (a : Nat), matF n (metR D) f now a = matF n (fun a b => decide (a < n ∧ b < n) && metR D a b) f now a := by
    intro f
    induction f with
    | zero => intro now a; rfl
    | succ f ih =>
      intro now a
      unfold matF
      have hge := zf9 now (n - a) a
      split
      · rfl
      · rename_i hc
        rw [List.flatMap_def, List.flatMap_def]
        congr 1
        refine List.map_congr_left fun b hb => ?_
        rw [List.mem_range'] at hb
        obtain ⟨i, hi, eb⟩ := hb
        unfold matB
        rw [ih]
        show (if now.getD b 0 ≠ (b : Int) ∨ metR D (fstF now (n - a) a) b = true then [] else _) = (if now.getD b 0 ≠ (b : Int) ∨ (decide (fstF now (n - a) a < n ∧ b < n) && metR D (fstF now (n - a) a) b) = true then [] else _)
        rw [decide_eq_true (show fstF now (n - a) a < n ∧ b < n by omega), Bool.true_and]
  rw [hcong] at h1
  obtain ⟨z1, z2, z3⟩ := zh1 hn.2 hsy (n + 1) (freP n) 0 (zcH n) (fun x hx => by
    rw [zg7 n (by omega), if_pos hx, Int.toNat_natCast, zg7 n (by omega), if_pos hx]
    exact ⟨by omega, by omega, rfl, fun h => absurd rfl h⟩) (fun x h1 h2 => by rw [zg7 n h2, if_neg (by omega)]) r h1
  refine ⟨?_, fun a ha => ?_, fun a ha hne y hy e => ?_⟩
  · refine zdH ⟨by omega, by omega⟩ fun x hx => ?_
    unfold okAt
    by_cases hxn : x < n
    · obtain ⟨g1, g2, g3, _⟩ := z2 x hxn
      rw [if_neg (by omega), g3, decide_eq_true (by omega), Bool.true_and]
      exact beq_self_eq_true _
    · rw [if_pos (by omega), z3 x (by omega) hx]; rfl
  · unfold fitB at h2
    rw [List.all_eq_true] at h2
    exact of_decide_eq_true (h2 a (List.mem_range.2 ha))
  · obtain ⟨g1, g2, g3, g4⟩ := z2 a ha
    have h5 := g4 hne
    rw [decide_eq_true (show a < n ∧ (r.getD a 0).toNat < n by omega), Bool.true_and] at h5
    unfold metR at h5
    rw [List.any_eq_false] at h5
    apply h5 y hy
    rw [beq_iff_eq, e]; omega
structure FndR (n : Nat) (rows D : List (List Int)) : Prop where
  ok : ∀ i, i < D.length → roundB n (D.getD i []) = true
  fit : ∀ i, i < D.length → ∀ a, a < n → (rows.getD i []).getD a 0 + (rows.getD i []).getD ((D.getD i []).getD a 0).toNat 0 = 1
  new : ∀ i j, i < j → j < D.length → ∀ a, a < n → (D.getD i []).getD a 0 ≠ (D.getD j []).getD a 0
theorem FndR.self {n : Nat} {rows D : List (List Int)} (h : FndR n rows D) {i : Nat} (hi : i < D.length) {a : Nat} (ha : a < n) : (D.getD i []).getD a 0 ≠ (a : Int) := fun e => by
  have h1 := h.fit i hi a ha
  rw [e, Int.toNat_natCast] at h1
  omega
theorem fitP_ok {n : Nat} {rows : List (List Int)} (hn : 2 ≤ n ∧ n ≤ 14) : ∀ d D X, FndR n rows D → fitP n rows d D = some X → X.length = D.length + d ∧ FndR n rows X
  | 0, D, X, h, e => by
    have : D = X := by simpa [fitP] using e
    subst this; exact ⟨rfl, h⟩
  | d + 1, D, X, h, e => by
    unfold fitP at e
    obtain ⟨r, hr, er⟩ := List.exists_of_findSome?_eq_some e
    obtain ⟨f1, f2, f3⟩ := fitL_mem hn (fun y hy => by
      obtain ⟨i, hi, rfl⟩ := List.mem_iff_getElem.1 hy
      have := h.ok i hi
      rw [List.getD_eq_getElem?_getD, List.getElem?_eq_getElem hi] at this
      exact this) hr
    have g1 : ∀ i, i < D.length → (D ++ [r]).getD i [] = D.getD i [] := fun i hi => by
      rw [List.getD_eq_getElem?_getD, List.getElem?_append_left hi, ← List.getD_eq_getElem?_getD]
    have g2 : (D ++ [r]).getD D.length [] = r := by
      rw [List.getD_eq_getElem?_getD, List.getElem?_append_right (Nat.le_refl _), Nat.sub_self]; rfl
    have hself : ∀ a, a < n → r.getD a 0 ≠ (a : Int) := fun a ha e => by
      have h1 := f2 a ha
      rw [e, Int.toNat_natCast] at h1
      omega
    have hF : FndR n rows (D ++ [r]) := by
     refine ⟨fun i hi => ?_, fun i hi => ?_, fun i j hij hj a ha => ?_⟩
     · rw [List.length_append, List.length_singleton] at hi
       by_cases e : i < D.length
       · rw [g1 i e]; exact h.ok i e
       · rw [show i = D.length by omega, g2]; exact f1
     · rw [List.length_append, List.length_singleton] at hi
       by_cases e : i < D.length
       · rw [g1 i e]; exact h.fit i e
       · rw [show i = D.length by omega, g2]; exact f2
     · rw [List.length_append, List.length_singleton] at hj
       by_cases e : j < D.length
       · rw [g1 i (by omega), g1 j e]; exact h.new i j hij e a ha
       · rw [show j = D.length by omega, g2, g1 i (by omega)]
         have hm : D.getD i [] ∈ D := by
           rw [List.getD_eq_getElem?_getD, List.getElem?_eq_getElem (by omega)]; exact List.getElem_mem _
         exact f3 a ha (hself a ha) _ hm
    obtain ⟨i1, i2⟩ := fitP_ok hn d (D ++ [r]) X hF er
    rw [List.length_append, List.length_singleton] at i1
    exact ⟨by omega, i2⟩
theorem fndR_nil (n : Nat) (rows : List (List Int)) : FndR n rows [] := ⟨fun i h => by simp at h, fun i h => by simp at h, fun i j _ h => by simp at h⟩
theorem zfV {D : List (List Int)} (h : ∀ r ∈ D, r.length = 14) : ∀ i, i < D.length → rnd D.flatten i = D.getD i [] := by
  induction D with
  | nil => intro i hi; simp at hi
  | cons r D ih =>
    intro i hi
    have hr := h r (List.mem_cons_self ..)
    unfold rnd
    rw [List.flatten_cons]
    rcases i with _ | i
    · rw [Nat.zero_mul, List.drop_zero, List.take_left' hr]; rfl
    · rw [show (i + 1) * 14 = r.length + i * 14 by rw [hr]; omega, List.drop_append, List.drop_eq_nil_of_le (by omega), List.nil_append, Nat.add_sub_cancel_left]
      have := ih (fun y hy => h y (List.mem_cons_of_mem _ hy)) i (by simpa using hi)
      unfold rnd at this
      rw [this]; rfl
end Go.Abs
end

section
set_option maxRecDepth 100000
namespace Go.Abs
theorem zhN (l : List Int) (a : Nat) (b : Int) : ∀ m, (rbL l a b m).length = ((List.range m).map fun i => (rnd l i).getD a 0).count b
  | 0 => rfl
  | m + 1 => by
    rw [rbL_succ, List.length_append, zhN l a b m, List.range_succ, List.map_append, List.count_append]
    congr 1
    by_cases e : (rnd l m).getD a 0 = b
    · rw [if_pos e, List.map_singleton, e, List.count_singleton_self]; rfl
    · rw [if_neg e, List.map_singleton, List.count_singleton, if_neg (by rw [beq_iff_eq]; exact e)]; rfl
theorem others_one {n a : Nat} (ha : a < n) {y : List Int} (hl : y.length = n - 1) (hnd : y.Nodup) (h : ∀ x ∈ y, 0 ≤ x ∧ x < (n : Int) ∧ x ≠ (a : Int)) {b : Nat} (hb : b < n) (hab : a ≠ b) : y.count (b : Int) = 1 := by
  have hz : (((List.range n).filter fun (x : Nat) => decide (x ≠ a)).map fun (x : Nat) => (x : Int)).length = n - 1 := by
    rw [List.length_map]
    have : ∀ m, a < m → ((List.range m).filter fun (x : Nat) => decide (x ≠ a)).length = m - 1 := by
      intro m
      induction m with
      | zero => intro h; omega
      | succ m ih =>
        intro h
        rw [List.range_succ, List.filter_append, List.length_append]
        by_cases e : m = a
        · subst e
          rw [List.filter_eq_self.2 (fun x hx => by rw [List.mem_range] at hx; rw [decide_eq_true_iff]; omega), List.length_range]
          simp
        · rw [ih (by omega)]
          simp [e]
          omega
    exact this n ha
  have hp := zdY y (((List.range n).filter fun (x : Nat) => decide (x ≠ a)).map fun (x : Nat) => (x : Int)) hnd (fun x hx => by
    obtain ⟨h1, h2, h3⟩ := h x hx
    refine List.mem_map.2 ⟨x.toNat, List.mem_filter.2 ⟨List.mem_range.2 (by omega), by rw [decide_eq_true_iff]; omega⟩, by omega⟩) (by omega)
  rw [hnd.count, if_pos (hp.mem_iff.2 (List.mem_map.2 ⟨b, List.mem_filter.2 ⟨List.mem_range.2 hb, by rw [decide_eq_true_iff]; omega⟩, rfl⟩))]
theorem fnd_robin {n : Nat} (hn : 2 ≤ n ∧ n ≤ 14) (he : n % 2 = 0) {rows X : List (List Int)} (hX : FndR n rows X) (hl : X.length = n - 1) (h14 : ∀ r ∈ X, r.length = 14) : schedB n (n - 1) X.flatten = true ∧ robinB n (n - 1) X.flatten = true := by
  have hrn : ∀ i, i < n - 1 → rnd X.flatten i = X.getD i [] := fun i hi => zfV h14 i (by omega)
  have hro : ∀ i, i < n - 1 → roundB n (rnd X.flatten i) = true := fun i hi => by rw [hrn i hi]; exact hX.ok i (by omega)
  constructor
  · unfold schedB
    rw [decide_eq_true (by omega), decide_eq_true (by omega), Bool.true_and, Bool.true_and, List.all_eq_true]
    intro i hi
    exact hro i (List.mem_range.1 hi)
  · unfold robinB
    rw [Bool.and_eq_true]
    have hlen : (meetM n X.flatten (n - 1)).length = n := by simp [meetM]
    have hat : ∀ i, i < n → (meetM n X.flatten (n - 1)).getD i [] = rowM n X.flatten i (n - 1) := fun i hi => by
      unfold meetM
      rw [List.getD_eq_getElem?_getD, List.getElem?_map, List.getElem?_range hi]; rfl
    refine ⟨decide_eq_true (by omega), zhG fun i hi j hj => ?_⟩
    rw [hlen] at hi
    rw [hat i hi] at hj
    rw [zdG] at hj
    unfold balAt
    by_cases e : i = j
    · rw [decide_eq_true e, Bool.true_or]
    · rw [hat i hi, rowM_at hi hj e _ (by omega) hro, zhN]
      have h1 := others_one hi (y := (List.range (n - 1)).map fun t => (rnd X.flatten t).getD i 0) (by simp) (by
        rw [List.nodup_iff_pairwise_ne, List.pairwise_map]
        refine List.pairwise_lt_range.imp_of_mem fun {s t} hs ht hst => ?_
        rw [List.mem_range] at hs ht
        rw [hrn s hs, hrn t ht]
        exact hX.new s t hst (by omega) i hi) (fun x hx => by
        obtain ⟨t, ht, rfl⟩ := List.mem_map.1 hx
        rw [List.mem_range] at ht
        obtain ⟨_, g1, g2, _⟩ := zbR (hro t ht) (a := i) (by omega)
        refine ⟨g1, g2, ?_⟩
        rw [hrn t ht]
        exact hX.self (by omega) hi) hj e
      rw [h1]
      simp
theorem rndOk_of {n : Nat} {r : List Int} (h : roundB n r = true) : RndOk n r :=
  ⟨fun a ha => by obtain ⟨_, g1, g2, _⟩ := zbR h (a := a) (by omega); exact ⟨g1, g2⟩, fun a ha => by obtain ⟨_, _, _, g3⟩ := zbR h (a := a) (by omega); exact g3⟩
theorem zfJ {n k : Nat} {l : List Int} (h : schedB n k l = true) : ∀ i, i < k → RndOk n (rnd l i) := fun i hi => rndOk_of ((zaT h).2.2 i hi)
theorem fnd_venues {n : Nat} {rows X : List (List Int)} (hX : FndR n rows X) (hl : X.length = n - 1) (h14 : ∀ r ∈ X, r.length = 14) (hr : ∀ i, i < n - 1 → ∀ a, a < n → (rows.getD i []).getD a 0 = 0 ∨ (rows.getD i []).getD a 0 = 1) : vnB n (n - 1) X.flatten rows = true := by
  refine zfY fun i hi a ha => ?_
  rw [zfV h14 i (by omega)]
  unfold areC
  rw [if_neg (hX.self (by omega) ha), Bool.and_eq_true, decide_eq_true_iff, beq_iff_eq]
  have := hr i hi a ha
  exact ⟨by omega, hX.fit i (by omega) a ha⟩
/-! ### The circle's venues -/
def cvS (n r : Nat) : Nat → List Int
  | 0 => ((List.replicate n 0).set (n - 1) (1 - ((r % 2 : Nat) : Int))).set r ((r % 2 : Nat) : Int)
  | k + 1 => ((cvS n r k).set ((r + (k + 1)) % (n - 1)) (((k + 1) % 2 : Nat) : Int)).set ((r + (n - 1) - (k + 1)) % (n - 1)) (1 - (((k + 1) % 2 : Nat) : Int))
def cvL (n : Nat) : List (List Int) := (List.range (n - 1)).map fun r => cvS n r (n / 2 - 1)
theorem zaA (n r : Nat) : ∀ k, (cvS n r k).length = n
  | 0 => by simp [cvS]
  | k + 1 => by simp [cvS, zaA n r k]
def cvOk (n : Nat) : Bool := frmB n (n - 1) (cvL n) && vnB n (n - 1) (zaW n (n - 1)) (cvL n) && decide (totI n (cvL n) (n - 2) = (n : Int) - 2)
theorem cv_all : (cvOk 2 && cvOk 4 && cvOk 6 && cvOk 8 && cvOk 10 && cvOk 12 && cvOk 14) = true := by decide +kernel
theorem cv_ok {n : Nat} (h : 2 ≤ n ∧ n ≤ 14) (he : n % 2 = 0) : frmB n (n - 1) (cvL n) = true ∧ vnB n (n - 1) (zaW n (n - 1)) (cvL n) = true ∧ totI n (cvL n) (n - 2) = (n : Int) - 2 := by
  have hc : cvOk n = true := by
    have h0 := cv_all
    simp only [Bool.and_eq_true] at h0
    obtain ⟨⟨⟨⟨⟨⟨a2, a4⟩, a6⟩, a8⟩, a10⟩, a12⟩, a14⟩ := h0
    have : n = 2 ∨ n = 4 ∨ n = 6 ∨ n = 8 ∨ n = 10 ∨ n = 12 ∨ n = 14 := by omega
    rcases this with rfl | rfl | rfl | rfl | rfl | rfl | rfl
    · exact a2
    · exact a4
    · exact a6
    · exact a8
    · exact a10
    · exact a12
    · exact a14
  unfold cvOk at hc
  rw [Bool.and_eq_true, Bool.and_eq_true, decide_eq_true_iff] at hc
  exact ⟨hc.1.1, hc.1.2, hc.2⟩
end Go.Abs
end

section
set_option maxRecDepth 100000
set_option maxHeartbeats 4000000
namespace Go.Proofs.YtemgclojolmhbaaGreat.A
open Go Go.Abs Go.RowKit
def gmS (l : List Int) (L : List (Nat × Nat)) : List Int := L.flatMap (gm3 l)
theorem zaF (l : List Int) (L : List (Nat × Nat)) : (gmS l L).length = L.length * 3 := zeV _ (zgI l) L
theorem gmS_append (l : List Int) (L M : List (Nat × Nat)) : gmS l (L ++ M) = gmS l L ++ gmS l M := List.flatMap_append
def gmN (n : Nat) (l : List Int) (k : Nat) : Nat := (gmAll n l k).length
def fewC (q : Int) (k : Nat) (l : List Int) : Int := if schedB q k l = true then if gmN q.toNat l k ≤ 15 then 0 else 3 else 1
def fewR (q : Int) (k : Nat) (l : List Int) : Int := if fewC q k l = 0 then dpB q.toNat (fun i => rowsL q.toNat (rnd l i)) k else 0
theorem zfO (n : Nat) (l : List Int) : ∀ k, (gmAll n l k).length ≤ k * n
  | 0 => by simp [gmAll]
  | k + 1 => by
    rw [zcU, List.length_append, zcQ]
    have := zfO n l k
    have h : (pairsL (rnd l k) n).length ≤ n := by
      unfold pairsL
      rw [List.length_map]
      exact Nat.le_trans (List.length_filter_le _ _) (by rw [List.length_range]; exact Nat.le_refl _)
    rw [Nat.succ_mul]; omega
theorem FewestBreaks_c (q : Int) (v : Value) (k : Nat) (l : List Int) (H : AH) (hv : Rd 14 H v k l) (hk : k ≤ 4294967296) :
    ACalls Tryz.prog 6 [.agg #[.int .i64 q, v]] H (is (.tuple #[.int .i64 (fewR q k l), .int .i64 (fewC q k l)]) H) := by
  refine zaY (by simp [flat, Abs.scal]) (ACalls.wf (by kernel_rfl) fun hs => za3 [.tmp 2, .tmp 3] Tryz.func6 (by kernel_rfl) rfl rfl (Nat.le_of_ble_eq_true rfl) (by kernel_rfl) ?_)
  have hone := hv.one
  have o1 := (Ow.refl hs).push ⟨26, true, [.int .i64 q, v]⟩
  try simp (disch := first | omega | (simp only [za1, List.length_replicate, List.length_set, zaF] <;> omega)) only [Sall,evalOp,init,binA_s,binE,binI,unE,convE,okNil,builtE,gv,TD.isAgg,resV,↓reduceIte,Nat.reduceEqDiff,reduceCtorEq,Nat.reduceAdd,Nat.reduceMul,Nat.reduceLeDiff,za0,za2,Int.reduceEq,Int.reduceLT,Int.reduceLE,Nat.reduceLT,tiA,tiXA, hone]
  obtain ⟨pi, epi⟩ : ∃ pi, pi = H.next := ⟨_, rfl⟩
  rw [← epi] at o1 ⊢
  revert o1
  generalize H.push ⟨26, true, [.int .i64 q, v]⟩ = H1
  intro o1
  have up1 : Up pi H H1 := by rw [epi]; exact o1.up
  have e1 := (o1.rowAt 0 rfl).1
  have hv1 := hv.same (o1.old hs)
  refine (zbQ q v k l 37 [] true H1 hv1 hk fun H' _ _ => zfT H').to ?_
  refine Holds.mp ?_
  unfold fewR fewC
  cases hb : schedB q k l with
  | false =>
    have hC : codeS q k l true = 1 := by unfold codeS; rw [hb, if_neg (by simp)]
    have c1 : ((1 : Int) != 0) = true := rfl
    rw [if_neg (by simp), if_neg (by simp)]
    try simp (disch := first | omega | (simp only [za1, List.length_replicate, List.length_set, zaF] <;> omega)) only [Sall,evalOp,init,binA_s,binE,binI,unE,convE,okNil,builtE,gv,TD.isAgg,resV,↓reduceIte,Nat.reduceEqDiff,reduceCtorEq,Nat.reduceAdd,Nat.reduceMul,Nat.reduceLeDiff,za0,za2,Int.reduceEq,Int.reduceLT,Int.reduceLE,Nat.reduceLT,tiA,tiXA, hC, c1]
    exact up1
  | true =>
  have hC : codeS q k l true = 0 := by unfold codeS; rw [hb, if_pos rfl, if_pos rfl]
  have c0 : ((0 : Int) != 0) = false := rfl
  rw [if_pos rfl]
  obtain ⟨⟨hq2, hq14⟩, hk40, hro⟩ := zaT hb
  obtain ⟨n, rfl⟩ : ∃ n : Nat, q = n := ⟨q.toNat, by omega⟩
  rw [Int.toNat_natCast]
  have hlv := hv1.len
  have o2 := o1.pushSl (k := 3) (n := 0) (ty := 70) (vs := ints []) rfl
  have zz : zeros 0 [.int .i64 0, .int .i64 0, .int .i64 0] = ints [] := rfl
  have npi : ¬ pi = H1.next := by have := (o1.rowAt 0 rfl).2.2; omega
  try simp (disch := first | omega | (simp only [za1, List.length_replicate, List.length_set, zaF] <;> omega)) only [Sall,evalOp,init,binA_s,binE,binI,unE,convE,okNil,builtE,gv,TD.isAgg,resV,↓reduceIte,Nat.reduceEqDiff,reduceCtorEq,Nat.reduceAdd,Nat.reduceMul,Nat.reduceLeDiff,za0,za2,Int.reduceEq,Int.reduceLT,Int.reduceLE,Nat.reduceLT,tiA,tiXA, hC, c0, e1, npi, zz, hone, builtE, hlv]
  (repeat refine And.intro (by omega) ?_)
  refine za5 (fun m t H' => ∃ (i : Nat) (u : Value), m = k - i ∧ i ≤ k ∧ t 26 = .int .i64 i ∧ t 25 = .int .i64 k ∧ t 24 = v ∧ t 5 = u ∧ t 1 = .pointer (some ⟨pi, 0, none⟩) ∧ Ow H H' [.row pi ⟨26, true, [.int .i64 n, v]⟩, .sl 3 70 u (gmAll n l i).length (ints (gmS l (gmAll n l i)))]) k ?_ ?_
  · refine ⟨0, .slice (some ⟨H1.next, 0, some 3⟩) 0 0, by omega, by omega, ?_⟩
    try simp (disch := first | omega | (simp only [za1, List.length_replicate, List.length_set, zaF] <;> omega)) only [Sall,evalOp,init,binA_s,binE,binI,unE,convE,okNil,builtE,gv,TD.isAgg,resV,↓reduceIte,Nat.reduceEqDiff,reduceCtorEq,Nat.reduceAdd,Nat.reduceMul,Nat.reduceLeDiff,za0,za2,Int.reduceEq,Int.reduceLT,Int.reduceLE,Nat.reduceLT,tiA,tiXA, Int.natCast_zero]
    exact o2
  · rintro m t H' ⟨i, u, hm, hi, h26, h25, h24, h5, h1, o3⟩
    try simp (disch := first | omega | (simp only [za1, List.length_replicate, List.length_set, zaF] <;> omega)) only [Sall,evalOp,init,binA_s,binE,binI,unE,convE,okNil,builtE,gv,TD.isAgg,resV,↓reduceIte,Nat.reduceEqDiff,reduceCtorEq,Nat.reduceAdd,Nat.reduceMul,Nat.reduceLeDiff,za0,za2,Int.reduceEq,Int.reduceLT,Int.reduceLE,Nat.reduceLT,tiA,tiXA, h26, h25]
    refine za4 (fun hh => ?_) (fun hh => ?_)
    · have hik : i < k := by omega
      have hr := hro i hik
      have hrl : (rnd l i).length = 14 := zbF l i k hv.1 hik
      obtain ⟨qi, qo, qu, qc, qr, ev, q1, q2, q3, q4⟩ := (hv.same (o3.old hs)).get (by omega)
      have hseg := q4 (i * 14) 14 (by omega)
      have npi : ¬ pi = H'.next := by have := (o3.rowAt 0 rfl).2.2; omega
      have e3 := (o3.rowAt 0 rfl).1
      obtain ⟨r, er⟩ : ∃ r, r = rnd l i := ⟨_, rfl⟩
      have hq4 : seg qr.cells (qo + i * 14) 14 = ints r := by rw [er]; exact hseg
      have o4 := (o3.push ⟨67, true, ints (List.replicate 14 0)⟩).putRow 2 rfl (cs' := ints r)
      have hr14 : r.length = 14 := by rw [er]; exact hrl
      have hsp : splice (ints (List.replicate 14 0)) 0 (ints r) = ints r := by
        unfold splice
        rw [List.take_zero, List.nil_append, List.drop_eq_nil_of_le (by simp [za1, hr14]), List.append_nil]
      have hik2 : (i : Int) < (k : Int) := hh
      have hs14 : seg (ints r) 0 14 = ints r := by
        unfold seg
        rw [List.drop_zero, List.take_of_length_le (by rw [za1, hr14]; omega)]
      try simp (disch := first | omega | (simp only [za1, List.length_replicate, List.length_set, zaF] <;> omega)) only [Sall,evalOp,init,binA_s,binE,binI,unE,convE,okNil,builtE,gv,TD.isAgg,resV,↓reduceIte,Nat.reduceEqDiff,reduceCtorEq,Nat.reduceAdd,Nat.reduceMul,Nat.reduceLeDiff,za0,za2,Int.reduceEq,Int.reduceLT,Int.reduceLE,Nat.reduceLT,tiA,tiXA, h26, h25, h24, h5, h1, ev, q1, hq4, hr14, hsp, e3, npi, hik2, hs14]
      (repeat refine And.intro (by omega) ?_)
      try simp (disch := first | omega | (simp only [za1, List.length_replicate, List.length_set, zaF] <;> omega)) only [Sall,evalOp,init,binA_s,binE,binI,unE,convE,okNil,builtE,gv,TD.isAgg,resV,↓reduceIte,Nat.reduceEqDiff,reduceCtorEq,Nat.reduceAdd,Nat.reduceMul,Nat.reduceLeDiff,za0,za2,Int.reduceEq,Int.reduceLT,Int.reduceLE,Nat.reduceLT,tiA,tiXA, h26, h25, h24, h5, h1, ev, q1, hq4, hr14, hsp, e3, npi, hik2, hs14]
      have o4 : Ow H ((H'.push ⟨67, true, ints (List.replicate 14 0)⟩).setCells H'.next (ints r)) [.row pi ⟨26, true, [.int .i64 n, v]⟩, .sl 3 70 u (gmAll n l i).length (ints (gmS l (gmAll n l i))), .row H'.next ⟨67, true, ints r⟩] := o4
      generalize (H'.push ⟨67, true, ints (List.replicate 14 0)⟩).setCells H'.next (ints r) = H2 at o4 ⊢
      refine ACalls.mono (pairs_c n r hr14 (by omega) H2).sc ?_
      rintro w H3 ⟨⟨up3, fr3⟩, sc3⟩
      have o5 := (o4.call (Ow.of_fr2 up3 sc3 fr3)).pick3 0 1 3 rfl rfl rfl (by decide) (by decide) (by decide)
      clear fr3 up3 sc3
      have hw := (o5.rd2 2 rfl).one
      have hwl := (o5.rd2 2 rfl).len
      refine Holds.mp ?_
      try simp (disch := first | omega | (simp only [za1, List.length_replicate, List.length_set, zaF] <;> omega)) only [Sall,evalOp,init,binA_s,binE,binI,unE,convE,okNil,builtE,gv,TD.isAgg,resV,↓reduceIte,Nat.reduceEqDiff,reduceCtorEq,Nat.reduceAdd,Nat.reduceMul,Nat.reduceLeDiff,za0,za2,Int.reduceEq,Int.reduceLT,Int.reduceLE,Nat.reduceLT,tiA,tiXA, h26, h25, h24, h5, h1, hw, builtE, hwl]
      have hpt := gmR_take n l i
      rw [← er] at hpt
      have hpl14 : (pairsL r n).length ≤ n := by
        unfold pairsL
        rw [List.length_map]
        exact Nat.le_trans (List.length_filter_le _ _) (by rw [List.length_range]; exact Nat.le_refl _)
      have hp2 : ∀ j, j < (pairsL r n).length → ((pairsL r n).getD j []).length = 2 := by
        intro j hj
        obtain ⟨a, _, _, e⟩ := zfW hj
        rw [e]; rfl
      have hgl : (gmAll n l i).length ≤ 40 * 14 := Nat.le_trans (zfO n l i) (Nat.mul_le_mul (by omega) (by omega))
      have hgr : (gmR n l i).length = (pairsL r n).length := by rw [zcQ, er]
      generalize pairsL r n = P at *
      refine za5 (fun m' t H' => ∃ (j : Nat) (u : Value), m' = P.length - j ∧ j ≤ P.length ∧ t 36 = .int .i64 j ∧ t 35 = .int .i64 P.length ∧ t 34 = w ∧ t 6 = .int .i64 i ∧ t 26 = .int .i64 i ∧ t 25 = .int .i64 k ∧ t 24 = v ∧ t 5 = u ∧ t 1 = .pointer (some ⟨pi, 0, none⟩) ∧ Ow H H' [.row pi ⟨26, true, [.int .i64 n, v]⟩, .sl 3 70 u ((gmAll n l i).length + j) (ints (gmS l (gmAll n l i) ++ gmS l ((gmR n l i).take j))), .sl2 (Value.int .i64) 33 2 w P]) P.length ?_ ?_
      · refine ⟨0, u, by omega, by omega, ?_⟩
        try simp (disch := first | omega | (simp only [za1, List.length_replicate, List.length_set, zaF] <;> omega)) only [Sall,evalOp,init,binA_s,binE,binI,unE,convE,okNil,builtE,gv,TD.isAgg,resV,↓reduceIte,Nat.reduceEqDiff,reduceCtorEq,Nat.reduceAdd,Nat.reduceMul,Nat.reduceLeDiff,za0,za2,Int.reduceEq,Int.reduceLT,Int.reduceLE,Nat.reduceLT,tiA,tiXA, Int.natCast_zero, h26, h25, h24, h5, h1]
        rw [List.take_zero, show gmS l [] = [] from rfl, List.append_nil]
        exact o5
      · rintro m' t H4 ⟨j, u, hm', hj, h36, h35, h34, h6, h26, h25, h24, h5, h1, o6⟩
        try simp (disch := first | omega | (simp only [za1, List.length_replicate, List.length_set, zaF] <;> omega)) only [Sall,evalOp,init,binA_s,binE,binI,unE,convE,okNil,builtE,gv,TD.isAgg,resV,↓reduceIte,Nat.reduceEqDiff,reduceCtorEq,Nat.reduceAdd,Nat.reduceMul,Nat.reduceLeDiff,za0,za2,Int.reduceEq,Int.reduceLT,Int.reduceLE,Nat.reduceLT,tiA,tiXA, h36, h35]
        refine za4 (fun hh2 => ?_) (fun hh2 => ?_)
        · have hjl : j < P.length := by omega
          obtain ⟨xi, xo, xu, xc, xr, y, my, ex, x1, x2, x3, x4⟩ := (o6.rd2 2 rfl).get (j := j) hjl
          have hmy := x3.lenK1
          rw [hp2 j hjl] at hmy
          have hmy := hmy.symm
          subst hmy
          obtain ⟨zi, zo, zu, zc, zr, ez, z1, z2, z3, _⟩ := x3.get (by omega)
          have z4 := z3 0 (by omega)
          have z5 := z3 1 (by omega)
          subst ez
          have hjx : (j : Int) < (P.length : Int) := hh2
          have hu := o6.one 1 rfl
          have z3g : zeros 1 [.int .i64 0, .int .i64 0, .int .i64 0] = [.int .i64 0, .int .i64 0, .int .i64 0] := rfl
          try simp (disch := first | omega | (simp only [za1, List.length_replicate, List.length_set, zaF] <;> omega)) only [Sall,evalOp,init,binA_s,binE,binI,unE,convE,okNil,builtE,gv,TD.isAgg,resV,↓reduceIte,Nat.reduceEqDiff,reduceCtorEq,Nat.reduceAdd,Nat.reduceMul,Nat.reduceLeDiff,za0,za2,Int.reduceEq,Int.reduceLT,Int.reduceLE,Nat.reduceLT,tiA,tiXA, h36, h35, h34, ex, x1, x2, x4, hjx]
          refine ⟨by omega, ?_⟩
          refine zb2 (by kernel_rfl) (by kernel_rfl) ?_
          have z4 : zr.cells[zo]? = some (.int .i64 ((P.getD j []).getD 0 0)) := by simpa using z4
          have z5 : zr.cells[zo + 1]? = some (.int .i64 ((P.getD j []).getD 1 0)) := by simpa using z5
          have p02 : (0 : Int) < ((2 : Nat) : Int) := by decide
          have p12 : (1 : Int) < ((2 : Nat) : Int) := by decide
          have p00 : (0 : Int) ≤ 0 := by decide
          have p01 : (0 : Int) ≤ 1 := by decide
          have t1 : (1 : Int).toNat = 1 := rfl
          try simp (disch := first | omega | (simp only [za1, List.length_replicate, List.length_set, zaF] <;> omega)) only [Sall,evalOp,init,binA_s,binE,binI,unE,convE,okNil,builtE,gv,TD.isAgg,resV,↓reduceIte,Nat.reduceEqDiff,reduceCtorEq,Nat.reduceAdd,Nat.reduceMul,Nat.reduceLeDiff,za0,za2,Int.reduceEq,Int.reduceLT,Int.reduceLE,Nat.reduceLT,tiA,tiXA, h36, h35, h34, h6, h5, z1, z4, z5, hu, z3g, zaL, Int.toNat_zero, Nat.add_zero, t1, p02, p12, p00, p01]
          refine ⟨.inr (.inr (o6.sc.le _)), ?_⟩
          refine (o6.tmp ⟨70, true, ints [(i : Int), (P.getD j []).getD 0 0, (P.getD j []).getD 1 0]⟩).app 1 (c := 1) (ms := ints [(i : Int), (P.getD j []).getD 0 0, (P.getD j []).getD 1 0]) rfl rfl (by omega) rfl (by omega) (by decide) (by omega) ?_
          intro v' H5 n5 o7
          have wj : IntKind.i64.wrap ((j : Int) + 1) = ((j + 1 : Nat) : Int) := w64 ⟨by omega, by omega⟩
          refine ⟨.inr (.inl (by kernel_rfl)), ?_⟩
          try simp (disch := first | omega | (simp only [za1, List.length_replicate, List.length_set, zaF] <;> omega)) only [Sall,evalOp,init,binA_s,binE,binI,unE,convE,okNil,builtE,gv,TD.isAgg,resV,↓reduceIte,Nat.reduceEqDiff,reduceCtorEq,Nat.reduceAdd,Nat.reduceMul,Nat.reduceLeDiff,za0,za2,Int.reduceEq,Int.reduceLT,Int.reduceLE,Nat.reduceLT,tiA,tiXA, h36, h35, h34, h6, h26, h25, h24, h1, wj]
          refine ⟨P.length - (j + 1), by omega, j + 1, v', rfl, by omega, rfl, rfl, ?_⟩
          unfold gmS
          rw [hpt j hjl, ← List.append_assoc, ← zaK, ← Nat.add_assoc]
          exact o7
        · have hje : j = P.length := by omega
          rw [hje, List.take_of_length_le (by rw [hgr]; exact Nat.le_refl _), ← gmS_append, ← zcU, ← hgr, ← List.length_append, ← zcU] at o6
          have wi : IntKind.i64.wrap ((i : Int) + 1) = ((i + 1 : Nat) : Int) := w64 ⟨by omega, by omega⟩
          try simp (disch := first | omega | (simp only [za1, List.length_replicate, List.length_set, zaF] <;> omega)) only [Sall,evalOp,init,binA_s,binE,binI,unE,convE,okNil,builtE,gv,TD.isAgg,resV,↓reduceIte,Nat.reduceEqDiff,reduceCtorEq,Nat.reduceAdd,Nat.reduceMul,Nat.reduceLeDiff,za0,za2,Int.reduceEq,Int.reduceLT,Int.reduceLE,Nat.reduceLT,tiA,tiXA, h26, h25, h24, h5, h1, wi]
          exact ⟨k - (i + 1), by omega, i + 1, u, rfl, by omega, rfl, rfl, o6.pick2 0 1 rfl rfl (by decide)⟩
    · have hie : i = k := by omega
      rw [hie] at o3
      have hgl : (gmAll n l k).length ≤ 40 * 14 := Nat.le_trans (zfO n l k) (Nat.mul_le_mul hk40 (by omega))
      have hul := o3.lenV 1 rfl
      try simp (disch := first | omega | (simp only [za1, List.length_replicate, List.length_set, zaF] <;> omega)) only [Sall,evalOp,init,binA_s,binE,binI,unE,convE,okNil,builtE,gv,TD.isAgg,resV,↓reduceIte,Nat.reduceEqDiff,reduceCtorEq,Nat.reduceAdd,Nat.reduceMul,Nat.reduceLeDiff,za0,za2,Int.reduceEq,Int.reduceLT,Int.reduceLE,Nat.reduceLT,tiA,tiXA, h5, h1, builtE, hul]
      refine za4 (fun hh => ?_) (fun hh => ?_)
      · have hg : ¬ gmN n l k ≤ 15 := by unfold gmN; omega
        rw [if_neg hg, if_neg (by decide)]
        try simp (disch := first | omega | (simp only [za1, List.length_replicate, List.length_set, zaF] <;> omega)) only [Sall,evalOp,init,binA_s,binE,binI,unE,convE,okNil,builtE,gv,TD.isAgg,resV,↓reduceIte,Nat.reduceEqDiff,reduceCtorEq,Nat.reduceAdd,Nat.reduceMul,Nat.reduceLeDiff,za0,za2,Int.reduceEq,Int.reduceLT,Int.reduceLE,Nat.reduceLT,tiA,tiXA, true_and]
        have := o3.up
        rw [epi]; exact this
      have hg : gmN n l k ≤ 15 := by unfold gmN; omega
      rw [if_pos hg, if_pos rfl]
      have e3 := (o3.rowAt 0 rfl).1
      try simp (disch := first | omega | (simp only [za1, List.length_replicate, List.length_set, zaF] <;> omega)) only [Sall,evalOp,init,binA_s,binE,binI,unE,convE,okNil,builtE,gv,TD.isAgg,resV,↓reduceIte,Nat.reduceEqDiff,reduceCtorEq,Nat.reduceAdd,Nat.reduceMul,Nat.reduceLeDiff,za0,za2,Int.reduceEq,Int.reduceLT,Int.reduceLE,Nat.reduceLT,tiA,tiXA, h1, e3, hone]
      refine ACalls.mono (zdT n v k l H' hb (hv.same (o3.old hs))) ?_
      intro w H2 o4
      have hw := (o4.rd2 0 rfl).one
      have o5 := o3.call o4
      refine Holds.mp ?_
      try simp (disch := first | omega | (simp only [za1, List.length_replicate, List.length_set, zaF] <;> omega)) only [Sall,evalOp,init,binA_s,binE,binI,unE,convE,okNil,builtE,gv,TD.isAgg,resV,↓reduceIte,Nat.reduceEqDiff,reduceCtorEq,Nat.reduceAdd,Nat.reduceMul,Nat.reduceLeDiff,za0,za2,Int.reduceEq,Int.reduceLT,Int.reduceLE,Nat.reduceLT,tiA,tiXA, h5, h1, hw, builtE, hul]
      have hgE : (gmAll n l k).length = gmN n l k := rfl
      have hgen : ∀ L : List (Nat × Nat), (gmS l L).length = L.length * 3 := zaF l
      obtain ⟨G, eG⟩ : ∃ G, G = gmAll n l k := ⟨_, rfl⟩
      have hGm : ∀ c, c < G.length → G.getD c (0, 0) ∈ gmAll n l k := fun c hc => by rw [← eG]; exact zb1 hc
      rw [hgE, ← eG] at o5
      have hgG : G.length = gmN n l k := by rw [eG]; rfl
      rw [← hgG] at hg o5
      rw [← eG]
      obtain ⟨N, eN⟩ : ∃ N, N = 2 ^ G.length := ⟨_, rfl⟩
      have hsh : IntKind.i64.wrap (1 * 2 ^ min G.length IntKind.i64.bits) = (N : Int) := by
        have := shl_one hg
        rw [Int.toNat_natCast] at this
        rw [eN]; exact this
      have hrd := zfJ hb
      have hV0 := fst_seq hrd
      obtain ⟨gf, egf⟩ : ∃ gf : Nat → Int, gf = fun b => totI n (venS l G (fstV n k l) b G.length) (k - 1) := ⟨_, rfl⟩
      have hpow : 2 ^ G.length ≤ 2 ^ 15 := Nat.pow_le_pow_right (by omega) hg
      have hpow : N ≤ 32768 := by rw [eN]; exact hpow
      have hN0 : 0 < N := by rw [eN]; exact Nat.pos_of_ne_zero (by simp)
      have hfin := (few_eq hrd hV0).1
      rw [← eG, ← eN] at hfin
      refine ⟨by omega, ?_⟩
      have o5 : Ow H H2 [.row pi ⟨26, true, [.int .i64 n, v]⟩, .sl 3 70 u G.length (ints (gmS l G)), .sl2 (Value.int .i64) 33 2 w (fstV n k l)] := o5
      refine za5 (fun m t H' => ∃ (b : Nat) (W : List (List Int)), m = N - b ∧ b ≤ N ∧ t 61 = .int .i64 b ∧ t 60 = .int .i64 (N : Int) ∧ t 11 = .int .i64 (bsI gf b) ∧ t 10 = w ∧ t 5 = u ∧ t 1 = .pointer (some ⟨pi, 0, none⟩) ∧ VSeq n k l W ∧ Ow H H' [.row pi ⟨26, true, [.int .i64 n, v]⟩, .sl 3 70 u G.length (ints (gmS l G)), .sl2 (Value.int .i64) 33 2 w W]) N ?_ ?_
      · refine ⟨0, fstV n k l, by omega, by omega, ?_⟩
        try simp (disch := first | omega | (simp only [za1, List.length_replicate, List.length_set, zaF] <;> omega)) only [Sall,evalOp,init,binA_s,binE,binI,unE,convE,okNil,builtE,gv,TD.isAgg,resV,↓reduceIte,Nat.reduceEqDiff,reduceCtorEq,Nat.reduceAdd,Nat.reduceMul,Nat.reduceLeDiff,za0,za2,Int.reduceEq,Int.reduceLT,Int.reduceLE,Nat.reduceLT,tiA,tiXA, Int.natCast_zero, h5, h1, hsh]
        exact ⟨rfl, hV0, o5⟩
      · rintro m t H3 ⟨b, W, hm, hbp, h61, h60, h11, h10, h5, h1, hW, o6⟩
        have hul := o6.lenV 1 rfl
        try simp (disch := first | omega | (simp only [za1, List.length_replicate, List.length_set, zaF] <;> omega)) only [Sall,evalOp,init,binA_s,binE,binI,unE,convE,okNil,builtE,gv,TD.isAgg,resV,↓reduceIte,Nat.reduceEqDiff,reduceCtorEq,Nat.reduceAdd,Nat.reduceMul,Nat.reduceLeDiff,za0,za2,Int.reduceEq,Int.reduceLT,Int.reduceLE,Nat.reduceLT,tiA,tiXA, h61, h60]
        refine za4 (fun hh => ?_) (fun hh => ?_)
        · have hb2 : b < N := by omega
          try simp (disch := first | omega | (simp only [za1, List.length_replicate, List.length_set, zaF] <;> omega)) only [Sall,evalOp,init,binA_s,binE,binI,unE,convE,okNil,builtE,gv,TD.isAgg,resV,↓reduceIte,Nat.reduceEqDiff,reduceCtorEq,Nat.reduceAdd,Nat.reduceMul,Nat.reduceLeDiff,za0,za2,Int.reduceEq,Int.reduceLT,Int.reduceLE,Nat.reduceLT,tiA,tiXA, h61, h60, h11, h10, h5, h1, builtE, hul]
          refine za5 (fun m' t H' => ∃ c : Nat, m' = G.length - c ∧ c ≤ G.length ∧ t 66 = .int .i64 c ∧ t 65 = .int .i64 G.length ∧ t 64 = u ∧ t 12 = .int .i64 b ∧ t 61 = .int .i64 b ∧ t 60 = .int .i64 (N : Int) ∧ t 11 = .int .i64 (bsI gf b) ∧ t 10 = w ∧ t 5 = u ∧ t 1 = .pointer (some ⟨pi, 0, none⟩) ∧ Ow H H' [.row pi ⟨26, true, [.int .i64 n, v]⟩, .sl 3 70 u G.length (ints (gmS l G)), .sl2 (Value.int .i64) 33 2 w (venS l G W b c)]) G.length ?_ ?_
          · refine ⟨0, by omega, by omega, ?_⟩
            try simp (disch := first | omega | (simp only [za1, List.length_replicate, List.length_set, zaF] <;> omega)) only [Sall,evalOp,init,binA_s,binE,binI,unE,convE,okNil,builtE,gv,TD.isAgg,resV,↓reduceIte,Nat.reduceEqDiff,reduceCtorEq,Nat.reduceAdd,Nat.reduceMul,Nat.reduceLeDiff,za0,za2,Int.reduceEq,Int.reduceLT,Int.reduceLE,Nat.reduceLT,tiA,tiXA, Int.natCast_zero, h61, h60, h11, h10, h5, h1]
            exact o6
          · rintro m' t H4 ⟨c, hm', hc, h66, h65, h64, h12, h61, h60, h11, h10, h5, h1, o7⟩
            try simp (disch := first | omega | (simp only [za1, List.length_replicate, List.length_set, zaF] <;> omega)) only [Sall,evalOp,init,binA_s,binE,binI,unE,convE,okNil,builtE,gv,TD.isAgg,resV,↓reduceIte,Nat.reduceEqDiff,reduceCtorEq,Nat.reduceAdd,Nat.reduceMul,Nat.reduceLeDiff,za0,za2,Int.reduceEq,Int.reduceLT,Int.reduceLE,Nat.reduceLT,tiA,tiXA, h66, h65]
            refine za4 (fun hh2 => ?_) (fun hh2 => ?_)
            · have hcg : c < G.length := by omega
              have hc1 : c + 1 ≤ G.length := hcg
              have hmc : G.length - (c + 1) < m' := by omega
              obtain ⟨p, ep⟩ : ∃ p, p = G.getD c (0, 0) := ⟨_, rfl⟩
              have hp := hGm c hcg
              rw [← ep] at hp
              obtain ⟨p1, p2, p3⟩ := (zcA k).1 hp
              have hrng := (hrd p.1 p1).rng p.2 p2
              obtain ⟨y, ey⟩ : ∃ y : Nat, (rnd l p.1).getD p.2 0 = y := ⟨((rnd l p.1).getD p.2 0).toNat, by omega⟩
              have hS := zcT hrd hW b c (by rw [← eG]; exact hc)
              rw [← eG] at hS
              obtain ⟨ui, _, _, eu, ur⟩ := o7.get 1 rfl (by omega)
              have h3 : gm3 l p = [(p.1 : Int), (p.2 : Int), (y : Int)] := by unfold gm3; rw [ey]
              have hsg : seg (ints (gmS l G)) (c * 3) 3 = ints [(p.1 : Int), (p.2 : Int), (y : Int)] := by
                unfold seg ints
                rw [← List.map_drop, ← List.map_take]
                unfold gmS
                rw [flat3_at _ (zgI l) (0, 0) G c hcg, ← ep, h3]
              have hcx : (c : Int) < (G.length : Int) := hh2
              have o8 := (o7.push ⟨70, true, ints [0, 0, 0]⟩).putRow 3 rfl (cs' := ints [(p.1 : Int), (p.2 : Int), (y : Int)])
              have hsp : splice [.int .i64 0, .int .i64 0, .int .i64 0] 0 (ints [(p.1 : Int), (p.2 : Int), (y : Int)]) = ints [(p.1 : Int), (p.2 : Int), (y : Int)] := rfl
              have hdiv : ((b : Int)).fdiv (2 ^ min c IntKind.i64.bits) = ((b / 2 ^ c : Nat) : Int) := by
                have := shr_nat (b := b) (t := c) (by omega)
                rw [Int.toNat_natCast] at this
                exact this
              have hbc : b / 2 ^ c ≤ b := Nat.div_le_self _ _
              have hand := and_one (x := b / 2 ^ c) (by omega)
              have hbn := zdU b c
              have hbit : b / 2 ^ c % 2 = bitN b c := rfl
              try simp (disch := first | omega | (simp only [za1, List.length_replicate, List.length_set, zaF] <;> omega)) only [Sall,evalOp,init,binA_s,binE,binI,unE,convE,okNil,builtE,gv,TD.isAgg,resV,↓reduceIte,Nat.reduceEqDiff,reduceCtorEq,Nat.reduceAdd,Nat.reduceMul,Nat.reduceLeDiff,za0,za2,Int.reduceEq,Int.reduceLT,Int.reduceLE,Nat.reduceLT,tiA,tiXA, h66, h65, h64, h12, eu, ur, hsg, hsp, hcx, hdiv, hand, hbit]
              (repeat refine And.intro (by omega) ?_)
              try simp (disch := first | omega | (simp only [za1, List.length_replicate, List.length_set, zaF] <;> omega)) only [Sall,evalOp,init,binA_s,binE,binI,unE,convE,okNil,builtE,gv,TD.isAgg,resV,↓reduceIte,Nat.reduceEqDiff,reduceCtorEq,Nat.reduceAdd,Nat.reduceMul,Nat.reduceLeDiff,za0,za2,Int.reduceEq,Int.reduceLT,Int.reduceLE,Nat.reduceLT,tiA,tiXA, h66, h65, h64, h12, eu, ur, hsg, hsp, hcx, hdiv, hand, hbit]
              refine ⟨by rw [hgen]; omega, by omega, ?_⟩
              obtain ⟨H5, e5⟩ : ∃ H5, H5 = (H4.push ⟨70, true, ints [0, 0, 0]⟩).setCells H4.next (ints [(p.1 : Int), (p.2 : Int), (y : Int)]) := ⟨_, rfl⟩
              have o8 : Ow H H5 [.row pi ⟨26, true, [.int .i64 n, v]⟩, .sl 3 70 u G.length (ints (gmS l G)), .sl2 (Value.int .i64) 33 2 w (venS l G W b c), .row H4.next ⟨70, true, ints [(p.1 : Int), (p.2 : Int), (y : Int)]⟩] := by rw [e5]; exact o8
              have e5b : (H4.push ⟨70, true, [.int .i64 0, .int .i64 0, .int .i64 0]⟩).setCells H4.next (ints [(p.1 : Int), (p.2 : Int), (y : Int)]) = H5 := by rw [e5]; rfl
              rw [e5b]
              clear e5 e5b
              generalize H4.next = gi at o8 ⊢
              obtain ⟨wi, ws, wx, _, _, ew, wr, wl, wx1, _, wq⟩ := o8.get2 2 rfl (j := p.1) (by rw [hS.len]; exact p1)
              have hrow := (hS.row p.1 p1).len
              rw [hrow] at wq
              obtain ⟨wqi, _, _, wne, rfl, wqr⟩ := wq (by omega)
              have wqr' : H5.row wqi = some ⟨2, true, ints ((venS l G W b c).getD p.1 [])⟩ := wqr
              rw [hS.len] at ew
              have g14 := (o8.rowAt 3 rfl).1
              have k0 : (ints [(p.1 : Int), (p.2 : Int), (y : Int)])[0]? = some (.int .i64 (p.1 : Int)) := rfl
              have k1 : (ints [(p.1 : Int), (p.2 : Int), (y : Int)])[1]? = some (.int .i64 (p.2 : Int)) := rfl
              have k2 : (ints [(p.1 : Int), (p.2 : Int), (y : Int)])[2]? = some (.int .i64 (y : Int)) := rfl
              refine zc1 (fun j => j ≠ wqi) [0, 1, 2, 3, 4, 5, 6, 7, 8, 9, 10, 11, 12, 13, 14, 15, 16, 17, 18, 19, 20] (by kernel_rfl) (by kernel_rfl) (by kernel_rfl) ?_
              have wb : IntKind.i64.wrap (1 - (bitN b c : Int)) = 1 - (bitN b c : Int) := w64 ⟨by omega, by omega⟩
              have g1 : (p.1 : Int) < (k : Int) := by omega
              have g2 : (p.2 : Int) < (n : Int) := by omega
              have g3 : (y : Int) < (n : Int) := by omega
              have wc : IntKind.i64.wrap ((c : Int) + 1) = ((c + 1 : Nat) : Int) := w64 ⟨by omega, by omega⟩
              have ngi : gi ≠ wqi := fun e => by
                rw [e, wqr'] at g14
                simp only [Option.some.injEq, Row.mk.injEq] at g14
                exact absurd g14.1 (by decide)
              try simp (disch := first | omega | (simp only [za1, List.length_replicate, List.length_set, zaF] <;> omega)) only [Sall,evalOp,init,binA_s,binE,binI,unE,convE,okNil,builtE,gv,TD.isAgg,resV,↓reduceIte,Nat.reduceEqDiff,reduceCtorEq,Nat.reduceAdd,Nat.reduceMul,Nat.reduceLeDiff,za0,za2,Int.reduceEq,Int.reduceLT,Int.reduceLE,Nat.reduceLT,tiA,tiXA, zaI, zaD, zaC, loadOk, ngi, Ne.symm wne, h10, ew, g14, k0, k1, k2, wr, wx1, wqr', hrow, wb, g1, g2, g3, zaR, wc, h66, h65, h64, h12, h61, h60, h11, h5, h1]
              have hles : ∀ (H : AH) cs, LES (fun j => ¬ j = wqi) H (H.setCells wqi cs) := fun H cs => ⟨Nat.le_refl _, fun j r hj hr => by rw [AH.setCells_row, if_neg hj]; exact hr⟩
              refine ⟨by omega, by omega, by omega, p2, .inr (.inr (hles _ _)), by omega, by rw [List.length_set, hrow]; omega, .inr (.inr (hles _ _)), G.length - (c + 1), hmc, c + 1, rfl, hc1, rfl, ?_⟩
              rw [AH.setCells_setCells]
              rw [ew] at o8
              have o9 := o8.set2 2 rfl (j := p.1) (by rw [hS.len]; exact p1) (l' := (((venS l G W b c).getD p.1 []).set p.2 (bitN b c : Int)).set y (1 - (bitN b c : Int))) (by simp) wr wx1
              have eV : venS l G W b (c + 1) = (venS l G W b c).set p.1 ((((venS l G W b c).getD p.1 []).set p.2 (bitN b c : Int)).set y (1 - (bitN b c : Int))) := by
                show (venS l G W b c).set (G.getD c (0, 0)).1 _ = _
                rw [← ep, ey, Int.toNat_natCast]
              rw [eV]
              exact o9.pick3 0 1 2 rfl rfl rfl (by decide) (by decide) (by decide)
            · have hce : c = G.length := by omega
              rw [hce] at o7
              have hS := zcT hrd hW b G.length (by rw [← eG]; exact Nat.le_refl _)
              rw [← eG] at hS
              have hext := venS_ext hrd hV0 hW b
              rw [← eG] at hext
              have egb : gf b = totI n (venS l G W b G.length) (k - 1) := by rw [egf]; show totI n (venS l G (fstV n k l) b G.length) (k - 1) = _; rw [hext]
              generalize venS l G W b G.length = X at o7 hS egb
              have e7 := (o7.rowAt 0 rfl).1
              have hw7 := (o7.rd2 2 rfl).one
              try simp (disch := first | omega | (simp only [za1, List.length_replicate, List.length_set, zaF] <;> omega)) only [Sall,evalOp,init,binA_s,binE,binI,unE,convE,okNil,builtE,gv,TD.isAgg,resV,↓reduceIte,Nat.reduceEqDiff,reduceCtorEq,Nat.reduceAdd,Nat.reduceMul,Nat.reduceLeDiff,za0,za2,Int.reduceEq,Int.reduceLT,Int.reduceLE,Nat.reduceLT,tiA,tiXA, h66, h65, h64, h12, h61, h60, h11, h10, h5, h1, e7, hone]
              refine ACalls.mono (breaks_c n w X H4 (by omega) (o7.rd2 2 rfl) (by rw [hS.len]; omega) fun i hi => (hS.row i (by rw [← hS.len]; exact hi)).len) ?_
              intro z H5 o8
              have o9 := (o7.call o8)
              refine Holds.mp ?_
              have hz := o8.one 0 rfl
              have hbl : ∀ x, x ∈ bkL n X → 0 ≤ x ∧ x ≤ 1000000 := by
                intro x hx
                obtain ⟨a, _, rfl⟩ := List.mem_map.1 hx
                have := bkI_le X a (X.length - 1)
                have := hS.len
                omega
              try simp (disch := first | omega | (simp only [za1, List.length_replicate, List.length_set, zaF] <;> omega)) only [Sall,evalOp,init,binA_s,binE,binI,unE,convE,okNil,builtE,gv,TD.isAgg,resV,↓reduceIte,Nat.reduceEqDiff,reduceCtorEq,Nat.reduceAdd,Nat.reduceMul,Nat.reduceLeDiff,za0,za2,Int.reduceEq,Int.reduceLT,Int.reduceLE,Nat.reduceLT,tiA,tiXA, h66, h65, h64, h12, h61, h60, h11, h10, h5, h1, hz]
              refine (total_c z n (bkL n X) H5 (by omega) (o8.rd 0 rfl) hbl).to ?_
              refine Holds.mp ?_
              have hsum : (bkL n X).sum = gf b := by rw [ziA, hS.len, egb]
              rw [hsum]
              have hbs : bsI gf (b + 1) = if bsI gf b < 0 ∨ gf b < bsI gf b then gf b else bsI gf b := rfl
              have wb : IntKind.i64.wrap ((b : Int) + 1) = ((b + 1 : Nat) : Int) := w64 ⟨by omega, by omega⟩
              have o10 := o9.pick3 0 1 2 rfl rfl rfl (by decide) (by decide) (by decide)
              by_cases c1 : bsI gf b < 0
              · have d1 : decide (bsI gf b < 0) = true := decide_eq_true c1
                rw [if_pos (.inl c1)] at hbs
                try simp (disch := first | omega | (simp only [za1, List.length_replicate, List.length_set, zaF] <;> omega)) only [Sall,evalOp,init,binA_s,binE,binI,unE,convE,okNil,builtE,gv,TD.isAgg,resV,↓reduceIte,Nat.reduceEqDiff,reduceCtorEq,Nat.reduceAdd,Nat.reduceMul,Nat.reduceLeDiff,za0,za2,Int.reduceEq,Int.reduceLT,Int.reduceLE,Nat.reduceLT,tiA,tiXA, h61, h60, h11, h10, h5, h1, d1, wb]
                exact ⟨N - (b + 1), by omega, b + 1, X, rfl, by omega, rfl, hbs.symm ▸ rfl, hS, o10⟩
              · have d1 : decide (bsI gf b < 0) = false := decide_eq_false c1
                by_cases c2 : gf b < bsI gf b
                · have d2 : decide (gf b < bsI gf b) = true := decide_eq_true c2
                  rw [if_pos (.inr c2)] at hbs
                  try simp (disch := first | omega | (simp only [za1, List.length_replicate, List.length_set, zaF] <;> omega)) only [Sall,evalOp,init,binA_s,binE,binI,unE,convE,okNil,builtE,gv,TD.isAgg,resV,↓reduceIte,Nat.reduceEqDiff,reduceCtorEq,Nat.reduceAdd,Nat.reduceMul,Nat.reduceLeDiff,za0,za2,Int.reduceEq,Int.reduceLT,Int.reduceLE,Nat.reduceLT,tiA,tiXA, h61, h60, h11, h10, h5, h1, d1, d2, wb]
                  exact ⟨N - (b + 1), by omega, b + 1, X, rfl, by omega, rfl, hbs.symm ▸ rfl, hS, o10⟩
                · have d2 : decide (gf b < bsI gf b) = false := decide_eq_false c2
                  rw [if_neg (by rintro (h | h) <;> contradiction)] at hbs
                  try simp (disch := first | omega | (simp only [za1, List.length_replicate, List.length_set, zaF] <;> omega)) only [Sall,evalOp,init,binA_s,binE,binI,unE,convE,okNil,builtE,gv,TD.isAgg,resV,↓reduceIte,Nat.reduceEqDiff,reduceCtorEq,Nat.reduceAdd,Nat.reduceMul,Nat.reduceLeDiff,za0,za2,Int.reduceEq,Int.reduceLT,Int.reduceLE,Nat.reduceLT,tiA,tiXA, h61, h60, h11, h10, h5, h1, d1, d2, wb]
                  exact ⟨N - (b + 1), by omega, b + 1, X, rfl, by omega, rfl, hbs.symm ▸ rfl, hS, o10⟩
        · have hbe : b = N := by omega
          try simp (disch := first | omega | (simp only [za1, List.length_replicate, List.length_set, zaF] <;> omega)) only [Sall,evalOp,init,binA_s,binE,binI,unE,convE,okNil,builtE,gv,TD.isAgg,resV,↓reduceIte,Nat.reduceEqDiff,reduceCtorEq,Nat.reduceAdd,Nat.reduceMul,Nat.reduceLeDiff,za0,za2,Int.reduceEq,Int.reduceLT,Int.reduceLE,Nat.reduceLT,tiA,tiXA, h11]
          rw [hbe, egf, hfin]
          have := o6.up
          rw [epi]
          exact ⟨rfl, this⟩
end Go.Proofs.YtemgclojolmhbaaGreat.A
end

section
set_option maxRecDepth 100000
set_option maxHeartbeats 4000000
namespace Go.Proofs.YtemgclojolmhbaaGreat.A
open Go Go.Abs Go.RowKit
def rwP (n : Nat) (r : List Int) (a : Nat) : List Int := (List.range n).map fun b => if b < a ∧ r.getD b 0 = (b : Int) then -1 else 0
theorem zaP (n : Nat) (r : List Int) (a : Nat) : (rwP n r a).length = n := by simp [rwP]
theorem rwP_at (n : Nat) (r : List Int) (a b : Nat) (h : b < n) : (rwP n r a).getD b 0 = if b < a ∧ r.getD b 0 = (b : Int) then -1 else 0 := by
  unfold rwP
  rw [List.getD_eq_getElem?_getD, List.getElem?_map, List.getElem?_range h]
  rfl
theorem rwP_zero (n : Nat) (r : List Int) : rwP n r 0 = List.replicate n 0 := by
  unfold rwP
  rw [List.eq_replicate_iff]
  simp
theorem rwP_full (n : Nat) (r : List Int) : rwP n r n = row0 n r := by
  unfold rwP row0
  refine List.map_congr_left fun a ha => ?_
  have := List.mem_range.1 ha
  by_cases h : r.getD a 0 = (a : Int)
  · rw [if_pos ⟨this, h⟩, if_pos h]
  · rw [if_neg fun e => h e.2, if_neg h]
theorem rwP_yes {n : Nat} {r : List Int} {a : Nat} (h : a < n) (e : r.getD a 0 = (a : Int)) : (rwP n r a).set a (-1) = rwP n r (a + 1) := by
  refine zcP (n := n) (by rw [List.length_set, zaP]) (zaP _ _ _) fun b hb => ?_
  rw [zcO _ _ _ _ (by rw [zaP]; omega), rwP_at _ _ _ _ hb, rwP_at _ _ _ _ hb]
  by_cases e1 : b = a
  · subst e1
    rw [if_pos rfl, if_pos ⟨by omega, e⟩]
  · rw [if_neg e1]
    by_cases e2 : b < a ∧ r.getD b 0 = (b : Int)
    · rw [if_pos e2, if_pos ⟨by omega, e2.2⟩]
    · rw [if_neg e2, if_neg fun h => e2 ⟨by omega, h.2⟩]
theorem rwP_no {n : Nat} {r : List Int} {a : Nat} (h : a < n) (e : ¬ r.getD a 0 = (a : Int)) : rwP n r (a + 1) = rwP n r a := by
  refine zcP (n := n) (zaP _ _ _) (zaP _ _ _) fun b hb => ?_
  rw [rwP_at _ _ _ _ hb, rwP_at _ _ _ _ hb]
  by_cases e2 : b < a ∧ r.getD b 0 = (b : Int)
  · rw [if_pos e2, if_pos ⟨by omega, e2.2⟩]
  · rw [if_neg e2, if_neg fun h => e2 ⟨by
      rcases Nat.lt_or_eq_of_le (Nat.le_of_lt_succ h.1) with h1 | h1
      · exact h1
      · rw [h1] at h; exact absurd h.2 e, h.2⟩]
theorem wu64 (n : Nat) (h : n ≤ 4294967296) : IntKind.u64.wrap (n : Int) = (n : Int) := by
  have e : IntKind.u64.wrap (n : Int) = (n : Int) % 18446744073709551616 := rfl
  rw [e]; omega
theorem shl_u {g : Nat} (h : g ≤ 15) : IntKind.i64.wrap (1 * 2 ^ (min g IntKind.i64.bits)) = ((2 ^ g : Nat) : Int) := by
  have := shl_one h
  rw [Int.toNat_natCast] at this
  exact this
theorem shr_u {b t : Nat} (h : t ≤ 15) : ((b : Int)).fdiv (2 ^ (min t IntKind.i64.bits)) = ((b / 2 ^ t : Nat) : Int) := by
  have := shr_nat (b := b) h
  rw [Int.toNat_natCast] at this
  exact this
theorem l05Rows_c (n : Nat) (r : List Int) (hr14 : r.length = 14) (hn : n ≤ 14) (hr : RndOk n r) (H : AH) :
    ACalls Tryz.prog 44 [.int .i64 n, .agg (ints r).toArray] H (fun w H' => Ow H H' [.sl2 (Value.int .i64) 33 2 w (rowsL n r)]) := by
  refine ACalls.wf (by kernel_rfl) fun hs => za3 [.tmp 4] Tryz.func44 (by kernel_rfl) rfl rfl (Nat.le_of_ble_eq_true rfl) (by kernel_rfl) ?_
  have o1 := (Ow.refl hs).push ⟨67, true, ints r⟩
  have hs14 : seg (ints r) 0 14 = ints r := by
    unfold seg
    rw [List.drop_zero, List.take_of_length_le (by rw [za1, hr14]; omega)]
  try simp (disch := first | omega | (simp only [za1, List.length_replicate, List.length_set, zaP] <;> omega)) only [Sall,evalOp,init,binA_s,binE,binI,unE,convE,okNil,builtE,gv,TD.isAgg,resV,↓reduceIte,Nat.reduceEqDiff,reduceCtorEq,Nat.reduceAdd,Nat.reduceMul,Nat.reduceLeDiff,za0,za2,Int.reduceEq,Int.reduceLT,Int.reduceLE,Nat.reduceLT,tiA,tiXA, hr14, hs14]
  obtain ⟨pi, epi⟩ : ∃ pi, pi = H.next := ⟨_, rfl⟩
  rw [← epi] at o1 ⊢
  revert o1
  generalize H.push ⟨67, true, ints r⟩ = H1
  intro o1
  have e1 := (o1.rowAt 0 rfl).1
  try simp (disch := first | omega | (simp only [za1, List.length_replicate, List.length_set, zaP] <;> omega)) only [Sall,evalOp,init,binA_s,binE,binI,unE,convE,okNil,builtE,gv,TD.isAgg,resV,↓reduceIte,Nat.reduceEqDiff,reduceCtorEq,Nat.reduceAdd,Nat.reduceMul,Nat.reduceLeDiff,za0,za2,Int.reduceEq,Int.reduceLT,Int.reduceLE,Nat.reduceLT,tiA,tiXA, e1, hr14, hs14]
  (repeat refine And.intro (by omega) ?_)
  refine ACalls.mono (zfZ n r hr14 hn H1).sc ?_
  rintro w H2 ⟨⟨up2, fr2⟩, sc2⟩
  have o2 := (o1.call (Ow.of_fr2 up2 sc2 fr2)).pick2 0 1 rfl rfl (by decide)
  clear fr2 up2 sc2
  have hw := (o2.rd2 1 rfl).one
  have zz : zeros 0 [.slice none 0 0] = [] := rfl
  have hp2 : ∀ j, j < (pairsL r n).length → ∃ a b : Nat, a < n ∧ b < n ∧ (pairsL r n).getD j [] = [(a : Int), (b : Int)] := by
    intro j hj
    obtain ⟨a, ha, _, e⟩ := zfW hj
    obtain ⟨b, eb⟩ : ∃ b : Nat, r.getD a 0 = b := ⟨(r.getD a 0).toNat, by have := hr.rng a ha; omega⟩
    exact ⟨a, b, ha, by have := hr.rng a ha; omega, by rw [e, eb]⟩
  have hpl14 : (pairsL r n).length ≤ 14 := by
    unfold pairsL
    rw [List.length_map]
    exact Nat.le_trans (List.length_filter_le _ _) (by rw [List.length_range]; omega)
  have hrK : ∀ k t, rowK n r k (t + 1) = (rowK n r k t).set (((pairsL r n).getD t []).getD (bitN k t) 0).toNat 1 := fun k t => rfl
  have hR : rowsL n r = (List.range (2 ^ (pairsL r n).length)).map fun k => rowK n r k (pairsL r n).length := rfl
  rw [hR]
  generalize pairsL r n = P at *
  have o3 := o2.pushSl2 (Value.int .i64) 33 2
  refine Holds.mp ?_
  try simp (disch := first | omega | (simp only [za1, List.length_replicate, List.length_set, zaP] <;> omega)) only [Sall,evalOp,init,binA_s,binE,binI,unE,convE,okNil,builtE,gv,TD.isAgg,resV,↓reduceIte,Nat.reduceEqDiff,reduceCtorEq,Nat.reduceAdd,Nat.reduceMul,Nat.reduceLeDiff,za0,za2,Int.reduceEq,Int.reduceLT,Int.reduceLE,Nat.reduceLT,tiA,tiXA, hw, zz]
  (repeat refine And.intro (by omega) ?_)
  obtain ⟨N, eN⟩ : ∃ N, N = 2 ^ P.length := ⟨_, rfl⟩
  have hsh : IntKind.i64.wrap (1 * 2 ^ min P.length IntKind.i64.bits) = (N : Int) := by rw [eN]; exact shl_u (by omega)
  have hwu := wu64 P.length (by omega)
  have hpow : 2 ^ P.length ≤ 2 ^ 14 := Nat.pow_le_pow_right (by omega) hpl14
  have hpow : N ≤ 16384 := by rw [eN]; exact hpow
  rw [← eN]
  have hwl := (o2.rd2 1 rfl).len
  obtain ⟨fK, efK⟩ : ∃ fK : Nat → List Int, fK = fun k => rowK n r k P.length := ⟨_, rfl⟩
  rw [← efK]
  refine za5 (fun m t H' => ∃ (k : Nat) (u : Value), m = N - k ∧ k ≤ N ∧ t 7 = .int .i64 k ∧ t 6 = u ∧ t 5 = w ∧ t 0 = .int .i64 n ∧ t 3 = .pointer (some ⟨pi, 0, none⟩) ∧ Ow H H' [.row pi ⟨67, true, ints r⟩, .sl2 (Value.int .i64) 33 2 w P, .sl2 (Value.int .i64) 33 2 u ((List.range k).map fK)]) N ?_ ?_
  · refine ⟨0, .slice (some ⟨H2.next, 0, some 1⟩) 0 0, by omega, by omega, ?_⟩
    try simp (disch := first | omega | (simp only [za1, List.length_replicate, List.length_set, zaP] <;> omega)) only [Sall,evalOp,init,binA_s,binE,binI,unE,convE,okNil,builtE,gv,TD.isAgg,resV,↓reduceIte,Nat.reduceEqDiff,reduceCtorEq,Nat.reduceAdd,Nat.reduceMul,Nat.reduceLeDiff,za0,za2,Int.reduceEq,Int.reduceLT,Int.reduceLE,Nat.reduceLT,tiA,tiXA, Int.natCast_zero]
    exact o3
  · rintro m t H' ⟨k, u, hm, hk, h7, h6, h5, h0, h3, o4⟩
    try simp (disch := first | omega | (simp only [za1, List.length_replicate, List.length_set, zaP] <;> omega)) only [Sall,evalOp,init,binA_s,binE,binI,unE,convE,okNil,builtE,gv,TD.isAgg,resV,↓reduceIte,Nat.reduceEqDiff,reduceCtorEq,Nat.reduceAdd,Nat.reduceMul,Nat.reduceLeDiff,za0,za2,Int.reduceEq,Int.reduceLT,Int.reduceLE,Nat.reduceLT,tiA,tiXA, h7, h5, builtE, hwl, hwu, hsh]
    refine ⟨by omega, za4 (fun hh => ?_) (fun hh => ?_)⟩
    · have hkN : k < N := by omega
      have o5 := o4.pushSl (k := 1) (n := n) (ty := 2) (vs := ints (List.replicate n 0)) (by simp [ints])
      have zn : zeros n [.int .i64 0] = ints (List.replicate n 0) := by simp [zeros, ints]
      rw [← rwP_zero n r] at o5
      try simp (disch := first | omega | (simp only [za1, List.length_replicate, List.length_set, zaP] <;> omega)) only [Sall,evalOp,init,binA_s,binE,binI,unE,convE,okNil,builtE,gv,TD.isAgg,resV,↓reduceIte,Nat.reduceEqDiff,reduceCtorEq,Nat.reduceAdd,Nat.reduceMul,Nat.reduceLeDiff,za0,za2,Int.reduceEq,Int.reduceLT,Int.reduceLE,Nat.reduceLT,tiA,tiXA, h7, h6, h5, h0, h3, zn]
      (repeat refine And.intro (by omega) ?_)
      rw [← rwP_zero n r]
      have o5 : Ow H (H'.push ⟨2, true, ints (rwP n r 0)⟩) [.row pi ⟨67, true, ints r⟩, .sl2 (Value.int .i64) 33 2 w P, .sl2 (Value.int .i64) 33 2 u ((List.range k).map fK), .sl 1 2 (.slice (some ⟨H'.next, 0, some 1⟩) n n) n (ints (rwP n r 0))] := o5
      obtain ⟨li, eli⟩ : ∃ li, li = H'.next := ⟨_, rfl⟩
      rw [← eli] at o5 ⊢
      clear eli
      generalize H'.push ⟨2, true, ints (rwP n r 0)⟩ = H3 at o5 ⊢
      refine za5 (fun m' t Hx => ∃ a : Nat, m' = n - a ∧ a ≤ n ∧ t 9 = .int .i64 a ∧ t 8 = .slice (some ⟨li, 0, some 1⟩) n n ∧ t 7 = .int .i64 k ∧ t 6 = u ∧ t 5 = w ∧ t 0 = .int .i64 n ∧ t 3 = .pointer (some ⟨pi, 0, none⟩) ∧ Ow H Hx [.row pi ⟨67, true, ints r⟩, .sl2 (Value.int .i64) 33 2 w P, .sl2 (Value.int .i64) 33 2 u ((List.range k).map fK), .sl 1 2 (.slice (some ⟨li, 0, some 1⟩) n n) n (ints (rwP n r a))]) n ?_ ?_
      · refine ⟨0, by omega, by omega, ?_⟩
        try simp (disch := first | omega | (simp only [za1, List.length_replicate, List.length_set, zaP] <;> omega)) only [Sall,evalOp,init,binA_s,binE,binI,unE,convE,okNil,builtE,gv,TD.isAgg,resV,↓reduceIte,Nat.reduceEqDiff,reduceCtorEq,Nat.reduceAdd,Nat.reduceMul,Nat.reduceLeDiff,za0,za2,Int.reduceEq,Int.reduceLT,Int.reduceLE,Nat.reduceLT,tiA,tiXA, Int.natCast_zero, h7, h6, h5, h0, h3]
        exact o5
      · rintro m' t Hx ⟨a, hm', ha, h9, h8, h7, h6, h5, h0, h3, o6⟩
        try simp (disch := first | omega | (simp only [za1, List.length_replicate, List.length_set, zaP] <;> omega)) only [Sall,evalOp,init,binA_s,binE,binI,unE,convE,okNil,builtE,gv,TD.isAgg,resV,↓reduceIte,Nat.reduceEqDiff,reduceCtorEq,Nat.reduceAdd,Nat.reduceMul,Nat.reduceLeDiff,za0,za2,Int.reduceEq,Int.reduceLT,Int.reduceLE,Nat.reduceLT,tiA,tiXA, h9, h0]
        refine za4 (fun hh2 => ?_) (fun hh2 => ?_)
        · have han : a < n := by omega
          obtain ⟨b, eb⟩ : ∃ b : Nat, r.getD a 0 = b := ⟨(r.getD a 0).toNat, by have := hr.rng a han; omega⟩
          have ka : (ints r)[a]? = some (.int .i64 (b : Int)) := by rw [← eb]; exact ints_get? r a (by omega)
          have e1 := (o6.rowAt 0 rfl).1
          have e6 := (o6.getV 3 rfl).2.2
          have wa : IntKind.i64.wrap ((a : Int) + 1) = ((a + 1 : Nat) : Int) := w64 ⟨by omega, by omega⟩
          have ga1 : (0 : Int) ≤ (a : Int) := by omega
          have ga2 : (a : Int) < ((14 : Nat) : Int) := by omega
          have ga3 : (a : Int) < (n : Int) := by omega
          by_cases hab : b = a
          · have q1 : ((b : Int) == (a : Int)) = true := by rw [hab]; exact beq_self_eq_true _
            have op := o6.put 3 rfl (vs' := (ints (rwP n r a)).set a (.int .i64 (-1))) (by simp)
            try simp (disch := first | omega | (simp only [za1, List.length_replicate, List.length_set, zaP] <;> omega)) only [Sall,evalOp,init,binA_s,binE,binI,unE,convE,okNil,builtE,gv,TD.isAgg,resV,↓reduceIte,Nat.reduceEqDiff,reduceCtorEq,Nat.reduceAdd,Nat.reduceMul,Nat.reduceLeDiff,za0,za2,Int.reduceEq,Int.reduceLT,Int.reduceLE,Nat.reduceLT,tiA,tiXA, h9, h8, h7, h6, h5, h0, h3, e1, e6, ka, hr14, ga1, ga2, ga3, q1, wa]
            refine ⟨by rw [zaP]; omega, n - (a + 1), by omega, a + 1, rfl, by omega, rfl, ?_⟩
            rw [← rwP_yes han (by rw [eb, hab]), ← zaR]
            exact op
          · have q1 : ((b : Int) == (a : Int)) = false := beq_eq_false_iff_ne.2 (by omega)
            try simp (disch := first | omega | (simp only [za1, List.length_replicate, List.length_set, zaP] <;> omega)) only [Sall,evalOp,init,binA_s,binE,binI,unE,convE,okNil,builtE,gv,TD.isAgg,resV,↓reduceIte,Nat.reduceEqDiff,reduceCtorEq,Nat.reduceAdd,Nat.reduceMul,Nat.reduceLeDiff,za0,za2,Int.reduceEq,Int.reduceLT,Int.reduceLE,Nat.reduceLT,tiA,tiXA, h9, h8, h7, h6, h5, h0, h3, e1, e6, ka, hr14, ga1, ga2, ga3, q1, wa]
            refine ⟨n - (a + 1), by omega, a + 1, rfl, by omega, rfl, ?_⟩
            rw [rwP_no han (by rw [eb]; omega)]
            exact o6
        · have hae : a = n := by omega
          rw [hae, rwP_full, show row0 n r = rowK n r k 0 from rfl] at o6
          try simp (disch := first | omega | (simp only [za1, List.length_replicate, List.length_set, zaP] <;> omega)) only [Sall,evalOp,init,binA_s,binE,binI,unE,convE,okNil,builtE,gv,TD.isAgg,resV,↓reduceIte,Nat.reduceEqDiff,reduceCtorEq,Nat.reduceAdd,Nat.reduceMul,Nat.reduceLeDiff,za0,za2,Int.reduceEq,Int.reduceLT,Int.reduceLE,Nat.reduceLT,tiA,tiXA, h8, h7, h6, h5, h0, h3]
          refine za5 (fun m' t Hx => ∃ c : Nat, m' = P.length - c ∧ c ≤ P.length ∧ t 10 = .int .i64 c ∧ t 8 = .slice (some ⟨li, 0, some 1⟩) n n ∧ t 7 = .int .i64 k ∧ t 6 = u ∧ t 5 = w ∧ t 0 = .int .i64 n ∧ t 3 = .pointer (some ⟨pi, 0, none⟩) ∧ Ow H Hx [.row pi ⟨67, true, ints r⟩, .sl2 (Value.int .i64) 33 2 w P, .sl2 (Value.int .i64) 33 2 u ((List.range k).map fK), .sl 1 2 (.slice (some ⟨li, 0, some 1⟩) n n) n (ints (rowK n r k c))]) P.length ?_ ?_
          · refine ⟨0, by omega, by omega, ?_⟩
            try simp (disch := first | omega | (simp only [za1, List.length_replicate, List.length_set, zaP] <;> omega)) only [Sall,evalOp,init,binA_s,binE,binI,unE,convE,okNil,builtE,gv,TD.isAgg,resV,↓reduceIte,Nat.reduceEqDiff,reduceCtorEq,Nat.reduceAdd,Nat.reduceMul,Nat.reduceLeDiff,za0,za2,Int.reduceEq,Int.reduceLT,Int.reduceLE,Nat.reduceLT,tiA,tiXA, Int.natCast_zero, h8, h7, h6, h5, h0, h3]
            exact o6
          · rintro m2 t Hy ⟨c, hm2, hc, h10, h8, h7, h6, h5, h0, h3, o7⟩
            try simp (disch := first | omega | (simp only [za1, List.length_replicate, List.length_set, zaP] <;> omega)) only [Sall,evalOp,init,binA_s,binE,binI,unE,convE,okNil,builtE,gv,TD.isAgg,resV,↓reduceIte,Nat.reduceEqDiff,reduceCtorEq,Nat.reduceAdd,Nat.reduceMul,Nat.reduceLeDiff,za0,za2,Int.reduceEq,Int.reduceLT,Int.reduceLE,Nat.reduceLT,tiA,tiXA, h10, h5, builtE, hwl]
            refine za4 (fun hh3 => ?_) (fun hh3 => ?_)
            · have hcP : c < P.length := by omega
              obtain ⟨x0, y0, hx0, hy0, exy⟩ := hp2 c hcP
              obtain ⟨xi, xo, xu, xc, xr, y, my, ex, x1, x2, x3, x4⟩ := (o7.rd2 1 rfl).get (j := c) hcP
              have hmy := x3.lenK1
              rw [exy] at hmy x3
              have hmy : my = 2 := hmy
              subst hmy
              obtain ⟨zi, zo, zu, zc, zr, ez, z1, z2, z3, _⟩ := x3.get (by omega)
              subst ez
              have hbn := zdU k c
              have z4 := z3 (bitN k c) (by omega)
              have hdiv := shr_u (b := k) (t := c) (by omega)
              have hbc : k / 2 ^ c ≤ k := Nat.div_le_self _ _
              have hand := and_one (x := k / 2 ^ c) (by omega)
              have hbit : k / 2 ^ c % 2 = bitN k c := rfl
              have hwc := wu64 c (by omega)
              have hcx : (c : Int) < (P.length : Int) := by omega
              obtain ⟨e, ee, hen⟩ : ∃ e : Nat, [(x0 : Int), (y0 : Int)].getD (bitN k c) 0 = e ∧ e < n := by
                rcases Nat.lt_or_ge (bitN k c) 1 with h | h
                · rw [show bitN k c = 0 by omega]; exact ⟨x0, rfl, hx0⟩
                · rw [show bitN k c = 1 by omega]; exact ⟨y0, rfl, hy0⟩
              rw [ee] at z4
              have e6 := (o7.getV 3 rfl).2.2
              have wc : IntKind.i64.wrap ((c : Int) + 1) = ((c + 1 : Nat) : Int) := w64 ⟨by omega, by omega⟩
              have gc : (0 : Int) ≤ (c : Int) := by omega
              have gk : (0 : Int) ≤ (bitN k c : Int) := by omega
              have gk2 : (bitN k c : Int) < ((2 : Nat) : Int) := by omega
              have ge1 : (0 : Int) ≤ (e : Int) := by omega
              have ge2 : (e : Int) < (n : Int) := by omega
              have op := o7.put 3 rfl (vs' := (ints (rowK n r k c)).set e (.int .i64 1)) (by simp)
              try simp (disch := first | omega | (simp only [za1, List.length_replicate, List.length_set, zaP] <;> omega)) only [Sall,evalOp,init,binA_s,binE,binI,unE,convE,okNil,builtE,gv,TD.isAgg,resV,↓reduceIte,Nat.reduceEqDiff,reduceCtorEq,Nat.reduceAdd,Nat.reduceMul,Nat.reduceLeDiff,za0,za2,Int.reduceEq,Int.reduceLT,Int.reduceLE,Nat.reduceLT,tiA,tiXA, h10, h8, h7, h6, h5, h0, h3, ex, x1, x2, x4, z1, z4, e6, hdiv, hand, hbit, hwc, hcx, gc, gk, gk2, ge1, ge2, wc]
              refine ⟨by rw [zd0]; exact hen, P.length - (c + 1), by omega, c + 1, rfl, by omega, rfl, ?_⟩
              rw [hrK, exy, ee, Int.toNat_natCast, ← zaR]
              rw [ex] at op
              exact op
            · have hce : c = P.length := by omega
              rw [hce] at o7
              have hu7 := (o7.rd2 2 rfl).one
              have z1 : zeros 1 [.slice none 0 0] = [.slice none 0 0] := rfl
              have hlen : ((List.range k).map fK).length = k := by simp
              try simp (disch := first | omega | (simp only [za1, List.length_replicate, List.length_set, zaP] <;> omega)) only [Sall,evalOp,init,binA_s,binE,binI,unE,convE,okNil,builtE,gv,TD.isAgg,resV,↓reduceIte,Nat.reduceEqDiff,reduceCtorEq,Nat.reduceAdd,Nat.reduceMul,Nat.reduceLeDiff,za0,za2,Int.reduceEq,Int.reduceLT,Int.reduceLE,Nat.reduceLT,tiA,tiXA, h8, h7, h6, h5, h0, h3, z1, zaL, hu7]
              (repeat refine And.intro (by omega) ?_)
              refine (o7.tmp ⟨33, true, [.slice (some ⟨li, 0, some 1⟩) n n]⟩).app2 (l := fK k) 2 3 rfl (by rw [efK]; rfl) (by omega) rfl (by decide) (by rw [hlen]; omega) ?_
              intro v' H5 n5 o8
              have wk : IntKind.i64.wrap ((k : Int) + 1) = ((k + 1 : Nat) : Int) := w64 ⟨by omega, by omega⟩
              try simp (disch := first | omega | (simp only [za1, List.length_replicate, List.length_set, zaP] <;> omega)) only [Sall,evalOp,init,binA_s,binE,binI,unE,convE,okNil,builtE,gv,TD.isAgg,resV,↓reduceIte,Nat.reduceEqDiff,reduceCtorEq,Nat.reduceAdd,Nat.reduceMul,Nat.reduceLeDiff,za0,za2,Int.reduceEq,Int.reduceLT,Int.reduceLE,Nat.reduceLT,tiA,tiXA, h7, h5, h0, h3, wk]
              refine ⟨N - (k + 1), by omega, k + 1, v', rfl, by omega, rfl, rfl, ?_⟩
              rw [List.range_succ, List.map_append]
              exact o8.pick3 0 1 2 rfl rfl rfl (by decide) (by decide) (by decide)
    · have hke : k = N := by omega
      rw [hke] at o4
      try simp (disch := first | omega | (simp only [za1, List.length_replicate, List.length_set, zaP] <;> omega)) only [Sall,evalOp,init,binA_s,binE,binI,unE,convE,okNil,builtE,gv,TD.isAgg,resV,↓reduceIte,Nat.reduceEqDiff,reduceCtorEq,Nat.reduceAdd,Nat.reduceMul,Nat.reduceLeDiff,za0,za2,Int.reduceEq,Int.reduceLT,Int.reduceLE,Nat.reduceLT,tiA,tiXA, h6]
      exact o4.only 2 rfl
end Go.Proofs.YtemgclojolmhbaaGreat.A
end

section
namespace Go.Abs
theorem brk_le (n : Nat) (x y : List Int) : 0 ≤ brk n x y ∧ brk n x y ≤ (n : Int) := by
  unfold brk
  induction n with
  | zero => exact ⟨Int.le_refl _, Int.le_refl _⟩
  | succ n ih =>
    have h : 0 ≤ brO x y n ∧ brO x y n ≤ 1 := by unfold brO; split <;> decide
    show 0 ≤ sumI (brO x y) n + brO x y n ∧ sumI (brO x y) n + brO x y n ≤ _
    omega
def rwI (R : Nat → List (List Int)) (i : Nat) : List (List Int) := if i = 0 then [] else R (i - 1)
def fwI (n : Nat) (R : Nat → List (List Int)) (i : Nat) : List Int := if i = 0 then [] else dpF n R (i - 1)
theorem zgL (n : Nat) (R : Nat → List (List Int)) (i : Nat) : (fwI n R i).length = (rwI R i).length := by
  unfold fwI rwI
  split
  · rfl
  · exact zgB n R _
theorem dp_at (n : Nat) (R : Nat → List (List Int)) (i k : Nat) (h : k < (R i).length) : (dpF n R i).getD k 0 = mnI (fun j => (fwI n R i).getD j 0 + brk n ((rwI R i).getD j []) ((R i).getD k [])) (rwI R i).length := by
  rcases i with _ | i
  · show ((R 0).map fun _ => (0 : Int)).getD k 0 = 0
    rw [List.getD_eq_getElem?_getD, List.getElem?_map, List.getElem?_eq_getElem h]
    rfl
  · show ((R (i + 1)).map fun y => mnI (fun j => (dpF n R i).getD j 0 + brk n ((R i).getD j []) y) (R i).length).getD k 0 = _
    rw [List.getD_eq_getElem?_getD, List.getElem?_map, List.getElem?_eq_getElem h, List.getD_eq_getElem?_getD (l := R (i + 1)), List.getElem?_eq_getElem h]
    rfl
theorem zh8 {g : Nat → Int} {b : Int} (hb : 0 ≤ b) : ∀ m, (∀ j, j < m → 0 ≤ g j ∧ g j ≤ b) → 0 ≤ mnI g m ∧ mnI g m ≤ b
  | 0, _ => ⟨Int.le_refl _, hb⟩
  | m + 1, h => by
    have ih := zh8 hb m fun j hj => h j (by omega)
    have h1 := h m (by omega)
    show 0 ≤ (if m = 0 ∨ g m < mnI g m then g m else mnI g m) ∧ (if m = 0 ∨ g m < mnI g m then g m else mnI g m) ≤ b
    split <;> omega
theorem dp_bound (n : Nat) (R : Nat → List (List Int)) : ∀ i k, k < (R i).length → 0 ≤ (dpF n R i).getD k 0 ∧ (dpF n R i).getD k 0 ≤ (i : Int) * (n : Int)
  | 0, k, h => by
    have : (dpF n R 0).getD k 0 = 0 := by
      show ((R 0).map fun _ => (0 : Int)).getD k 0 = 0
      rw [List.getD_eq_getElem?_getD, List.getElem?_map, List.getElem?_eq_getElem h]
      rfl
    rw [this]; simp
  | i + 1, k, h => by
    rw [dp_at n R (i + 1) k h]
    have e : ((i + 1 : Nat) : Int) * (n : Int) = (i : Int) * (n : Int) + n := by rw [Int.natCast_add, Int.add_mul]; simp
    have hin : (0 : Int) ≤ (i : Int) * (n : Int) := Int.mul_nonneg (by omega) (by omega)
    rw [e]
    refine zh8 (by omega) _ fun j hj => ?_
    have hj : j < (R i).length := hj
    have h1 := dp_bound n R i j hj
    have h2 := brk_le n ((R i).getD j []) ((R (i + 1)).getD k [])
    show 0 ≤ (dpF n R i).getD j 0 + brk n ((R i).getD j []) ((R (i + 1)).getD k []) ∧ (dpF n R i).getD j 0 + brk n ((R i).getD j []) ((R (i + 1)).getD k []) ≤ _
    omega
theorem fw_bound (n : Nat) (R : Nat → List (List Int)) (i k : Nat) (hi : i ≤ 40) (hn : n ≤ 14) (h : k < (rwI R i).length) : 0 ≤ (fwI n R i).getD k 0 ∧ (fwI n R i).getD k 0 ≤ 560 := by
  unfold rwI at h
  unfold fwI
  split at h
  · simp at h
  · rename_i h0
    rw [if_neg h0]
    have h1 := dp_bound n R (i - 1) k h
    have h2 : ((i - 1 : Nat) : Int) * (n : Int) ≤ 40 * 14 := Int.mul_le_mul (by omega) (by omega) (by omega) (by omega)
    omega
theorem take_getD (F : List Int) (k : Nat) (h : k < F.length) : F.take (k + 1) = F.take k ++ [F.getD k 0] := by
  rw [List.take_add_one, List.getElem?_eq_getElem h, List.getD_eq_getElem?_getD, List.getElem?_eq_getElem h]
  rfl
theorem dpB_fw (n : Nat) (R : Nat → List (List Int)) (k : Nat) : dpB n R k = mnI (fun j => (fwI n R k).getD j 0) (rwI R k).length := by
  rcases k with _ | i
  · rfl
  · rfl
theorem bk2_at (n : Nat) (x y : List Int) (a : Nat) (h : a < n) : (bkL n [x, y]).getD a 0 = brO x y a := by
  unfold bkL
  rw [List.getD_eq_getElem?_getD, List.getElem?_map, List.getElem?_range h]
  show bkI [x, y] a 0 + brO x y a = _
  rw [show bkI [x, y] a 0 = 0 from rfl, Int.zero_add]
end Go.Abs
end
