/- Contracts: PointsByRound on both sides. -/
import Derived.Test.YthabnjaapickiaaC12
import Derived.Test.YthabnjaapickiaaPl6
set_option linter.unusedSimpArgs false
set_option linter.unusedVariables false
set_option maxRecDepth 100000
set_option maxHeartbeats 2000000
--LEN ints_length, List.length_replicate, List.length_set
namespace Go.Proofs.Ythabnjaapickiaa.A
open Go Go.Abs Go.RowKit

theorem byRound1_c (q : Int) (v : Value) (a : Int) (p0 p1 : Nat) (H : AH) (hq : 2 ≤ q ∧ q ≤ 14) (hone : v.oneCell' = true) (h0 : H.row p0 = some ⟨30, true, [.int .i64 q, v]⟩) (h1 : H.row p1 = some ⟨2, true, [.int .i64 a]⟩) :
    ACalls Try.prog 101 [.pointer (some ⟨p0, 0, none⟩), .pointer (some ⟨p1, 0, none⟩)] H (is (.bool (decide (0 ≤ a ∧ a ≤ q - 1))) H) := by
  refine acalls_of_awp [.tmp 2] Try.func101 (by kernel_rfl) rfl rfl (Nat.le_of_ble_eq_true rfl) (by kernel_rfl) ?_
  try simp (disch := first | omega | (simp only [ints_length, List.length_replicate, List.length_set]; done) | (simp only [ints_length, List.length_replicate, List.length_set]; omega)) only [Sall,evalOp,init,binE,binI,unE,convE,okNil,builtE,gv,TD.isAgg,resV,↓reduceIte,Nat.reduceEqDiff,reduceCtorEq,Nat.reduceAdd,Nat.reduceMul,Nat.reduceLeDiff,quietOp,blindOp,Int.reduceEq,Int.reduceLT,Int.reduceLE,Nat.reduceLT,ti2,ti3,ti4,ti94,ti95,ti22,ti46,ti28,ti37,ti30,ti39,ti36,ti114,ti32,ti41, h0, h1, hone]
  refine (hasTeam_c q v a H hq hone).to ?_
  try simp (disch := first | omega | (simp only [ints_length, List.length_replicate, List.length_set]; done) | (simp only [ints_length, List.length_replicate, List.length_set]; omega)) only [Sall,evalOp,init,binE,binI,unE,convE,okNil,builtE,gv,TD.isAgg,resV,↓reduceIte,Nat.reduceEqDiff,reduceCtorEq,Nat.reduceAdd,Nat.reduceMul,Nat.reduceLeDiff,quietOp,blindOp,Int.reduceEq,Int.reduceLT,Int.reduceLE,Nat.reduceLT,ti2,ti3,ti4,ti94,ti95,ti22,ti46,ti28,ti37,ti30,ti39,ti36,ti114,ti32,ti41, is]

theorem byRound2_c (rd : Nat) (c d o a : Int) (p0 p1 i m : Nat) (L : List Int) (H : AH) (h0 : H.row p0 = some ⟨2, true, [.int .i64 a]⟩) (h1 : H.row p1 = some ⟨22, true, [.slice (some ⟨i, 0, some 1⟩) m m]⟩) (h2 : H.row i = some ⟨2, true, ints L⟩) (hL : L.length = m) (hr : rd + 1 < m) (hm : m ≤ 4294967296) :
    ACalls Try.prog 102 [.int .i64 rd, .int .i64 c, .int .i64 d, .int .i64 o, .pointer (some ⟨p0, 0, none⟩), .pointer (some ⟨p1, 0, none⟩)] H (fun _ H' => H' = if c = a then H.setCells i (ints (L.set (rd + 1) o)) else H) := by
  refine acalls_of_awp [] Try.func102 (by kernel_rfl) rfl rfl (Nat.le_of_ble_eq_true rfl) (by kernel_rfl) ?_
  have e1 : ((rd : Int) + 1) = ((rd + 1 : Nat) : Int) := rfl
  by_cases hc : c = a
  · have e0 : (c == a) = true := by simpa using hc
    try simp (disch := first | omega | (simp only [ints_length, List.length_replicate, List.length_set]; done) | (simp only [ints_length, List.length_replicate, List.length_set]; omega)) only [Sall,evalOp,init,binE,binI,unE,convE,okNil,builtE,gv,TD.isAgg,resV,↓reduceIte,Nat.reduceEqDiff,reduceCtorEq,Nat.reduceAdd,Nat.reduceMul,Nat.reduceLeDiff,quietOp,blindOp,Int.reduceEq,Int.reduceLT,Int.reduceLE,Nat.reduceLT,ti2,ti3,ti4,ti94,ti95,ti22,ti46,ti28,ti37,ti30,ti39,ti36,ti114,ti32,ti41, h0, e0, h1, h2, w64, e1, ints_set]
    (repeat refine And.intro (by omega) ?_)
    rw [if_pos hc]
  · have e0 : (c == a) = false := by simpa using hc
    try simp (disch := first | omega | (simp only [ints_length, List.length_replicate, List.length_set]; done) | (simp only [ints_length, List.length_replicate, List.length_set]; omega)) only [Sall,evalOp,init,binE,binI,unE,convE,okNil,builtE,gv,TD.isAgg,resV,↓reduceIte,Nat.reduceEqDiff,reduceCtorEq,Nat.reduceAdd,Nat.reduceMul,Nat.reduceLeDiff,quietOp,blindOp,Int.reduceEq,Int.reduceLT,Int.reduceLE,Nat.reduceLT,ti2,ti3,ti4,ti94,ti95,ti22,ti46,ti28,ti37,ti30,ti39,ti36,ti114,ti32,ti41, h0, e0]
    rw [if_neg hc]

def byR (q : Int) (k : Nat) (l : List Int) (ll : List (List Int)) (a : Int) : List Int := if schedB q k l = true ∧ (resB q.toNat k l ll && decide (0 ≤ a ∧ a ≤ q - 1)) = true then ptsBy q.toNat l ll a.toNat (ll.length + 1) else []
theorem byR_length (q : Int) (k : Nat) (l : List Int) (ll : List (List Int)) (a : Int) : (byR q k l ll a).length ≤ 41 := by
  unfold byR
  split
  · rename_i h
    obtain ⟨_, h2, _⟩ := schedB_at h.1
    have h3 := h.2
    rw [Bool.and_eq_true] at h3
    obtain ⟨h4, _⟩ := resB_at h3.1
    rw [ptsBy_length]; omega
  · simp

theorem PointsByRound_c (q : Int) (v : Value) (k : Nat) (l : List Int) (x : Value) (ll : List (List Int)) (a : Int) (H : AH) (hv : Rd 14 H v k l) (hk : k ≤ 4294967296) (hx : Rd2 1 H x ll) (hl : ll.length ≤ 4294967296) (hl2 : ∀ y ∈ ll, y.length ≤ 4294967296)
    (_ : -9223372036854775808 ≤ a ∧ a ≤ 9223372036854775807) :
    ACalls Try.prog 53 [.agg #[.int .i64 q, v], x, .int .i64 a] H (fun r H' => ∃ u, r = .tuple #[u, .int .i64 (codeS q k l (resB q.toNat k l ll && decide (0 ≤ a ∧ a ≤ q - 1)))] ∧ Up H.next H H' ∧ Fr 1 2 H.next H'.next H' u (byR q k l ll a).length (byR q k l ll a)) := by
  refine ACalls.wf (by kernel_rfl) fun hs => acalls_of_awp [.tmp 6, .tmp 7] Try.func53 (by kernel_rfl) rfl rfl (Nat.le_of_ble_eq_true rfl) (by kernel_rfl) ?_
  have hone := hv.one
  try simp (disch := first | omega | (simp only [ints_length, List.length_replicate, List.length_set]; done) | (simp only [ints_length, List.length_replicate, List.length_set]; omega)) only [Sall,evalOp,init,binE,binI,unE,convE,okNil,builtE,gv,TD.isAgg,resV,↓reduceIte,Nat.reduceEqDiff,reduceCtorEq,Nat.reduceAdd,Nat.reduceMul,Nat.reduceLeDiff,quietOp,blindOp,Int.reduceEq,Int.reduceLT,Int.reduceLE,Nat.reduceLT,ti2,ti3,ti4,ti94,ti95,ti22,ti46,ti28,ti37,ti30,ti39,ti36,ti114,ti32,ti41, hone]
  obtain ⟨H1, eg⟩ : ∃ H1, H1 = (H.push ⟨30, true, [.int .i64 q, v]⟩).push ⟨2, true, [.int .i64 a]⟩ := ⟨_, rfl⟩
  have up : Up H.next H H1 := by rw [eg]; exact ((Up.refl _ H).push (by omega) _).push (by simp only [AH.push_next]; omega) _
  have g0 : H1.row H.next = some ⟨30, true, [.int .i64 q, v]⟩ := by rw [eg]; (simp [AH.setCells_row, AH.push_row, AH.push_next] <;> (try omega) <;> (repeat rw [if_neg (by omega)]))
  have g1 : H1.row (H.next + 1) = some ⟨2, true, [.int .i64 a]⟩ := by rw [eg]; (simp [AH.setCells_row, AH.push_row, AH.push_next] <;> (try omega) <;> (repeat rw [if_neg (by omega)]))
  have n1 : H1.next = H.next + 2 := by rw [eg]; rfl
  rw [← eg]
  clear eg
  have hv1 := hv.same (up.le hs).row
  have hx1 := hx.same (up.le hs).row
  try simp (disch := first | omega | (simp only [ints_length, List.length_replicate, List.length_set]; done) | (simp only [ints_length, List.length_replicate, List.length_set]; omega)) only [Sall,evalOp,init,binE,binI,unE,convE,okNil,builtE,gv,TD.isAgg,resV,↓reduceIte,Nat.reduceEqDiff,reduceCtorEq,Nat.reduceAdd,Nat.reduceMul,Nat.reduceLeDiff,quietOp,blindOp,Int.reduceEq,Int.reduceLT,Int.reduceLE,Nat.reduceLT,ti2,ti3,ti4,ti94,ti95,ti22,ti46,ti28,ti37,ti30,ti39,ti36,ti114,ti32,ti41, hone, g0, List.mem_cons, List.not_mem_nil, or_false, forall_eq_or_imp, forall_eq, Array.size_empty]
  refine (resultsCode_c q v k l x ll 101 [.pointer (some ⟨H.next, 0, none⟩), .pointer (some ⟨H.next + 1, 0, none⟩)] (decide (0 ≤ a ∧ a ≤ q - 1)) H1 hv1 hk hx1 hl hl2 ?_).to ?_
  · intro H' up' hb _
    obtain ⟨h2, _, _⟩ := schedB_at hb
    exact byRound1_c q v a _ _ H' h2 hone (by rw [up'.row _ (by omega), g0]) (by rw [up'.row _ (by omega), g1])
  by_cases hok : schedB q k l = true ∧ (resB q.toNat k l ll && decide (0 ≤ a ∧ a ≤ q - 1)) = true
  · obtain ⟨hb, hok2⟩ := hok
    unfold byR
    rw [if_pos ⟨hb, hok2⟩, codeS_yes hb hok2]
    rw [Bool.and_eq_true] at hok2
    obtain ⟨hres, hteam⟩ := hok2
    have hteam := of_decide_eq_true hteam
    obtain ⟨h2, hk40, _⟩ := schedB_at hb
    obtain ⟨n, rfl⟩ : ∃ n : Nat, q = n := ⟨q.toNat, by omega⟩
    obtain ⟨a, rfl⟩ : ∃ b : Nat, a = b := ⟨a.toNat, by omega⟩
    rw [Int.toNat_natCast] at hres ⊢
    rw [Int.toNat_natCast]
    obtain ⟨hlk, _⟩ := resB_at hres
    have em : ((ll.length : Int) + 1) = ((ll.length + 1 : Nat) : Int) := rfl
    have ne1 : ¬ H.next = H.next + 3 := by omega
    have ne2 : ¬ H.next = H.next + 2 + 1 := by omega
    try simp (disch := first | omega | (simp only [ints_length, List.length_replicate, List.length_set]; done) | (simp only [ints_length, List.length_replicate, List.length_set]; omega)) only [Sall,evalOp,init,binE,binI,unE,convE,okNil,builtE,gv,TD.isAgg,resV,↓reduceIte,Nat.reduceEqDiff,reduceCtorEq,Nat.reduceAdd,Nat.reduceMul,Nat.reduceLeDiff,quietOp,blindOp,Int.reduceEq,Int.reduceLT,Int.reduceLE,Nat.reduceLT,ti2,ti3,ti4,ti94,ti95,ti22,ti46,ti28,ti37,ti30,ti39,ti36,ti114,ti32,ti41, bne_self_eq_false, n1, g0, builtE, hx1.len, w64, em, zeros_int1, push_setCells, ne1, ne2, List.mem_cons, List.not_mem_nil, or_false, forall_eq_or_imp, forall_eq, Array.size_empty]
    refine ⟨by omega, ?_⟩
    obtain ⟨Hg, eg⟩ : ∃ Hg, Hg = ((H1.push ⟨2, true, ints (List.replicate (ll.length + 1) 0)⟩).push ⟨22, true, [.slice none 0 0]⟩).setCells (H.next + 1 + 2) [.slice (some ⟨H.next + 2, 0, some 1⟩) (ll.length + 1) (ll.length + 1)] := ⟨_, rfl⟩
    have up2 : Up H.next H Hg := by rw [eg]; exact ((up.push (by omega) _).push (by simp only [AH.push_next]; omega) _).set (by omega) _
    have ng : Hg.next = H.next + 4 := by rw [eg]; simp only [AH.setCells_next, AH.push_next]; omega
    have old : ∀ i, i < H.next + 2 → Hg.row i = H1.row i := fun i hi => by rw [eg, AH.setCells_row, if_neg (by omega), AH.push_row, if_neg (by rw [AH.push_next]; omega), AH.push_row, if_neg (by omega)]
    have g2 : Hg.row (H.next + 2) = some ⟨2, true, ints (List.replicate (ll.length + 1) 0)⟩ := by rw [eg, AH.setCells_row, if_neg (by omega), AH.push_row, if_neg (by rw [AH.push_next]; omega), AH.push_row, if_pos (by omega)]
    have g3 : Hg.row (H.next + 3) = some ⟨22, true, [.slice (some ⟨H.next + 2, 0, some 1⟩) (ll.length + 1) (ll.length + 1)]⟩ := by rw [eg, AH.setCells_row, if_pos (by omega), show H.next + 1 + 2 = (H1.push ⟨2, true, ints (List.replicate (ll.length + 1) 0)⟩).next by rw [AH.push_next]; omega, AH.push_row, if_pos rfl]; rfl
    rw [← eg]
    clear eg
    refine (games_c n v k l x ll 102 [.pointer (some ⟨H.next + 1, 0, none⟩), .pointer (some ⟨H.next + 3, 0, none⟩)]
      (fun es H1 => Up H.next H H1 ∧ H.next + 4 ≤ H1.next ∧ H1.row (H.next + 1) = some ⟨2, true, [.int .i64 a]⟩ ∧ H1.row (H.next + 3) = some ⟨22, true, [.slice (some ⟨H.next + 2, 0, some 1⟩) (ll.length + 1) (ll.length + 1)]⟩ ∧ H1.row (H.next + 2) = some ⟨2, true, ints (byRd a ll.length es)⟩)
      H Hg hb hres ⟨up2, by omega, by rw [old _ (by omega), g1], g3, by rw [byRd_nil]; exact g2⟩ hl hv hx (fun es H' hS i r hr => by rw [hS.1.row i (hs _ _ hr), hr]) ?_ ?_).mono ?_
    · rintro es H1 H2 ⟨u1, m1, k1, k2, k3⟩ hn2 hr2
      exact ⟨⟨by have := u1.next; omega, fun i hi => by rw [hr2 i (by omega), u1.row i hi]⟩, by omega, by rw [hr2 _ (by omega), k1], by rw [hr2 _ (by omega), k2], by rw [hr2 _ (by omega), k3]⟩
    · rintro es rd p q o H1 ⟨u1, m1, k1, k2, k3⟩ hn1 hrd hp hq ho
      refine (byRound2_c rd p q o a _ _ _ _ _ H1 k1 k2 k3 (byRd_length _ _ _) (by omega) (by omega)).mono ?_
      rintro _ H2 rfl
      rw [byRd_append]
      dsimp only
      by_cases c1 : p = (a : Int)
      · rw [if_pos c1, if_pos c1]
        exact ⟨⟨u1.set (by omega) _, m1, by rw [AH.setCells_row, if_neg (by omega), k1], by rw [AH.setCells_row, if_neg (by omega), k2], by rw [AH.setCells_row, if_pos rfl, k3]; rfl⟩, Nat.le_refl _, fun i hi _ => by rw [AH.setCells_row, if_neg (by omega)]⟩
      · rw [if_neg c1, if_neg c1]
        exact ⟨⟨u1, m1, k1, k2, k3⟩, Nat.le_refl _, fun i hi _ => rfl⟩
    · rintro _ H2 ⟨⟨u1, m1, k1, k2, k3⟩, hn2⟩
      have hx2 := hx.same (u1.le hs).row
      refine Holds.mp ?_
      try simp (disch := first | omega | (simp only [ints_length, List.length_replicate, List.length_set]; done) | (simp only [ints_length, List.length_replicate, List.length_set]; omega)) only [Sall,evalOp,init,binE,binI,unE,convE,okNil,builtE,gv,TD.isAgg,resV,↓reduceIte,Nat.reduceEqDiff,reduceCtorEq,Nat.reduceAdd,Nat.reduceMul,Nat.reduceLeDiff,quietOp,blindOp,Int.reduceEq,Int.reduceLT,Int.reduceLE,Nat.reduceLT,ti2,ti3,ti4,ti94,ti95,ti22,ti46,ti28,ti37,ti30,ti39,ti36,ti114,ti32,ti41, builtE, hx2.len]
      obtain ⟨L, hL⟩ : ∃ L, L = byRd a ll.length (meets n l ll ll.length) := ⟨_, rfl⟩
      rw [← hL] at k3
      have hLl : L.length = ll.length + 1 := by rw [hL, byRd_length]
      refine awp_loop (fun m t H' => ∃ c : Nat, m = ll.length - c ∧ c ≤ ll.length ∧ t 28 = .int .i64 c ∧ t 27 = .int .i64 ll.length ∧ t 9 = .pointer (some ⟨H.next + 3, 0, none⟩) ∧ Up H.next H H' ∧ H.next + 4 ≤ H'.next ∧ H'.row (H.next + 3) = some ⟨22, true, [.slice (some ⟨H.next + 2, 0, some 1⟩) (ll.length + 1) (ll.length + 1)]⟩ ∧ H'.row (H.next + 2) = some ⟨2, true, ints (pref c L)⟩) ll.length ?_ ?_
      · refine ⟨0, by omega, by omega, ?_⟩
        try simp (disch := first | omega | (simp only [ints_length, List.length_replicate, List.length_set]; done) | (simp only [ints_length, List.length_replicate, List.length_set]; omega)) only [Sall,evalOp,init,binE,binI,unE,convE,okNil,builtE,gv,TD.isAgg,resV,↓reduceIte,Nat.reduceEqDiff,reduceCtorEq,Nat.reduceAdd,Nat.reduceMul,Nat.reduceLeDiff,quietOp,blindOp,Int.reduceEq,Int.reduceLT,Int.reduceLE,Nat.reduceLT,ti2,ti3,ti4,ti94,ti95,ti22,ti46,ti28,ti37,ti30,ti39,ti36,ti114,ti32,ti41, Int.natCast_zero]
        exact ⟨u1, m1, k2, k3⟩
      · rintro m t H' ⟨c, hm, hcl, h28, h27, h9, hup, hnx, r3, r2⟩
        try simp (disch := first | omega | (simp only [ints_length, List.length_replicate, List.length_set]; done) | (simp only [ints_length, List.length_replicate, List.length_set]; omega)) only [Sall,evalOp,init,binE,binI,unE,convE,okNil,builtE,gv,TD.isAgg,resV,↓reduceIte,Nat.reduceEqDiff,reduceCtorEq,Nat.reduceAdd,Nat.reduceMul,Nat.reduceLeDiff,quietOp,blindOp,Int.reduceEq,Int.reduceLT,Int.reduceLE,Nat.reduceLT,ti2,ti3,ti4,ti94,ti95,ti22,ti46,ti28,ti37,ti30,ti39,ti36,ti114,ti32,ti41, h28, h27]
        refine condC_dec (fun h => ?_) (fun h => ?_)
        · have hpl := pref_length c L
          have e1 : ((c : Int) + 1) = ((c + 1 : Nat) : Int) := rfl
          try simp (disch := first | omega | (simp only [ints_length, List.length_replicate, List.length_set]; done) | (simp only [ints_length, List.length_replicate, List.length_set]; omega)) only [Sall,evalOp,init,binE,binI,unE,convE,okNil,builtE,gv,TD.isAgg,resV,↓reduceIte,Nat.reduceEqDiff,reduceCtorEq,Nat.reduceAdd,Nat.reduceMul,Nat.reduceLeDiff,quietOp,blindOp,Int.reduceEq,Int.reduceLT,Int.reduceLE,Nat.reduceLT,ti2,ti3,ti4,ti94,ti95,ti22,ti46,ti28,ti37,ti30,ti39,ti36,ti114,ti32,ti41, h28, h9]
          refine draw_id (by kernel_rfl) (by kernel_rfl) ?_
          try simp (disch := first | omega | (simp only [ints_length, List.length_replicate, List.length_set]; done) | (simp only [ints_length, List.length_replicate, List.length_set]; omega)) only [Sall,evalOp,init,binE,binI,unE,convE,okNil,builtE,gv,TD.isAgg,resV,↓reduceIte,Nat.reduceEqDiff,reduceCtorEq,Nat.reduceAdd,Nat.reduceMul,Nat.reduceLeDiff,quietOp,blindOp,Int.reduceEq,Int.reduceLT,Int.reduceLE,Nat.reduceLT,ti2,ti3,ti4,ti94,ti95,ti22,ti46,ti28,ti37,ti30,ti39,ti36,ti114,ti32,ti41, h9, r3, r2, w64, e1, ints_get?, ints_set]
          (repeat refine And.intro (by omega) ?_)
          refine ⟨.inr (.inl (by kernel_rfl)), ?_⟩
          try simp (disch := first | omega | (simp only [ints_length, List.length_replicate, List.length_set]; done) | (simp only [ints_length, List.length_replicate, List.length_set]; omega)) only [Sall,evalOp,init,binE,binI,unE,convE,okNil,builtE,gv,TD.isAgg,resV,↓reduceIte,Nat.reduceEqDiff,reduceCtorEq,Nat.reduceAdd,Nat.reduceMul,Nat.reduceLeDiff,quietOp,blindOp,Int.reduceEq,Int.reduceLT,Int.reduceLE,Nat.reduceLT,ti2,ti3,ti4,ti94,ti95,ti22,ti46,ti28,ti37,ti30,ti39,ti36,ti114,ti32,ti41, h28, h27, h9, w64, e1]
          refine ⟨ll.length - (c + 1), by omega, c + 1, rfl, by omega, rfl, hup.set (by omega) _, hnx, ?_, ?_⟩
          · exact r3
          · rw [r2]; rfl
        · have hc : c = ll.length := by omega
          subst hc
          try simp (disch := first | omega | (simp only [ints_length, List.length_replicate, List.length_set]; done) | (simp only [ints_length, List.length_replicate, List.length_set]; omega)) only [Sall,evalOp,init,binE,binI,unE,convE,okNil,builtE,gv,TD.isAgg,resV,↓reduceIte,Nat.reduceEqDiff,reduceCtorEq,Nat.reduceAdd,Nat.reduceMul,Nat.reduceLeDiff,quietOp,blindOp,Int.reduceEq,Int.reduceLT,Int.reduceLE,Nat.reduceLT,ti2,ti3,ti4,ti94,ti95,ti22,ti46,ti28,ti37,ti30,ti39,ti36,ti114,ti32,ti41, h9, r3]
          refine ⟨_, rfl, hup, ?_⟩
          rw [ptsBy_length, ← pref_all hb (by omega) hlk, ← hL]
          exact ⟨by rw [pref_length, hLl]; omega, .inr ⟨H.next + 2, by omega, by omega, rfl, r2⟩⟩
  · have ec := codeS_no hok
    unfold byR
    rw [if_neg hok]
    try simp (disch := first | omega | (simp only [ints_length, List.length_replicate, List.length_set]; done) | (simp only [ints_length, List.length_replicate, List.length_set]; omega)) only [Sall,evalOp,init,binE,binI,unE,convE,okNil,builtE,gv,TD.isAgg,resV,↓reduceIte,Nat.reduceEqDiff,reduceCtorEq,Nat.reduceAdd,Nat.reduceMul,Nat.reduceLeDiff,quietOp,blindOp,Int.reduceEq,Int.reduceLT,Int.reduceLE,Nat.reduceLT,ti2,ti3,ti4,ti94,ti95,ti22,ti46,ti28,ti37,ti30,ti39,ti36,ti114,ti32,ti41, ec]
    exact ⟨_, rfl, up, fr_nil _ _ _ _⟩

theorem specPointsByRound_c (q : Int) (v : Value) (k : Nat) (l : List Int) (x : Value) (ll : List (List Int)) (a : Int) (H : AH) (hv : Rd 14 H v k l) (hk : k ≤ 4294967296) (hx : Rd2 1 H x ll) (hl : ll.length ≤ 4294967296) (hl2 : ∀ y ∈ ll, y.length ≤ 4294967296)
    (_ : -9223372036854775808 ≤ a ∧ a ≤ 9223372036854775807) :
    ACalls Try.prog 52 [.agg #[.int .i64 q, v], x, .int .i64 a] H (fun r H' => ∃ u, r = .tuple #[u, .int .i64 (codeS q k l (resB q.toNat k l ll && decide (0 ≤ a ∧ a ≤ q - 1)))] ∧ Up H.next H H' ∧ Fr 1 2 H.next H'.next H' u (byR q k l ll a).length (byR q k l ll a)) := by
  refine ACalls.wf (by kernel_rfl) fun hs => acalls_of_awp [.tmp 6, .tmp 7] Try.func52 (by kernel_rfl) rfl rfl (Nat.le_of_ble_eq_true rfl) (by kernel_rfl) ?_
  have hone := hv.one
  have zz : zeros 1 [.int .i64 0] = [.int .i64 0] := rfl
  try simp (disch := first | omega | (simp only [ints_length, List.length_replicate, List.length_set]; done) | (simp only [ints_length, List.length_replicate, List.length_set]; omega)) only [Sall,evalOp,init,binE,binI,unE,convE,okNil,builtE,gv,TD.isAgg,resV,↓reduceIte,Nat.reduceEqDiff,reduceCtorEq,Nat.reduceAdd,Nat.reduceMul,Nat.reduceLeDiff,quietOp,blindOp,Int.reduceEq,Int.reduceLT,Int.reduceLE,Nat.reduceLT,ti2,ti3,ti4,ti94,ti95,ti22,ti46,ti28,ti37,ti30,ti39,ti36,ti114,ti32,ti41, hone, zz]
  obtain ⟨H1, eg⟩ : ∃ H1, H1 = (H.push ⟨30, true, [.int .i64 q, v]⟩).push ⟨2, true, [.int .i64 a]⟩ := ⟨_, rfl⟩
  have up : Up H.next H H1 := by rw [eg]; exact ((Up.refl _ H).push (by omega) _).push (by simp only [AH.push_next]; omega) _
  have g0 : H1.row H.next = some ⟨30, true, [.int .i64 q, v]⟩ := by rw [eg]; (simp [AH.setCells_row, AH.push_row, AH.push_next] <;> (try omega) <;> (repeat rw [if_neg (by omega)]))
  have g1 : H1.row (H.next + 1) = some ⟨2, true, ints [a]⟩ := by rw [eg, AH.push_row, if_pos (by rw [AH.push_next])]; rfl
  have n1 : H1.next = H.next + 2 := by rw [eg]; rfl
  rw [← eg]
  clear eg
  have hv1 := hv.same (up.le hs).row
  have hx1 := hx.same (up.le hs).row
  have ht : Rd 1 H1 (.slice (some ⟨H.next + 1, 0, some 1⟩) 1 1) 1 [a] := Fr.rd (ty := 2) (lo := 0) (hi := H.next + 2) ⟨rfl, .inr ⟨H.next + 1, by omega, by omega, rfl, g1⟩⟩
  refine (l10Code_c q v k l x ll _ 1 [a] H1 hv1 hk hx1 hl hl2 ht (by omega)).to ?_
  have eall : ((List.range 1).all fun i => decide (0 ≤ [a].getD i 0 ∧ [a].getD i 0 ≤ q - 1)) = decide (0 ≤ a ∧ a ≤ q - 1) := by
    show (decide (0 ≤ a ∧ a ≤ q - 1) && true) = _
    rw [Bool.and_true]
  rw [eall]
  by_cases hok : schedB q k l = true ∧ (resB q.toNat k l ll && decide (0 ≤ a ∧ a ≤ q - 1)) = true
  · obtain ⟨hb, hok2⟩ := hok
    unfold byR
    rw [if_pos ⟨hb, hok2⟩, codeS_yes hb hok2]
    rw [Bool.and_eq_true] at hok2
    obtain ⟨hres, hteam⟩ := hok2
    have hteam := of_decide_eq_true hteam
    obtain ⟨h2, hk40, _⟩ := schedB_at hb
    obtain ⟨n, rfl⟩ : ∃ n : Nat, q = n := ⟨q.toNat, by omega⟩
    obtain ⟨a, rfl⟩ : ∃ b : Nat, a = b := ⟨a.toNat, by omega⟩
    rw [Int.toNat_natCast] at hres ⊢
    rw [Int.toNat_natCast]
    obtain ⟨hlk, _⟩ := resB_at hres
    try simp (disch := first | omega | (simp only [ints_length, List.length_replicate, List.length_set]; done) | (simp only [ints_length, List.length_replicate, List.length_set]; omega)) only [Sall,evalOp,init,binE,binI,unE,convE,okNil,builtE,gv,TD.isAgg,resV,↓reduceIte,Nat.reduceEqDiff,reduceCtorEq,Nat.reduceAdd,Nat.reduceMul,Nat.reduceLeDiff,quietOp,blindOp,Int.reduceEq,Int.reduceLT,Int.reduceLE,Nat.reduceLT,ti2,ti3,ti4,ti94,ti95,ti22,ti46,ti28,ti37,ti30,ti39,ti36,ti114,ti32,ti41, bne_self_eq_false, zeros_zero]
    refine awp_loop (fun m t H' => ∃ (c : Nat) (u : Value) (lo hi : Nat), m = ll.length + 1 - c ∧ c ≤ ll.length + 1 ∧ t 10 = .int .i64 c ∧ t 9 = u ∧ t 2 = .int .i64 a ∧ t 1 = x ∧ t 3 = .pointer (some ⟨H.next, 0, none⟩) ∧ Up H.next H H' ∧ H'.row H.next = some ⟨30, true, [.int .i64 n, v]⟩ ∧ H.next < lo ∧ lo ≤ hi ∧ hi ≤ H'.next ∧ Fr 1 2 lo hi H' u c (ptsBy n l ll a c)) (ll.length + 1) ?_ ?_
    · refine ⟨0, .slice (some ⟨H1.next, 0, some 1⟩) 0 0, H1.next, H1.next + 1, by omega, by omega, ?_⟩
      try simp (disch := first | omega | (simp only [ints_length, List.length_replicate, List.length_set]; done) | (simp only [ints_length, List.length_replicate, List.length_set]; omega)) only [Sall,evalOp,init,binE,binI,unE,convE,okNil,builtE,gv,TD.isAgg,resV,↓reduceIte,Nat.reduceEqDiff,reduceCtorEq,Nat.reduceAdd,Nat.reduceMul,Nat.reduceLeDiff,quietOp,blindOp,Int.reduceEq,Int.reduceLT,Int.reduceLE,Nat.reduceLT,ti2,ti3,ti4,ti94,ti95,ti22,ti46,ti28,ti37,ti30,ti39,ti36,ti114,ti32,ti41, Int.natCast_zero]
      refine ⟨up.push (by omega) _, by rw [if_neg (by omega), g0], ?_⟩
      (repeat refine And.intro (by omega) ?_)
      exact ⟨rfl, .inr ⟨H1.next, by omega, by omega, rfl, by rw [AH.push_row, if_pos rfl]; rfl⟩⟩
    · rintro m t H' ⟨c, u, lo, hi, hm, hcl, h10, h9, h2', h1, h3, hup, hr1, hlo, hlh, hhi, hfr⟩
      have hlh' := hup.next
      try simp (disch := first | omega | (simp only [ints_length, List.length_replicate, List.length_set]; done) | (simp only [ints_length, List.length_replicate, List.length_set]; omega)) only [Sall,evalOp,init,binE,binI,unE,convE,okNil,builtE,gv,TD.isAgg,resV,↓reduceIte,Nat.reduceEqDiff,reduceCtorEq,Nat.reduceAdd,Nat.reduceMul,Nat.reduceLeDiff,quietOp,blindOp,Int.reduceEq,Int.reduceLT,Int.reduceLE,Nat.reduceLT,ti2,ti3,ti4,ti94,ti95,ti22,ti46,ti28,ti37,ti30,ti39,ti36,ti114,ti32,ti41, h10, h1, builtE, hx.len]
      refine condC_dec (fun h => ?_) (fun h => ?_)
      · have hx' := hx.same (hup.le hs).row
        have hv' := hv.same (hup.le hs).row
        try simp (disch := first | omega | (simp only [ints_length, List.length_replicate, List.length_set]; done) | (simp only [ints_length, List.length_replicate, List.length_set]; omega)) only [Sall,evalOp,init,binE,binI,unE,convE,okNil,builtE,gv,TD.isAgg,resV,↓reduceIte,Nat.reduceEqDiff,reduceCtorEq,Nat.reduceAdd,Nat.reduceMul,Nat.reduceLeDiff,quietOp,blindOp,Int.reduceEq,Int.reduceLT,Int.reduceLE,Nat.reduceLT,ti2,ti3,ti4,ti94,ti95,ti22,ti46,ti28,ti37,ti30,ti39,ti36,ti114,ti32,ti41, h9, h3, h1, h10, hr1]
        refine (l10Points_c n v k l x ll c H' hb hres (by omega) hl hv' hx').mono ?_
        rintro pu H3 ⟨up3, hpu⟩
        obtain ⟨ip, w1, w2, rfl, w3⟩ := hpu.get (by omega)
        have hsl := sumsF_length n (fun _ o => o) (meets n l ll c)
        have n3 := up3.next
        refine Holds.mp ?_
        try simp (disch := first | omega | (simp only [ints_length, List.length_replicate, List.length_set]; done) | (simp only [ints_length, List.length_replicate, List.length_set]; omega)) only [Sall,evalOp,init,binE,binI,unE,convE,okNil,builtE,gv,TD.isAgg,resV,↓reduceIte,Nat.reduceEqDiff,reduceCtorEq,Nat.reduceAdd,Nat.reduceMul,Nat.reduceLeDiff,quietOp,blindOp,Int.reduceEq,Int.reduceLT,Int.reduceLE,Nat.reduceLT,ti2,ti3,ti4,ti94,ti95,ti22,ti46,ti28,ti37,ti30,ti39,ti36,ti114,ti32,ti41, h9, h3, h1, h2', h10, w3, ints_get?, zz, slCells]
        (repeat refine And.intro (by omega) ?_)
        obtain ⟨H4, e4⟩ : ∃ H4, H4 = H3.push ⟨2, true, [.int .i64 ((sumsF n (fun _ o => o) (meets n l ll c)).getD a 0)]⟩ := ⟨_, rfl⟩
        have s4 : ∀ i, i < H3.next → H4.row i = H3.row i := fun i hi => by rw [e4, AH.push_row, if_neg (by omega)]
        have n4 : H4.next = H3.next + 1 := by rw [e4]; rfl
        rw [← e4]
        clear e4
        refine appE_fr (k := 1) (lo := lo) (hi := hi) (l := ptsBy n l ll a c) (m := [(sumsF n (fun _ o => o) (meets n l ll c)).getD a 0]) (hfr.same fun i _ hi => by rw [s4 i (by omega), up3.row i (by omega)]) rfl (by omega) rfl (by omega) (by decide) (by omega) (by omega) ?_
        intro v' H5 n5 s5 f5
        try simp (disch := first | omega | (simp only [ints_length, List.length_replicate, List.length_set]; done) | (simp only [ints_length, List.length_replicate, List.length_set]; omega)) only [Sall,evalOp,init,binE,binI,unE,convE,okNil,builtE,gv,TD.isAgg,resV,↓reduceIte,Nat.reduceEqDiff,reduceCtorEq,Nat.reduceAdd,Nat.reduceMul,Nat.reduceLeDiff,quietOp,blindOp,Int.reduceEq,Int.reduceLT,Int.reduceLE,Nat.reduceLT,ti2,ti3,ti4,ti94,ti95,ti22,ti46,ti28,ti37,ti30,ti39,ti36,ti114,ti32,ti41, h10, h2', h1, h3, w64]
        refine ⟨ll.length + 1 - (c + 1), by omega, c + 1, v', H4.next, H4.next + 1, rfl, by omega, rfl, rfl, ⟨by omega, fun i hi => ?_⟩, ?_, by omega, by omega, by omega, ?_⟩
        · rw [s5 i (by omega) (by omega), s4 i (by omega), up3.row i (by omega), hup.row i hi]
        · rw [s5 _ (by omega) (by omega), s4 _ (by omega), up3.row _ (by omega), hr1]
        · rw [ptsBy_succ]; exact f5
      · try simp (disch := first | omega | (simp only [ints_length, List.length_replicate, List.length_set]; done) | (simp only [ints_length, List.length_replicate, List.length_set]; omega)) only [Sall,evalOp,init,binE,binI,unE,convE,okNil,builtE,gv,TD.isAgg,resV,↓reduceIte,Nat.reduceEqDiff,reduceCtorEq,Nat.reduceAdd,Nat.reduceMul,Nat.reduceLeDiff,quietOp,blindOp,Int.reduceEq,Int.reduceLT,Int.reduceLE,Nat.reduceLT,ti2,ti3,ti4,ti94,ti95,ti22,ti46,ti28,ti37,ti30,ti39,ti36,ti114,ti32,ti41, h9]
        have hc : c = ll.length + 1 := by omega
        subst hc
        refine ⟨_, rfl, hup, ?_⟩
        rw [ptsBy_length]
        exact hfr.wide (by omega) hhi
  · have ec := codeS_no hok
    unfold byR
    rw [if_neg hok]
    try simp (disch := first | omega | (simp only [ints_length, List.length_replicate, List.length_set]; done) | (simp only [ints_length, List.length_replicate, List.length_set]; omega)) only [Sall,evalOp,init,binE,binI,unE,convE,okNil,builtE,gv,TD.isAgg,resV,↓reduceIte,Nat.reduceEqDiff,reduceCtorEq,Nat.reduceAdd,Nat.reduceMul,Nat.reduceLeDiff,quietOp,blindOp,Int.reduceEq,Int.reduceLT,Int.reduceLE,Nat.reduceLT,ti2,ti3,ti4,ti94,ti95,ti22,ti46,ti28,ti37,ti30,ti39,ti36,ti114,ti32,ti41, ec]
    exact ⟨_, rfl, up, fr_nil _ _ _ _⟩
end Go.Proofs.Ythabnjaapickiaa.A
