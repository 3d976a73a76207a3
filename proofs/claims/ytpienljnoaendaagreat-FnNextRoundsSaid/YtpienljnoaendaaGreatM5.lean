/- Contracts: PointsByRound on both sides. And what follows. -/
import Derived.Test.YtpienljnoaendaaGreatM4
import Derived.Shelf.SlicesG.Delete
import Derived.Sort.OwnSortedInts
set_option linter.unusedSimpArgs false
set_option linter.unusedVariables false
section
set_option maxRecDepth 100000
set_option maxHeartbeats 2000000
namespace Go.Proofs.YtpienljnoaendaaGreat.A
open Go Go.Abs Go.RowKit
theorem byRound1_c (q : Int) (v : Value) (a : Int) (p0 p1 : Nat) (H : AH) (hq : 2 ≤ q ∧ q ≤ 14) (hone : v.oneCell' = true) (h0 : H.row p0 = some ⟨26, true, [.int .i64 q, v]⟩) (h1 : H.row p1 = some ⟨2, true, [.int .i64 a]⟩) :
    ACalls Tryz.prog 180 [.pointer (some ⟨p0, 0, none⟩), .pointer (some ⟨p1, 0, none⟩)] H (is (.bool (decide (0 ≤ a ∧ a ≤ q - 1))) H) := by
  refine za3 [.tmp 2] Tryz.func180 (by kernel_rfl) rfl rfl (Nat.le_of_ble_eq_true rfl) (by kernel_rfl) ?_
  try simp (disch := first | omega | (simp only [L3] <;> omega)) only [Sall,evalOp,init,binA_s,binE,binI,unE,convE,okNil,builtE,gv,TD.isAgg,resV,↓reduceIte,Nat.reduceEqDiff,reduceCtorEq,Nat.reduceAdd,Nat.reduceMul,Nat.reduceLeDiff,za0,za1,Int.reduceEq,Int.reduceLT,Int.reduceLE,Nat.reduceLT,tiA, h0, h1, hone]
  refine (zd5 q v a H hq hone).to ?_
  try simp (disch := first | omega | (simp only [L3] <;> omega)) only [Sall,evalOp,init,binA_s,binE,binI,unE,convE,okNil,builtE,gv,TD.isAgg,resV,↓reduceIte,Nat.reduceEqDiff,reduceCtorEq,Nat.reduceAdd,Nat.reduceMul,Nat.reduceLeDiff,za0,za1,Int.reduceEq,Int.reduceLT,Int.reduceLE,Nat.reduceLT,tiA, is]
theorem byRound2_c (rd : Nat) (c d o a : Int) (p0 p1 i m : Nat) (L : List Int) (H : AH) (h0 : H.row p0 = some ⟨2, true, [.int .i64 a]⟩) (h1 : H.row p1 = some ⟨33, true, [.slice (some ⟨i, 0, some 1⟩) m m]⟩) (h2 : H.row i = some ⟨2, true, ints L⟩) (hL : L.length = m) (hr : rd + 1 < m) (hm : m ≤ 4294967296) :
    ACalls Tryz.prog 181 [.int .i64 rd, .int .i64 c, .int .i64 d, .int .i64 o, .pointer (some ⟨p0, 0, none⟩), .pointer (some ⟨p1, 0, none⟩)] H (fun _ H' => H' = if c = a then H.setCells i (ints (L.set (rd + 1) o)) else H) := by
  refine za3 [] Tryz.func181 (by kernel_rfl) rfl rfl (Nat.le_of_ble_eq_true rfl) (by kernel_rfl) ?_
  have e1 : ((rd : Int) + 1) = ((rd + 1 : Nat) : Int) := rfl
  by_cases hc : c = a
  · have e0 : (c == a) = true := by simpa using hc
    try simp (disch := first | omega | (simp only [L3] <;> omega)) only [Sall,evalOp,init,binA_s,binE,binI,unE,convE,okNil,builtE,gv,TD.isAgg,resV,↓reduceIte,Nat.reduceEqDiff,reduceCtorEq,Nat.reduceAdd,Nat.reduceMul,Nat.reduceLeDiff,za0,za1,Int.reduceEq,Int.reduceLT,Int.reduceLE,Nat.reduceLT,tiA, h0, e0, h1, h2, w64, e1, zaH]
    (repeat refine And.intro (by omega) ?_)
    rw [if_pos hc]
  · have e0 : (c == a) = false := by simpa using hc
    try simp (disch := first | omega | (simp only [L3] <;> omega)) only [Sall,evalOp,init,binA_s,binE,binI,unE,convE,okNil,builtE,gv,TD.isAgg,resV,↓reduceIte,Nat.reduceEqDiff,reduceCtorEq,Nat.reduceAdd,Nat.reduceMul,Nat.reduceLeDiff,za0,za1,Int.reduceEq,Int.reduceLT,Int.reduceLE,Nat.reduceLT,tiA, h0, e0]
    rw [if_neg hc]
def byR (q : Int) (k : Nat) (l : List Int) (ll : List (List Int)) (a : Int) : List Int := if schedB q k l = true ∧ (resB q.toNat k l ll && decide (0 ≤ a ∧ a ≤ q - 1)) = true then ptsBy q.toNat l ll a.toNat (ll.length + 1) else []
theorem byR_length (q : Int) (k : Nat) (l : List Int) (ll : List (List Int)) (a : Int) : (byR q k l ll a).length ≤ 41 := by
  unfold byR
  split
  · rename_i h
    obtain ⟨_, h2, _⟩ := zaC h.1
    have h3 := h.2
    rw [Bool.and_eq_true] at h3
    obtain ⟨h4, _⟩ := zcY h3.1
    rw [zcD]; omega
  · simp
theorem PointsByRound_c (q : Int) (v : Value) (k : Nat) (l : List Int) (x : Value) (ll : List (List Int)) (a : Int) (H : AH) (hv : Rd 14 H v k l) (hk : k ≤ 4294967296) (hx : Rd2 1 H x ll) (hl : ll.length ≤ 4294967296) (hl2 : ∀ y ∈ ll, y.length ≤ 4294967296)
    (_ : -9223372036854775808 ≤ a ∧ a ≤ 9223372036854775807) :
    ACalls Tryz.prog 57 [.agg #[.int .i64 q, v], x, .int .i64 a] H (fun r H' => ∃ u, r = .tuple #[u, .int .i64 (codeS q k l (resB q.toNat k l ll && decide (0 ≤ a ∧ a ≤ q - 1)))] ∧ Up H.next H H' ∧ Fr 1 2 H.next H'.next H' u (byR q k l ll a).length (byR q k l ll a)) := by
  refine ACalls.wf (by kernel_rfl) fun hs => za3 [.tmp 6, .tmp 7] Tryz.func57 (by kernel_rfl) rfl rfl (Nat.le_of_ble_eq_true rfl) (by kernel_rfl) ?_
  have hone := hv.one
  try simp (disch := first | omega | (simp only [L3] <;> omega)) only [Sall,evalOp,init,binA_s,binE,binI,unE,convE,okNil,builtE,gv,TD.isAgg,resV,↓reduceIte,Nat.reduceEqDiff,reduceCtorEq,Nat.reduceAdd,Nat.reduceMul,Nat.reduceLeDiff,za0,za1,Int.reduceEq,Int.reduceLT,Int.reduceLE,Nat.reduceLT,tiA, hone]
  obtain ⟨H1, eg⟩ : ∃ H1, H1 = (H.push ⟨26, true, [.int .i64 q, v]⟩).push ⟨2, true, [.int .i64 a]⟩ := ⟨_, rfl⟩
  have up : Up H.next H H1 := by rw [eg]; exact ((Up.refl _ H).push (by omega) _).push (by simp only [AH.push_next]; omega) _
  have g0 : H1.row H.next = some ⟨26, true, [.int .i64 q, v]⟩ := by rw [eg]; (simp [AH.setCells_row, AH.push_row, AH.push_next] <;> (try omega) <;> (repeat rw [if_neg (by omega)]))
  have g1 : H1.row (H.next + 1) = some ⟨2, true, [.int .i64 a]⟩ := by rw [eg]; (simp [AH.setCells_row, AH.push_row, AH.push_next] <;> (try omega) <;> (repeat rw [if_neg (by omega)]))
  have n1 : H1.next = H.next + 2 := by rw [eg]; rfl
  rw [← eg]
  clear eg
  have hv1 := hv.same (up.le hs).row
  have hx1 := hx.same (up.le hs).row
  try simp (disch := first | omega | (simp only [L3] <;> omega)) only [Sall,evalOp,init,binA_s,binE,binI,unE,convE,okNil,builtE,gv,TD.isAgg,resV,↓reduceIte,Nat.reduceEqDiff,reduceCtorEq,Nat.reduceAdd,Nat.reduceMul,Nat.reduceLeDiff,za0,za1,Int.reduceEq,Int.reduceLT,Int.reduceLE,Nat.reduceLT,tiA, hone, g0, List.mem_cons, List.not_mem_nil, or_false, forall_eq_or_imp, forall_eq, Array.size_empty]
  refine (zbO q v k l x ll 180 [.pointer (some ⟨H.next, 0, none⟩), .pointer (some ⟨H.next + 1, 0, none⟩)] (decide (0 ≤ a ∧ a ≤ q - 1)) H1 hv1 hk hx1 hl hl2 ?_).to ?_
  · intro H' up' hb _
    obtain ⟨h2, _, _⟩ := zaC hb
    exact byRound1_c q v a _ _ H' h2 hone (by rw [up'.row _ (by omega), g0]) (by rw [up'.row _ (by omega), g1])
  by_cases hok : schedB q k l = true ∧ (resB q.toNat k l ll && decide (0 ≤ a ∧ a ≤ q - 1)) = true
  · obtain ⟨hb, hok2⟩ := hok
    unfold byR
    rw [if_pos ⟨hb, hok2⟩, zbF hb hok2]
    rw [Bool.and_eq_true] at hok2
    obtain ⟨hres, hteam⟩ := hok2
    have hteam := of_decide_eq_true hteam
    obtain ⟨h2, hk40, _⟩ := zaC hb
    obtain ⟨n, rfl⟩ : ∃ n : Nat, q = n := ⟨q.toNat, by omega⟩
    obtain ⟨a, rfl⟩ : ∃ b : Nat, a = b := ⟨a.toNat, by omega⟩
    rw [Int.toNat_natCast] at hres ⊢
    rw [Int.toNat_natCast]
    obtain ⟨hlk, _⟩ := zcY hres
    have em : ((ll.length : Int) + 1) = ((ll.length + 1 : Nat) : Int) := rfl
    have ne1 : ¬ H.next = H.next + 3 := by omega
    have ne2 : ¬ H.next = H.next + 2 + 1 := by omega
    try simp (disch := first | omega | (simp only [L3] <;> omega)) only [Sall,evalOp,init,binA_s,binE,binI,unE,convE,okNil,builtE,gv,TD.isAgg,resV,↓reduceIte,Nat.reduceEqDiff,reduceCtorEq,Nat.reduceAdd,Nat.reduceMul,Nat.reduceLeDiff,za0,za1,Int.reduceEq,Int.reduceLT,Int.reduceLE,Nat.reduceLT,tiA, bne_self_eq_false, n1, g0, builtE, hx1.len, w64, em, zcO, zbM, ne1, ne2, List.mem_cons, List.not_mem_nil, or_false, forall_eq_or_imp, forall_eq, Array.size_empty]
    refine ⟨by omega, ?_⟩
    obtain ⟨Hg, eg⟩ : ∃ Hg, Hg = ((H1.push ⟨2, true, ints (List.replicate (ll.length + 1) 0)⟩).push ⟨33, true, [.slice none 0 0]⟩).setCells (H.next + 1 + 2) [.slice (some ⟨H.next + 2, 0, some 1⟩) (ll.length + 1) (ll.length + 1)] := ⟨_, rfl⟩
    have up2 : Up H.next H Hg := by rw [eg]; exact ((up.push (by omega) _).push (by simp only [AH.push_next]; omega) _).set (by omega) _
    have ng : Hg.next = H.next + 4 := by rw [eg]; simp only [AH.setCells_next, AH.push_next]; omega
    have old : ∀ i, i < H.next + 2 → Hg.row i = H1.row i := fun i hi => by rw [eg, AH.setCells_row, if_neg (by omega), AH.push_row, if_neg (by rw [AH.push_next]; omega), AH.push_row, if_neg (by omega)]
    have g2 : Hg.row (H.next + 2) = some ⟨2, true, ints (List.replicate (ll.length + 1) 0)⟩ := by rw [eg, AH.setCells_row, if_neg (by omega), AH.push_row, if_neg (by rw [AH.push_next]; omega), AH.push_row, if_pos (by omega)]
    have g3 : Hg.row (H.next + 3) = some ⟨33, true, [.slice (some ⟨H.next + 2, 0, some 1⟩) (ll.length + 1) (ll.length + 1)]⟩ := by rw [eg, AH.setCells_row, if_pos (by omega), show H.next + 1 + 2 = (H1.push ⟨2, true, ints (List.replicate (ll.length + 1) 0)⟩).next by rw [AH.push_next]; omega, AH.push_row, if_pos rfl]; rfl
    rw [← eg]
    clear eg
    refine (games_c n v k l x ll 181 [.pointer (some ⟨H.next + 1, 0, none⟩), .pointer (some ⟨H.next + 3, 0, none⟩)]
      (fun es H1 => Up H.next H H1 ∧ H.next + 4 ≤ H1.next ∧ H1.row (H.next + 1) = some ⟨2, true, [.int .i64 a]⟩ ∧ H1.row (H.next + 3) = some ⟨33, true, [.slice (some ⟨H.next + 2, 0, some 1⟩) (ll.length + 1) (ll.length + 1)]⟩ ∧ H1.row (H.next + 2) = some ⟨2, true, ints (byRd a ll.length es)⟩)
      H Hg hb hres ⟨up2, by omega, by rw [old _ (by omega), g1], g3, by rw [byRd_nil]; exact g2⟩ hl hv hx (fun es H' hS i r hr => by rw [hS.1.row i (hs _ _ hr), hr]) ?_ ?_).mono ?_
    · rintro es H1 H2 ⟨u1, m1, k1, k2, k3⟩ hn2 hr2
      exact ⟨⟨by have := u1.next; omega, fun i hi => by rw [hr2 i (by omega), u1.row i hi]⟩, by omega, by rw [hr2 _ (by omega), k1], by rw [hr2 _ (by omega), k2], by rw [hr2 _ (by omega), k3]⟩
    · rintro es rd p q o H1 ⟨u1, m1, k1, k2, k3⟩ hn1 hrd hp hq ho
      refine (byRound2_c rd p q o a _ _ _ _ _ H1 k1 k2 k3 (zc2 _ _ _) (by omega) (by omega)).mono ?_
      rintro _ H2 rfl
      rw [byRd_append]
      dsimp only
      by_cases c1 : p = (a : Int)
      · rw [if_pos c1, if_pos c1]
        exact ⟨⟨u1.set (by omega) _, m1, by rw [AH.setCells_row, if_neg (by omega), k1], by rw [AH.setCells_row, if_neg (by omega), k2], by rw [AH.setCells_row, if_pos rfl, k3]; rfl⟩, Nat.le_refl _, fun i hi _ => by rw [AH.setCells_row, if_neg (by omega)]⟩
      · rw [if_neg c1, if_neg c1]
        exact ⟨⟨u1, m1, k1, k2, k3⟩, Nat.le_refl _, fun i hi _ => rfl⟩
    · rintro _ H2 ⟨⟨u1, m1, k1, k2, k3⟩, hn2⟩
      have hx2 := hx.same (u1.le hs).row
      refine Holds.mp ?_
      try simp (disch := first | omega | (simp only [L3] <;> omega)) only [Sall,evalOp,init,binA_s,binE,binI,unE,convE,okNil,builtE,gv,TD.isAgg,resV,↓reduceIte,Nat.reduceEqDiff,reduceCtorEq,Nat.reduceAdd,Nat.reduceMul,Nat.reduceLeDiff,za0,za1,Int.reduceEq,Int.reduceLT,Int.reduceLE,Nat.reduceLT,tiA, builtE, hx2.len]
      obtain ⟨L, hL⟩ : ∃ L, L = byRd a ll.length (meets n l ll ll.length) := ⟨_, rfl⟩
      rw [← hL] at k3
      have hLl : L.length = ll.length + 1 := by rw [hL, zc2]
      refine za7 (fun m t H' => ∃ c : Nat, m = ll.length - c ∧ c ≤ ll.length ∧ t 28 = .int .i64 c ∧ t 27 = .int .i64 ll.length ∧ t 9 = .pointer (some ⟨H.next + 3, 0, none⟩) ∧ Up H.next H H' ∧ H.next + 4 ≤ H'.next ∧ H'.row (H.next + 3) = some ⟨33, true, [.slice (some ⟨H.next + 2, 0, some 1⟩) (ll.length + 1) (ll.length + 1)]⟩ ∧ H'.row (H.next + 2) = some ⟨2, true, ints (pref c L)⟩) ll.length ?_ ?_
      · refine ⟨0, by omega, by omega, ?_⟩
        try simp (disch := first | omega | (simp only [L3] <;> omega)) only [Sall,evalOp,init,binA_s,binE,binI,unE,convE,okNil,builtE,gv,TD.isAgg,resV,↓reduceIte,Nat.reduceEqDiff,reduceCtorEq,Nat.reduceAdd,Nat.reduceMul,Nat.reduceLeDiff,za0,za1,Int.reduceEq,Int.reduceLT,Int.reduceLE,Nat.reduceLT,tiA, Int.natCast_zero]
        exact ⟨u1, m1, k2, k3⟩
      · rintro m t H' ⟨c, hm, hcl, h28, h27, h9, hup, hnx, r3, r2⟩
        try simp (disch := first | omega | (simp only [L3] <;> omega)) only [Sall,evalOp,init,binA_s,binE,binI,unE,convE,okNil,builtE,gv,TD.isAgg,resV,↓reduceIte,Nat.reduceEqDiff,reduceCtorEq,Nat.reduceAdd,Nat.reduceMul,Nat.reduceLeDiff,za0,za1,Int.reduceEq,Int.reduceLT,Int.reduceLE,Nat.reduceLT,tiA, h28, h27]
        refine za6 (fun h => ?_) (fun h => ?_)
        · have hpl := zcM c L
          have e1 : ((c : Int) + 1) = ((c + 1 : Nat) : Int) := rfl
          try simp (disch := first | omega | (simp only [L3] <;> omega)) only [Sall,evalOp,init,binA_s,binE,binI,unE,convE,okNil,builtE,gv,TD.isAgg,resV,↓reduceIte,Nat.reduceEqDiff,reduceCtorEq,Nat.reduceAdd,Nat.reduceMul,Nat.reduceLeDiff,za0,za1,Int.reduceEq,Int.reduceLT,Int.reduceLE,Nat.reduceLT,tiA, h28, h9]
          refine zaR (by kernel_rfl) (by kernel_rfl) ?_
          try simp (disch := first | omega | (simp only [L3] <;> omega)) only [Sall,evalOp,init,binA_s,binE,binI,unE,convE,okNil,builtE,gv,TD.isAgg,resV,↓reduceIte,Nat.reduceEqDiff,reduceCtorEq,Nat.reduceAdd,Nat.reduceMul,Nat.reduceLeDiff,za0,za1,Int.reduceEq,Int.reduceLT,Int.reduceLE,Nat.reduceLT,tiA, h9, r3, r2, w64, e1, ints_get?, zaH]
          (repeat refine And.intro (by omega) ?_)
          refine ⟨.inr (.inl (by kernel_rfl)), ?_⟩
          try simp (disch := first | omega | (simp only [L3] <;> omega)) only [Sall,evalOp,init,binA_s,binE,binI,unE,convE,okNil,builtE,gv,TD.isAgg,resV,↓reduceIte,Nat.reduceEqDiff,reduceCtorEq,Nat.reduceAdd,Nat.reduceMul,Nat.reduceLeDiff,za0,za1,Int.reduceEq,Int.reduceLT,Int.reduceLE,Nat.reduceLT,tiA, h28, h27, h9, w64, e1]
          refine ⟨ll.length - (c + 1), by omega, c + 1, rfl, by omega, rfl, hup.set (by omega) _, hnx, ?_, ?_⟩
          · exact r3
          · rw [r2]; rfl
        · have hc : c = ll.length := by omega
          subst hc
          try simp (disch := first | omega | (simp only [L3] <;> omega)) only [Sall,evalOp,init,binA_s,binE,binI,unE,convE,okNil,builtE,gv,TD.isAgg,resV,↓reduceIte,Nat.reduceEqDiff,reduceCtorEq,Nat.reduceAdd,Nat.reduceMul,Nat.reduceLeDiff,za0,za1,Int.reduceEq,Int.reduceLT,Int.reduceLE,Nat.reduceLT,tiA, h9, r3]
          refine ⟨_, rfl, hup, ?_⟩
          rw [zcD, ← pref_all hb (by omega) hlk, ← hL]
          exact ⟨by rw [zcM, hLl]; omega, .inr ⟨H.next + 2, by omega, by omega, rfl, r2⟩⟩
  · have ec := zcH hok
    unfold byR
    rw [if_neg hok]
    try simp (disch := first | omega | (simp only [L3] <;> omega)) only [Sall,evalOp,init,binA_s,binE,binI,unE,convE,okNil,builtE,gv,TD.isAgg,resV,↓reduceIte,Nat.reduceEqDiff,reduceCtorEq,Nat.reduceAdd,Nat.reduceMul,Nat.reduceLeDiff,za0,za1,Int.reduceEq,Int.reduceLT,Int.reduceLE,Nat.reduceLT,tiA, ec]
    exact ⟨_, rfl, up, fr_nil _ _ _ _⟩
theorem specPointsByRound_c (q : Int) (v : Value) (k : Nat) (l : List Int) (x : Value) (ll : List (List Int)) (a : Int) (H : AH) (hv : Rd 14 H v k l) (hk : k ≤ 4294967296) (hx : Rd2 1 H x ll) (hl : ll.length ≤ 4294967296) (hl2 : ∀ y ∈ ll, y.length ≤ 4294967296)
    (_ : -9223372036854775808 ≤ a ∧ a ≤ 9223372036854775807) :
    ACalls Tryz.prog 58 [.agg #[.int .i64 q, v], x, .int .i64 a] H (fun r H' => ∃ u, r = .tuple #[u, .int .i64 (codeS q k l (resB q.toNat k l ll && decide (0 ≤ a ∧ a ≤ q - 1)))] ∧ Up H.next H H' ∧ Fr 1 2 H.next H'.next H' u (byR q k l ll a).length (byR q k l ll a)) := by
  refine ACalls.wf (by kernel_rfl) fun hs => za3 [.tmp 6, .tmp 7] Tryz.func58 (by kernel_rfl) rfl rfl (Nat.le_of_ble_eq_true rfl) (by kernel_rfl) ?_
  have hone := hv.one
  have zz : zeros 1 [.int .i64 0] = [.int .i64 0] := rfl
  try simp (disch := first | omega | (simp only [L3] <;> omega)) only [Sall,evalOp,init,binA_s,binE,binI,unE,convE,okNil,builtE,gv,TD.isAgg,resV,↓reduceIte,Nat.reduceEqDiff,reduceCtorEq,Nat.reduceAdd,Nat.reduceMul,Nat.reduceLeDiff,za0,za1,Int.reduceEq,Int.reduceLT,Int.reduceLE,Nat.reduceLT,tiA, hone, zz]
  obtain ⟨H1, eg⟩ : ∃ H1, H1 = (H.push ⟨26, true, [.int .i64 q, v]⟩).push ⟨2, true, [.int .i64 a]⟩ := ⟨_, rfl⟩
  have up : Up H.next H H1 := by rw [eg]; exact ((Up.refl _ H).push (by omega) _).push (by simp only [AH.push_next]; omega) _
  have g0 : H1.row H.next = some ⟨26, true, [.int .i64 q, v]⟩ := by rw [eg]; (simp [AH.setCells_row, AH.push_row, AH.push_next] <;> (try omega) <;> (repeat rw [if_neg (by omega)]))
  have g1 : H1.row (H.next + 1) = some ⟨2, true, ints [a]⟩ := by rw [eg, AH.push_row, if_pos (by rw [AH.push_next])]; rfl
  have n1 : H1.next = H.next + 2 := by rw [eg]; rfl
  rw [← eg]
  clear eg
  have hv1 := hv.same (up.le hs).row
  have hx1 := hx.same (up.le hs).row
  have ht : Rd 1 H1 (.slice (some ⟨H.next + 1, 0, some 1⟩) 1 1) 1 [a] := Fr.rd (ty := 2) (lo := 0) (hi := H.next + 2) ⟨rfl, .inr ⟨H.next + 1, by omega, by omega, rfl, g1⟩⟩
  refine (zeD q v k l x ll _ 1 [a] H1 hv1 hk hx1 hl hl2 ht (by omega)).to ?_
  have eall : ((List.range 1).all fun i => decide (0 ≤ [a].getD i 0 ∧ [a].getD i 0 ≤ q - 1)) = decide (0 ≤ a ∧ a ≤ q - 1) := by
    show (decide (0 ≤ a ∧ a ≤ q - 1) && true) = _
    rw [Bool.and_true]
  rw [eall]
  by_cases hok : schedB q k l = true ∧ (resB q.toNat k l ll && decide (0 ≤ a ∧ a ≤ q - 1)) = true
  · obtain ⟨hb, hok2⟩ := hok
    unfold byR
    rw [if_pos ⟨hb, hok2⟩, zbF hb hok2]
    rw [Bool.and_eq_true] at hok2
    obtain ⟨hres, hteam⟩ := hok2
    have hteam := of_decide_eq_true hteam
    obtain ⟨h2, hk40, _⟩ := zaC hb
    obtain ⟨n, rfl⟩ : ∃ n : Nat, q = n := ⟨q.toNat, by omega⟩
    obtain ⟨a, rfl⟩ : ∃ b : Nat, a = b := ⟨a.toNat, by omega⟩
    rw [Int.toNat_natCast] at hres ⊢
    rw [Int.toNat_natCast]
    obtain ⟨hlk, _⟩ := zcY hres
    try simp (disch := first | omega | (simp only [L3] <;> omega)) only [Sall,evalOp,init,binA_s,binE,binI,unE,convE,okNil,builtE,gv,TD.isAgg,resV,↓reduceIte,Nat.reduceEqDiff,reduceCtorEq,Nat.reduceAdd,Nat.reduceMul,Nat.reduceLeDiff,za0,za1,Int.reduceEq,Int.reduceLT,Int.reduceLE,Nat.reduceLT,tiA, bne_self_eq_false, zaN]
    refine za7 (fun m t H' => ∃ (c : Nat) (u : Value) (lo hi : Nat), m = ll.length + 1 - c ∧ c ≤ ll.length + 1 ∧ t 10 = .int .i64 c ∧ t 9 = u ∧ t 2 = .int .i64 a ∧ t 1 = x ∧ t 3 = .pointer (some ⟨H.next, 0, none⟩) ∧ Up H.next H H' ∧ H'.row H.next = some ⟨26, true, [.int .i64 n, v]⟩ ∧ H.next < lo ∧ lo ≤ hi ∧ hi ≤ H'.next ∧ Fr 1 2 lo hi H' u c (ptsBy n l ll a c)) (ll.length + 1) ?_ ?_
    · refine ⟨0, .slice (some ⟨H1.next, 0, some 1⟩) 0 0, H1.next, H1.next + 1, by omega, by omega, ?_⟩
      try simp (disch := first | omega | (simp only [L3] <;> omega)) only [Sall,evalOp,init,binA_s,binE,binI,unE,convE,okNil,builtE,gv,TD.isAgg,resV,↓reduceIte,Nat.reduceEqDiff,reduceCtorEq,Nat.reduceAdd,Nat.reduceMul,Nat.reduceLeDiff,za0,za1,Int.reduceEq,Int.reduceLT,Int.reduceLE,Nat.reduceLT,tiA, Int.natCast_zero]
      refine ⟨up.push (by omega) _, by rw [if_neg (by omega), g0], ?_⟩
      (repeat refine And.intro (by omega) ?_)
      exact ⟨rfl, .inr ⟨H1.next, by omega, by omega, rfl, by rw [AH.push_row, if_pos rfl]; rfl⟩⟩
    · rintro m t H' ⟨c, u, lo, hi, hm, hcl, h10, h9, h2', h1, h3, hup, hr1, hlo, hlh, hhi, hfr⟩
      have hlh' := hup.next
      try simp (disch := first | omega | (simp only [L3] <;> omega)) only [Sall,evalOp,init,binA_s,binE,binI,unE,convE,okNil,builtE,gv,TD.isAgg,resV,↓reduceIte,Nat.reduceEqDiff,reduceCtorEq,Nat.reduceAdd,Nat.reduceMul,Nat.reduceLeDiff,za0,za1,Int.reduceEq,Int.reduceLT,Int.reduceLE,Nat.reduceLT,tiA, h10, h1, builtE, hx.len]
      refine za6 (fun h => ?_) (fun h => ?_)
      · have hx' := hx.same (hup.le hs).row
        have hv' := hv.same (hup.le hs).row
        try simp (disch := first | omega | (simp only [L3] <;> omega)) only [Sall,evalOp,init,binA_s,binE,binI,unE,convE,okNil,builtE,gv,TD.isAgg,resV,↓reduceIte,Nat.reduceEqDiff,reduceCtorEq,Nat.reduceAdd,Nat.reduceMul,Nat.reduceLeDiff,za0,za1,Int.reduceEq,Int.reduceLT,Int.reduceLE,Nat.reduceLT,tiA, h9, h3, h1, h10, hr1]
        refine (zcQ n v k l x ll c H' hb hres (by omega) hl hv' hx').mono ?_
        rintro pu H3 ⟨up3, hpu⟩
        obtain ⟨ip, w1, w2, rfl, w3⟩ := hpu.get (by omega)
        have hsl := zaS n (fun _ o => o) (meets n l ll c)
        have n3 := up3.next
        refine Holds.mp ?_
        try simp (disch := first | omega | (simp only [L3] <;> omega)) only [Sall,evalOp,init,binA_s,binE,binI,unE,convE,okNil,builtE,gv,TD.isAgg,resV,↓reduceIte,Nat.reduceEqDiff,reduceCtorEq,Nat.reduceAdd,Nat.reduceMul,Nat.reduceLeDiff,za0,za1,Int.reduceEq,Int.reduceLT,Int.reduceLE,Nat.reduceLT,tiA, h9, h3, h1, h2', h10, w3, ints_get?, zz, zaO]
        (repeat refine And.intro (by omega) ?_)
        obtain ⟨H4, e4⟩ : ∃ H4, H4 = H3.push ⟨2, true, [.int .i64 ((sumsF n (fun _ o => o) (meets n l ll c)).getD a 0)]⟩ := ⟨_, rfl⟩
        have s4 : ∀ i, i < H3.next → H4.row i = H3.row i := fun i hi => by rw [e4, AH.push_row, if_neg (by omega)]
        have n4 : H4.next = H3.next + 1 := by rw [e4]; rfl
        rw [← e4]
        clear e4
        refine zfM (k := 1) (lo := lo) (hi := hi) (l := ptsBy n l ll a c) (m := [(sumsF n (fun _ o => o) (meets n l ll c)).getD a 0]) (hfr.same fun i _ hi => by rw [s4 i (by omega), up3.row i (by omega)]) rfl (by omega) rfl (by omega) (by decide) (by omega) (by omega) ?_
        intro v' H5 n5 s5 f5
        try simp (disch := first | omega | (simp only [L3] <;> omega)) only [Sall,evalOp,init,binA_s,binE,binI,unE,convE,okNil,builtE,gv,TD.isAgg,resV,↓reduceIte,Nat.reduceEqDiff,reduceCtorEq,Nat.reduceAdd,Nat.reduceMul,Nat.reduceLeDiff,za0,za1,Int.reduceEq,Int.reduceLT,Int.reduceLE,Nat.reduceLT,tiA, h10, h2', h1, h3, w64]
        refine ⟨ll.length + 1 - (c + 1), by omega, c + 1, v', H4.next, H4.next + 1, rfl, by omega, rfl, rfl, ⟨by omega, fun i hi => ?_⟩, ?_, by omega, by omega, by omega, ?_⟩
        · rw [s5 i (by omega) (by omega), s4 i (by omega), up3.row i (by omega), hup.row i hi]
        · rw [s5 _ (by omega) (by omega), s4 _ (by omega), up3.row _ (by omega), hr1]
        · rw [ptsBy_succ]; exact f5
      · try simp (disch := first | omega | (simp only [L3] <;> omega)) only [Sall,evalOp,init,binA_s,binE,binI,unE,convE,okNil,builtE,gv,TD.isAgg,resV,↓reduceIte,Nat.reduceEqDiff,reduceCtorEq,Nat.reduceAdd,Nat.reduceMul,Nat.reduceLeDiff,za0,za1,Int.reduceEq,Int.reduceLT,Int.reduceLE,Nat.reduceLT,tiA, h9]
        have hc : c = ll.length + 1 := by omega
        subst hc
        refine ⟨_, rfl, hup, ?_⟩
        rw [zcD]
        exact hfr.wide (by omega) hhi
  · have ec := zcH hok
    unfold byR
    rw [if_neg hok]
    try simp (disch := first | omega | (simp only [L3] <;> omega)) only [Sall,evalOp,init,binA_s,binE,binI,unE,convE,okNil,builtE,gv,TD.isAgg,resV,↓reduceIte,Nat.reduceEqDiff,reduceCtorEq,Nat.reduceAdd,Nat.reduceMul,Nat.reduceLeDiff,za0,za1,Int.reduceEq,Int.reduceLT,Int.reduceLE,Nat.reduceLT,tiA, ec]
    exact ⟨_, rfl, up, fr_nil _ _ _ _⟩
end Go.Proofs.YtpienljnoaendaaGreat.A
end

section
namespace Go.Abs
def sumN (N : Nat) (f : Nat → Nat) : Nat := ((List.range N).map f).sum
theorem zbI (N : Nat) (f : Nat → Nat) : sumN (N + 1) f = sumN N f + f N := by simp [sumN, List.range_succ]
theorem sumN_le {f g : Nat → Nat} : ∀ N, (∀ i, i < N → f i ≤ g i) → sumN N f ≤ sumN N g
  | 0, _ => Nat.le_refl _
  | N + 1, h => by rw [zbI, zbI]; exact Nat.add_le_add (sumN_le N fun i hi => h i (by omega)) (h N (by omega))
theorem zbX {f g : Nat → Nat} : ∀ N, (∀ i, i < N → f i = g i) → sumN N f = sumN N g
  | 0, _ => rfl
  | N + 1, h => by rw [zbI, zbI, zbX N fun i hi => h i (by omega), h N (by omega)]
theorem zh9 (f g : Nat → Nat) : ∀ N, sumN N (fun i => f i + g i) = sumN N f + sumN N g
  | 0 => rfl
  | N + 1 => by rw [zbI, zbI, zbI, zh9 f g N]; omega
theorem zd6 : ∀ N, sumN N (fun _ => 0) = 0
  | 0 => rfl
  | N + 1 => by rw [zbI, zd6 N]
theorem ze2 (j c : Nat) : ∀ N, j < N → sumN N (fun i => if i = j then c else 0) = c
  | 0, h => by omega
  | N + 1, h => by
    rw [zbI]
    by_cases e : j = N
    · subst e
      rw [if_pos rfl, zbX j (g := fun _ => 0) fun i hi => if_neg (by omega), zd6]; omega
    · rw [ze2 j c N (by omega), if_neg (by omega), Nat.add_zero]
theorem sumN_lt {f g : Nat → Nat} {N j : Nat} (hj : j < N) (h : ∀ i, i < N → f i ≤ g i) (hl : f j < g j) : sumN N f < sumN N g := by
  have h1 : sumN N (fun i => f i + if i = j then 1 else 0) ≤ sumN N g := sumN_le N fun i hi => by
    by_cases e : i = j
    · subst e; rw [if_pos rfl]; omega
    · rw [if_neg e]; have := h i hi; omega
  rw [zh9, ze2 j 1 N hj] at h1
  omega
def keyC {α : Type} (k : α → Nat) (P : List α) (i : Nat) : Nat := (P.filter fun p => k p == i).length
theorem zc0 {α : Type} (k : α → Nat) (p : α) (P : List α) (i : Nat) : keyC k (p :: P) i = keyC k P i + if i = k p then 1 else 0 := by
  unfold keyC
  rw [List.filter_cons]
  by_cases e : i = k p
  · rw [if_pos (by rw [e]; exact beq_self_eq_true _), if_pos e, List.length_cons]
  · rw [if_neg (by simp; omega), if_neg e]; omega
theorem zf9 {α : Type} (k : α → Nat) (Q : Nat → Bool) (N : Nat) : ∀ (P : List α), (∀ p ∈ P, k p < N) → (P.filter fun p => Q (k p)).length = sumN N fun i => if Q i = true then keyC k P i else 0
  | [], _ => by
    rw [zbX N (g := fun _ => 0) fun i _ => by simp [keyC], zd6]
    rfl
  | p :: P, h => by
    have ih := zf9 k Q N P fun p hp => h p (List.mem_cons_of_mem _ hp)
    have hp := h p List.mem_cons_self
    have e : (sumN N fun i => if Q i = true then keyC k (p :: P) i else 0) = sumN N fun i => (if Q i = true then keyC k P i else 0) + if i = k p then (if Q (k p) = true then 1 else 0) else 0 := by
      refine zbX N fun i _ => ?_
      rw [zc0]
      by_cases e : i = k p
      · subst e
        rw [if_pos rfl, if_pos rfl]
        split <;> rfl
      · rw [if_neg e, if_neg e]
        split <;> omega
    rw [e, zh9, ze2 _ _ N hp, ← ih, List.filter_cons]
    split
    · rw [List.length_cons]
    · rfl
structure Con (n G : Nat) (pr : Nat → Nat × Nat) (room0 room : Nat → Nat) (P : List (Nat × Nat)) : Prop where
  team : ∀ b, b < n → keyC Prod.snd P b + room b = room0 b
  pt : ∀ p ∈ P, p.1 < G ∧ p.2 < n ∧ (p.2 = (pr p.1).1 ∨ p.2 = (pr p.1).2)
  two : ∀ g, g < G → keyC Prod.fst P g ≤ 2
def insB (pr : Nat → Nat × Nat) (M : Nat → Bool) (g : Nat) : Bool := M (pr g).1 && M (pr g).2
def Viol (n G : Nat) (pr : Nat → Nat × Nat) (room0 : Nat → Nat) (M : Nat → Bool) : Prop := (sumN n fun b => if M b = true then room0 b else 0) < sumN G fun g => if insB pr M g = true then 2 else 0
theorem full_no_viol {n G : Nat} {pr : Nat → Nat × Nat} {room0 room : Nat → Nat} {P : List (Nat × Nat)} {M : Nat → Bool} (h : Con n G pr room0 room P) (hf : ∀ g, g < G → keyC Prod.fst P g = 2) : ¬ Viol n G pr room0 M := by
  intro hv
  unfold Viol at hv
  have h1 : (sumN G fun g => if insB pr M g = true then 2 else 0) = (P.filter fun p => insB pr M p.1).length := by
    rw [zf9 Prod.fst (insB pr M) G P fun p hp => (h.pt p hp).1]
    exact zbX G fun g hg => by rw [hf g hg]
  have h2 : (P.filter fun p => M p.2).length ≤ sumN n fun b => if M b = true then room0 b else 0 := by
    rw [zf9 Prod.snd M n P fun p hp => (h.pt p hp).2.1]
    exact sumN_le n fun b hb => by have := h.team b hb; split <;> omega
  have h3 : (P.filter fun p => insB pr M p.1).length ≤ (P.filter fun p => M p.2).length := by
    refine List.Sublist.length_le ?_
    have e : (P.filter fun p => insB pr M p.1) = (P.filter fun p => M p.2).filter fun p => insB pr M p.1 := by
      rw [List.filter_filter]
      refine List.filter_congr fun p hp => ?_
      have := (h.pt p hp).2.2
      cases hi : insB pr M p.1 with
      | false => rfl
      | true =>
        unfold insB at hi
        rw [Bool.and_eq_true] at hi
        rcases this with e | e
        · rw [e, hi.1]; rfl
        · rw [e, hi.2]; rfl
    rw [e]
    exact List.filter_sublist
  omega
theorem zh0 {n G : Nat} {pr : Nat → Nat × Nat} {room0 room : Nat → Nat} {P : List (Nat × Nat)} {M : Nat → Bool} (h : Con n G pr room0 room P) (hr : ∀ b, b < n → M b = true → room b = 0) (hc : ∀ p ∈ P, M p.2 = true → insB pr M p.1 = true) {g : Nat} (hg : g < G) (hgM : insB pr M g = true) (hg1 : keyC Prod.fst P g ≤ 1) : Viol n G pr room0 M := by
  unfold Viol
  have h1 : (sumN n fun b => if M b = true then room0 b else 0) = (P.filter fun p => M p.2).length := by
    rw [zf9 Prod.snd M n P fun p hp => (h.pt p hp).2.1]
    refine zbX n fun b hb => ?_
    have := h.team b hb
    split
    · rename_i hm; have := hr b hb hm; omega
    · rfl
  have h2 : (P.filter fun p => M p.2).length ≤ (P.filter fun p => insB pr M p.1).length := by
    refine List.Sublist.length_le ?_
    have e : (P.filter fun p => M p.2) = (P.filter fun p => insB pr M p.1).filter fun p => M p.2 := by
      rw [List.filter_filter]
      refine List.filter_congr fun p hp => ?_
      cases hm : M p.2 with
      | false => rfl
      | true => rw [hc p hp hm]; rfl
    rw [e]
    exact List.filter_sublist
  have h3 : (P.filter fun p => insB pr M p.1).length < sumN G fun g => if insB pr M g = true then 2 else 0 := by
    rw [zf9 Prod.fst (insB pr M) G P fun p hp => (h.pt p hp).1]
    refine sumN_lt hg (fun i hi => ?_) ?_
    · have := h.two i hi
      split <;> omega
    · rw [if_pos hgM, if_pos hgM]; omega
  omega
end Go.Abs
end

section
namespace Go.Abs
theorem zeE {α : Type} [BEq α] [LawfulBEq α] (c x d : α) : ∀ (l : List α) (i : Nat), i < l.length → (l.set i x).count c + (if l.getD i d == c then 1 else 0) = l.count c + (if x == c then 1 else 0)
  | [], i, h => by simp at h
  | a :: l, 0, h => by
    simp only [List.set_cons_zero, List.count_cons, List.getD_cons_zero]
    omega
  | a :: l, i + 1, h => by
    have ih := zeE c x d l i (by simpa using h)
    simp only [List.set_cons_succ, List.count_cons, List.getD_cons_succ]
    omega
theorem zbG {α : Type} (l : List α) (i : Nat) (x d : α) (h : i < l.length) : (l.set i x).getD i d = x := by simp [List.getD_eq_getElem?_getD, h]
theorem zb7 {α : Type} (l : List α) (i j : Nat) (x d : α) (h : i ≠ j) : (l.set i x).getD j d = l.getD j d := by simp [List.getD_eq_getElem?_getD, List.getElem?_set, h]
def unm (mt : List Bool) : Nat := mt.count false
theorem zdE : ∀ (a b : List Bool), a.length = b.length → (∀ j, a.getD j false = true → b.getD j false = true) → unm b ≤ unm a
  | [], [], _, _ => Nat.le_refl _
  | [], _ :: _, h, _ => by simp at h
  | _ :: _, [], h, _ => by simp at h
  | x :: a, y :: b, h, hm => by
    have ih := zdE a b (by simpa using h) fun j hj => by have := hm (j + 1); simpa using this (by simpa using hj)
    have h0 := hm 0
    simp only [List.getD_cons_zero] at h0
    unfold unm at ih ⊢
    rw [List.count_cons, List.count_cons]
    cases x <;> cases y <;> simp_all <;> omega
theorem unm_set {mt : List Bool} {b : Nat} (hb : b < mt.length) (h : mt.getD b false = false) : unm (mt.set b true) + 1 = unm mt := by
  have := zeE false true false mt b hb
  rw [h] at this
  unfold unm
  simpa using this
structure GS where
  gv : List Int
  rm : List Int
  mt : List Bool
def giveJ (rec : GS → Nat → Bool × GS) (b i : Nat) : List Nat → GS → Bool × GS
  | [], s => (false, s)
  | j :: js, s =>
    if s.gv.getD j 0 ≠ (b : Int) then giveJ rec b i js s
    else if (rec s j).1 = true then (true, { (rec s j).2 with gv := (rec s j).2.gv.set i (b : Int) })
    else giveJ rec b i js (rec s j).2
def giveK (rec : GS → Nat → Bool × GS) (tm : Nat → Nat → Nat) (N i : Nat) : List Nat → GS → Bool × GS
  | [], s => (false, s)
  | k :: ks, s =>
    if s.mt.getD (tm i k) false = true then giveK rec tm N i ks s
    else if 0 < s.rm.getD (tm i k) 0 then (true, ⟨s.gv.set i (tm i k : Int), s.rm.set (tm i k) (s.rm.getD (tm i k) 0 - 1), s.mt.set (tm i k) true⟩)
    else if (giveJ rec (tm i k) i (List.range N) { s with mt := s.mt.set (tm i k) true }).1 = true then giveJ rec (tm i k) i (List.range N) { s with mt := s.mt.set (tm i k) true }
    else giveK rec tm N i ks (giveJ rec (tm i k) i (List.range N) { s with mt := s.mt.set (tm i k) true }).2
def giveF (tm : Nat → Nat → Nat) (N : Nat) : Nat → GS → Nat → Bool × GS
  | 0, s, _ => (false, s)
  | f + 1, s, i => giveK (giveF tm N f) tm N i [0, 1] s
structure GOk (n N : Nat) (s : GS) : Prop where
  gl : s.gv.length = N
  rl : s.rm.length = n
  ml : s.mt.length = n
  gr : ∀ j, j < N → s.gv.getD j 0 = -1 ∨ ∃ c : Nat, c < n ∧ s.gv.getD j 0 = (c : Int)
  rr : ∀ c, c < n → 0 ≤ s.rm.getD c 0
def idle (s : GS) (j : Nat) : Prop := s.gv.getD j 0 = -1 ∨ ∃ c : Nat, s.gv.getD j 0 = (c : Int) ∧ s.mt.getD c false = true
def both (tm : Nat → Nat → Nat) (mt : List Bool) (j : Nat) : Prop := mt.getD (tm j 0) false = true ∧ mt.getD (tm j 1) false = true
structure GRes (tm : Nat → Nat → Nat) (n N i : Nat) (s : GS) (r : Bool × GS) : Prop where
  ok : GOk n N r.2
  mono : ∀ c, s.mt.getD c false = true → r.2.mt.getD c false = true
  frame : ∀ j, j ≠ i → idle s j → r.2.gv.getD j 0 = s.gv.getD j 0
  no : r.1 = false → r.2.gv = s.gv ∧ r.2.rm = s.rm ∧ both tm r.2.mt i ∧ ∀ c, c < n → r.2.mt.getD c false = true → s.mt.getD c false = false → s.rm.getD c 0 = 0 ∧ ∀ j, j < N → s.gv.getD j 0 = (c : Int) → both tm r.2.mt j
  yes : r.1 = true → (∃ k, k < 2 ∧ r.2.gv.getD i 0 = (tm i k : Int)) ∧ (∀ j, j < N → j ≠ i → r.2.gv.getD j 0 = s.gv.getD j 0 ∨ ∃ k, k < 2 ∧ r.2.gv.getD j 0 = (tm j k : Int)) ∧ (∀ j, j < N → j ≠ i → s.gv.getD j 0 ≠ -1 → r.2.gv.getD j 0 ≠ -1) ∧
    ∀ c : Nat, c < n → (r.2.gv.count (c : Int) : Int) + r.2.rm.getD c 0 + (if s.gv.getD i 0 == (c : Int) then 1 else 0) = (s.gv.count (c : Int) : Int) + s.rm.getD c 0
structure JRes (tm : Nat → Nat → Nat) (n N i b : Nat) (js : List Nat) (s : GS) (r : Bool × GS) : Prop where
  ok : GOk n N r.2
  mono : ∀ c, s.mt.getD c false = true → r.2.mt.getD c false = true
  frame : ∀ j, j ≠ i → s.gv.getD j 0 ≠ (b : Int) → idle s j → r.2.gv.getD j 0 = s.gv.getD j 0
  no : r.1 = false → r.2.gv = s.gv ∧ r.2.rm = s.rm ∧ (∀ j ∈ js, s.gv.getD j 0 = (b : Int) → both tm r.2.mt j) ∧ ∀ c, c < n → r.2.mt.getD c false = true → s.mt.getD c false = false → s.rm.getD c 0 = 0 ∧ ∀ j, j < N → s.gv.getD j 0 = (c : Int) → both tm r.2.mt j
  yes : r.1 = true → r.2.gv.getD i 0 = (b : Int) ∧ (∀ j, j < N → j ≠ i → r.2.gv.getD j 0 = s.gv.getD j 0 ∨ ∃ k, k < 2 ∧ r.2.gv.getD j 0 = (tm j k : Int)) ∧ (∀ j, j < N → j ≠ i → s.gv.getD j 0 ≠ -1 → r.2.gv.getD j 0 ≠ -1) ∧
    ∀ c : Nat, c < n → (r.2.gv.count (c : Int) : Int) + r.2.rm.getD c 0 + (if s.gv.getD i 0 == (c : Int) then 1 else 0) = (s.gv.count (c : Int) : Int) + s.rm.getD c 0
theorem zcF {tm : Nat → Nat → Nat} {a b : List Bool} {j : Nat} (h : both tm a j) (hm : ∀ c, a.getD c false = true → b.getD c false = true) : both tm b j := ⟨hm _ h.1, hm _ h.2⟩
theorem zfW {tm : Nat → Nat → Nat} {n N f i b : Nat} {rec : GS → Nat → Bool × GS} (hb : b < n) (hi : i < N)
    (hrec : ∀ s j, GOk n N s → j < N → unm s.mt < f → idle s j → GRes tm n N j s (rec s j)) :
    ∀ (js : List Nat) (s : GS), (∀ j ∈ js, j < N) → GOk n N s → unm s.mt < f → s.mt.getD b false = true → s.gv.getD i 0 ≠ (b : Int) → idle s i → JRes tm n N i b js s (giveJ rec b i js s)
  | [], s, _, hok, _, _, _, _ => ⟨hok, fun _ h => h, fun _ _ _ _ => rfl, fun _ => ⟨rfl, rfl, fun j hj => by simp at hj, fun c _ h1 h2 => by have h3 : s.mt.getD c false = true := h1; rw [h3] at h2; cases h2⟩, fun h => by cases h⟩
  | j :: js, s, hjs, hok, hun, hmb, hib, hidi => by
    have hj := hjs j List.mem_cons_self
    have hjs' : ∀ j ∈ js, j < N := fun z hz => hjs z (List.mem_cons_of_mem _ hz)
    unfold giveJ
    by_cases hjb : s.gv.getD j 0 = (b : Int)
    · rw [if_neg (fun h => h hjb)]
      have hidj : idle s j := .inr ⟨b, hjb, hmb⟩
      have hR := hrec s j hok hj hun hidj
      have hij : i ≠ j := fun e => hib (by rw [e]; exact hjb)
      by_cases hr : (rec s j).1 = true
      · rw [if_pos hr]
        obtain ⟨⟨k, hk, hgj⟩, y2, y3, y4⟩ := hR.yes hr
        have hfi := hR.frame i hij hidi
        have hil : i < (rec s j).2.gv.length := by rw [hR.ok.gl]; exact hi
        refine ⟨⟨by simp [hR.ok.gl], hR.ok.rl, hR.ok.ml, fun z hz => ?_, hR.ok.rr⟩, hR.mono, fun z hzi hzb hz => ?_, fun h => (by cases h), fun _ => ⟨zbG _ _ _ _ hil, fun z hz hzi => ?_, fun z hz hzi hz1 => ?_, fun c hc => ?_⟩⟩
        · by_cases e : i = z
          · subst e
            rw [zbG _ _ _ _ hil]
            exact .inr ⟨b, hb, rfl⟩
          · rw [zb7 _ _ _ _ _ e]; exact hR.ok.gr z hz
        · show ((rec s j).2.gv.set i (b : Int)).getD z 0 = _
          rw [zb7 _ _ _ _ _ (Ne.symm hzi)]
          exact hR.frame z (fun e => hzb (by rw [e]; exact hjb)) hz
        · show ((rec s j).2.gv.set i (b : Int)).getD z 0 = _ ∨ _
          rw [zb7 _ _ _ _ _ (Ne.symm hzi)]
          by_cases e : z = j
          · subst e; exact .inr ⟨k, hk, hgj⟩
          · exact y2 z hz e
        · show ((rec s j).2.gv.set i (b : Int)).getD z 0 ≠ _
          rw [zb7 _ _ _ _ _ (Ne.symm hzi)]
          by_cases e : z = j
          · subst e; rw [hgj]; omega
          · exact y3 z hz e hz1
        · have h1 := y4 c hc
          have h2 := zeE (c : Int) (b : Int) 0 (rec s j).2.gv i hil
          rw [hfi] at h2
          rw [hjb] at h1
          show (((rec s j).2.gv.set i (b : Int)).count (c : Int) : Int) + _ + _ = _
          dsimp only
          cases e1 : (s.gv.getD i 0 == (c : Int)) <;> cases e2 : ((b : Int) == (c : Int)) <;> simp only [e1, e2, ↓reduceIte, Bool.false_eq_true] at h1 h2 ⊢ <;> omega
      · rw [if_neg hr]
        have hrf : (rec s j).1 = false := by simpa using hr
        obtain ⟨n1, n2, n3, n4⟩ := hR.no hrf
        have hun2 : unm (rec s j).2.mt < f := Nat.lt_of_le_of_lt (zdE _ _ (by rw [hok.ml, hR.ok.ml]) hR.mono) hun
        have hid2 : idle (rec s j).2 i := by
          unfold idle at hidi ⊢
          rw [n1]
          rcases hidi with h | ⟨c, h1, h2⟩
          · exact .inl h
          · exact .inr ⟨c, h1, hR.mono c h2⟩
        have ih := zfW hb hi hrec js (rec s j).2 hjs' hR.ok hun2 (hR.mono b hmb) (by rw [n1]; exact hib) hid2
        refine ⟨ih.ok, fun c h => ih.mono c (hR.mono c h), fun z hzi hzb hz => ?_, fun h => ?_, fun h => ?_⟩
        · rw [ih.frame z hzi (by rw [n1]; exact hzb) (by
            unfold idle at hz ⊢
            rw [n1]
            rcases hz with h | ⟨c, h1, h2⟩
            · exact .inl h
            · exact .inr ⟨c, h1, hR.mono c h2⟩), n1]
        · obtain ⟨m1, m2, m3, m4⟩ := ih.no h
          refine ⟨by rw [m1, n1], by rw [m2, n2], fun z hz hzb => ?_, fun c hc h1 h2 => ?_⟩
          · rcases List.mem_cons.1 hz with e | e
            · subst e; exact zcF n3 ih.mono
            · exact m3 z e (by rw [n1]; exact hzb)
          · by_cases hm : (rec s j).2.mt.getD c false = true
            · obtain ⟨a1, a2⟩ := n4 c hc hm h2
              exact ⟨a1, fun z hz hzc => zcF (a2 z hz hzc) ih.mono⟩
            · obtain ⟨a1, a2⟩ := m4 c hc h1 (by simpa using hm)
              exact ⟨by rw [n2] at a1; exact a1, fun z hz hzc => a2 z hz (by rw [n1]; exact hzc)⟩
        · obtain ⟨m1, m2, m3, m4⟩ := ih.yes h
          rw [n1, n2] at m4
          rw [n1] at m2 m3
          exact ⟨m1, m2, m3, m4⟩
    · rw [if_pos hjb]
      have ih := zfW hb hi hrec js s hjs' hok hun hmb hib hidi
      refine ⟨ih.ok, ih.mono, ih.frame, fun h => ?_, ih.yes⟩
      obtain ⟨m1, m2, m3, m4⟩ := ih.no h
      refine ⟨m1, m2, fun z hz hzb => ?_, m4⟩
      rcases List.mem_cons.1 hz with e | e
      · subst e; exact absurd hzb hjb
      · exact m3 z e hzb
theorem both_of {tm : Nat → Nat → Nat} {mt : List Bool} {i : Nat} (h : ∀ k, k < 2 → mt.getD (tm i k) false = true) : both tm mt i := ⟨h 0 (by omega), h 1 (by omega)⟩
theorem zgF {tm : Nat → Nat → Nat} {n N f i : Nat} {rec : GS → Nat → Bool × GS} (htm : ∀ j k, tm j k < n) (hi : i < N)
    (hrec : ∀ s j, GOk n N s → j < N → unm s.mt < f → idle s j → GRes tm n N j s (rec s j)) :
    ∀ (ks : List Nat) (s : GS), (∀ k ∈ ks, k < 2) → GOk n N s → unm s.mt < f + 1 → idle s i → (∀ k, k < 2 → k ∉ ks → s.mt.getD (tm i k) false = true) → GRes tm n N i s (giveK rec tm N i ks s)
  | [], s, _, hok, _, _, hks => ⟨hok, fun _ h => h, fun _ _ _ => rfl, fun _ => ⟨rfl, rfl, both_of fun k hk => hks k hk (by simp), fun c _ h1 h2 => by have h3 : s.mt.getD c false = true := h1; rw [h3] at h2; cases h2⟩, fun h => by cases h⟩
  | k :: ks, s, hk2, hok, hun, hid, hks => by
    have hk := hk2 k List.mem_cons_self
    have hk2' : ∀ z ∈ ks, z < 2 := fun z hz => hk2 z (List.mem_cons_of_mem _ hz)
    have hb := htm i k
    unfold giveK
    by_cases hm : s.mt.getD (tm i k) false = true
    · rw [if_pos hm]
      refine zgF htm hi hrec ks s hk2' hok hun hid fun z hz hzk => ?_
      by_cases e : z = k
      · subst e; exact hm
      · exact hks z hz (by simp [e, hzk])
    · rw [if_neg hm]
      have hmf : s.mt.getD (tm i k) false = false := by simpa using hm
      have hml : tm i k < s.mt.length := by rw [hok.ml]; exact hb
      have hil : i < s.gv.length := by rw [hok.gl]; exact hi
      have hrl : tm i k < s.rm.length := by rw [hok.rl]; exact hb
      have hmono : ∀ c, s.mt.getD c false = true → (s.mt.set (tm i k) true).getD c false = true := fun c h => by
        by_cases e : tm i k = c
        · subst e; rw [hmf] at h; cases h
        · rw [zb7 _ _ _ _ _ e]; exact h
      have hgi : s.gv.getD i 0 ≠ ((tm i k : Nat) : Int) := fun h => by
        rcases hid with h1 | ⟨c, h1, h2⟩
        · omega
        · have : c = tm i k := by omega
          subst this
          rw [hmf] at h2; cases h2
      by_cases hr : 0 < s.rm.getD (tm i k) 0
      · rw [if_pos hr]
        refine ⟨⟨by simp [hok.gl], by simp [hok.rl], by simp [hok.ml], fun z hz => ?_, fun c hc => ?_⟩, hmono, fun z hzi _ => zb7 _ _ _ _ _ (Ne.symm hzi), fun h => (by cases h), fun _ => ⟨⟨k, hk, zbG _ _ _ _ hil⟩, fun z _ hzi => .inl (zb7 _ _ _ _ _ (Ne.symm hzi)), fun z _ hzi h => ?_, fun c hc => ?_⟩⟩
        · show (s.gv.set i _).getD z 0 = -1 ∨ ∃ c : Nat, c < n ∧ (s.gv.set i _).getD z 0 = (c : Int)
          by_cases e : i = z
          · subst e; rw [zbG _ _ _ _ hil]; exact .inr ⟨_, hb, rfl⟩
          · rw [zb7 _ _ _ _ _ e]; exact hok.gr z hz
        · show 0 ≤ (s.rm.set _ _).getD c 0
          by_cases e : tm i k = c
          · subst e; rw [zbG _ _ _ _ hrl]; omega
          · rw [zb7 _ _ _ _ _ e]; exact hok.rr c hc
        · show (s.gv.set i _).getD z 0 ≠ -1
          rw [zb7 _ _ _ _ _ (Ne.symm hzi)]; exact h
        · have h2 := zeE (c : Int) ((tm i k : Nat) : Int) 0 s.gv i hil
          show ((s.gv.set i ((tm i k : Nat) : Int)).count (c : Int) : Int) + (s.rm.set (tm i k) (s.rm.getD (tm i k) 0 - 1)).getD c 0 + _ = _
          by_cases e : tm i k = c
          · subst e
            rw [zbG _ _ _ _ hrl]
            cases e1 : (s.gv.getD i 0 == ((tm i k : Nat) : Int)) <;> simp only [e1, beq_self_eq_true, ↓reduceIte, Bool.false_eq_true] at h2 ⊢ <;> omega
          · rw [zb7 _ _ _ _ _ e]
            have e2 : (((tm i k : Nat) : Int) == (c : Int)) = false := by rw [beq_eq_false_iff_ne]; omega
            cases e1 : (s.gv.getD i 0 == (c : Int)) <;> simp only [e1, e2, ↓reduceIte, Bool.false_eq_true] at h2 ⊢ <;> omega
      · rw [if_neg hr]
        obtain ⟨s1, e1⟩ : ∃ s1 : GS, s1 = { s with mt := s.mt.set (tm i k) true } := ⟨_, rfl⟩
        rw [← e1]
        have g1 : s1.gv = s.gv := by rw [e1]
        have r1 : s1.rm = s.rm := by rw [e1]
        have m1 : s1.mt = s.mt.set (tm i k) true := by rw [e1]
        have hok1 : GOk n N s1 := ⟨by rw [g1]; exact hok.gl, by rw [r1]; exact hok.rl, by rw [m1]; simp [hok.ml], by rw [g1]; exact hok.gr, by rw [r1]; exact hok.rr⟩
        have hun1 : unm s1.mt < f := by
          have := unm_set hml hmf
          rw [m1]; omega
        have hmb : s1.mt.getD (tm i k) false = true := by rw [m1]; exact zbG _ _ _ _ hml
        have hidle : ∀ z, idle s z → idle s1 z := fun z h => by
          unfold idle at h ⊢
          rw [g1, m1]
          rcases h with h | ⟨c, h1, h2⟩
          · exact .inl h
          · exact .inr ⟨c, h1, hmono c h2⟩
        have hJ := zfW hb hi hrec (List.range N) s1 (fun z hz => List.mem_range.1 hz) hok1 hun1 hmb (by rw [g1]; exact hgi) (hidle i hid)
        have hmono1 : ∀ c, s.mt.getD c false = true → s1.mt.getD c false = true := fun c h => by rw [m1]; exact hmono c h
        have hnb : ∀ z, idle s z → s1.gv.getD z 0 ≠ ((tm i k : Nat) : Int) := fun z hz h => by
          rw [g1] at h
          rcases hz with h1 | ⟨c, h1, h2⟩
          · omega
          · have : c = tm i k := by omega
            subst this
            rw [hmf] at h2; cases h2
        have hnew : ∀ c, s1.mt.getD c false = true → s.mt.getD c false = false → c = tm i k := fun c h1 h2 => by
          by_cases e : tm i k = c
          · exact e.symm
          · rw [m1, zb7 _ _ _ _ _ e, h2] at h1; cases h1
        by_cases hJr : (giveJ rec (tm i k) i (List.range N) s1).1 = true
        · rw [if_pos hJr]
          obtain ⟨y1, y2, y3, y4⟩ := hJ.yes hJr
          rw [g1, r1] at y4
          rw [g1] at y2 y3
          exact ⟨hJ.ok, fun c h => hJ.mono c (hmono1 c h), fun z hzi hz => by rw [hJ.frame z hzi (hnb z hz) (hidle z hz), g1], fun h => (by rw [hJr] at h; cases h), fun _ => ⟨⟨k, hk, y1⟩, y2, y3, y4⟩⟩
        · rw [if_neg hJr]
          obtain ⟨n1, n2, n3, n4⟩ := hJ.no (by simpa using hJr)
          rw [g1] at n1
          rw [r1] at n2
          generalize giveJ rec (tm i k) i (List.range N) s1 = R at hJ n1 n2 n3 n4 hJr
          have hun2 : unm R.2.mt < f + 1 := by
            have := zdE s1.mt R.2.mt (by rw [hok1.ml, hJ.ok.ml]) hJ.mono
            omega
          have hid2 : idle R.2 i := by
            have := hidle i hid
            unfold idle at this ⊢
            rw [n1, ← g1]
            rcases this with h | ⟨c, h1, h2⟩
            · exact .inl h
            · exact .inr ⟨c, h1, hJ.mono c h2⟩
          have ih := zgF htm hi hrec ks R.2 hk2' hJ.ok hun2 hid2 fun z hz hzk => by
            by_cases e : z = k
            · subst e; exact hJ.mono _ hmb
            · exact hJ.mono _ (hmono1 _ (hks z hz (by simp [e, hzk])))
          refine ⟨ih.ok, fun c h => ih.mono c (hJ.mono c (hmono1 c h)), fun z hzi hz => ?_, fun h => ?_, fun h => ?_⟩
          · rw [ih.frame z hzi (by
              have := hidle z hz
              unfold idle at this ⊢
              rw [n1, ← g1]
              rcases this with h | ⟨c, h1, h2⟩
              · exact .inl h
              · exact .inr ⟨c, h1, hJ.mono c h2⟩), n1]
          · obtain ⟨p1, p2, p3, p4⟩ := ih.no h
            refine ⟨by rw [p1, n1], by rw [p2, n2], p3, fun c hc h1 h2 => ?_⟩
            by_cases hm2 : R.2.mt.getD c false = true
            · by_cases hm3 : s1.mt.getD c false = true
              · have e := hnew c hm3 h2
                subst e
                refine ⟨by have := hok.rr _ hc; omega, fun z hz hzc => zcF (n3 z (List.mem_range.2 hz) (by rw [g1]; exact hzc)) ih.mono⟩
              · obtain ⟨a1, a2⟩ := n4 c hc hm2 (by simpa using hm3)
                exact ⟨by rw [r1] at a1; exact a1, fun z hz hzc => zcF (a2 z hz (by rw [g1]; exact hzc)) ih.mono⟩
            · obtain ⟨a1, a2⟩ := p4 c hc h1 (by simpa using hm2)
              exact ⟨by rw [n2] at a1; exact a1, fun z hz hzc => a2 z hz (by rw [n1]; exact hzc)⟩
          · obtain ⟨p1, p2, p3, p4⟩ := ih.yes h
            rw [n1, n2] at p4
            rw [n1] at p2 p3
            exact ⟨p1, p2, p3, p4⟩
theorem zhV {tm : Nat → Nat → Nat} {n N : Nat} (htm : ∀ j k, tm j k < n) : ∀ (f : Nat) (s : GS) (i : Nat), GOk n N s → i < N → unm s.mt < f → idle s i → GRes tm n N i s (giveF tm N f s i)
  | 0, s, i, _, _, h, _ => by omega
  | f + 1, s, i, hok, hi, hun, hid => zgF htm hi (fun s j h1 h2 h3 h4 => zhV htm f s j h1 h2 h3 h4) [0, 1] s (by simp) hok hun hid fun k hk hks => by
      exfalso
      have : k = 0 ∨ k = 1 := by omega
      rcases this with rfl | rfl <;> simp at hks
end Go.Abs
end

section
namespace Go.Abs
def ptsF : Nat → List Int → List (Nat × Nat)
  | _, [] => []
  | k, x :: l => if x = -1 then ptsF (k + 1) l else (k / 2, x.toNat) :: ptsF (k + 1) l
def wid (k g : Nat) : Nat := if 2 * g + 1 < k then 0 else if 2 * g < k then 1 else 2
theorem wid_step (k g : Nat) : wid k g = wid (k + 1) g + if g = k / 2 then 1 else 0 := by
  unfold wid
  by_cases h1 : 2 * g + 1 < k
  · rw [if_pos h1, if_pos (by omega), if_neg (by omega)]
  · rw [if_neg h1]
    by_cases h2 : 2 * g < k
    · rw [if_pos h2, if_pos (by omega), if_pos (by omega)]
    · rw [if_neg h2]
      by_cases h3 : 2 * g = k
      · rw [if_neg (by omega), if_pos (by omega), if_pos (by omega)]
      · rw [if_neg (by omega), if_neg (by omega), if_neg (by omega)]
theorem pts_team (b : Nat) : ∀ (k : Nat) (l : List Int), (∀ x ∈ l, x = -1 ∨ 0 ≤ x) → keyC Prod.snd (ptsF k l) b = l.count (b : Int)
  | _, [], _ => rfl
  | k, x :: l, h => by
    have ih := pts_team b (k + 1) l fun z hz => h z (List.mem_cons_of_mem _ hz)
    have hx := h x List.mem_cons_self
    unfold ptsF
    rw [List.count_cons]
    by_cases e : x = -1
    · rw [if_pos e, ih, if_neg (by rw [e]; simp)]
      omega
    · rw [if_neg e, zc0, ih]
      by_cases e2 : x = (b : Int)
      · rw [if_pos (show b = x.toNat by omega), if_pos (by rw [e2]; exact beq_self_eq_true _)]
      · rw [if_neg (show ¬ b = x.toNat by omega), if_neg (by simp [e2])]
theorem zdZ (g : Nat) : ∀ (k : Nat) (l : List Int), keyC Prod.fst (ptsF k l) g ≤ wid k g
  | _, [] => Nat.zero_le _
  | k, x :: l => by
    have ih := zdZ g (k + 1) l
    have hw := wid_step k g
    unfold ptsF
    split
    · omega
    · rw [zc0]; dsimp only; omega
theorem zfP (g : Nat) : ∀ (k : Nat) (l : List Int), (∀ x ∈ l, x ≠ -1) → 2 * g + 2 ≤ k + l.length → keyC Prod.fst (ptsF k l) g = wid k g
  | k, [], _, h => by
    unfold wid
    rw [if_pos (by simp at h; omega)]
    rfl
  | k, x :: l, hx, h => by
    have ih := zfP g (k + 1) l (fun z hz => hx z (List.mem_cons_of_mem _ hz)) (by simp at h; omega)
    have hw := wid_step k g
    unfold ptsF
    rw [if_neg (hx x List.mem_cons_self), zc0]
    dsimp only
    omega
theorem zf1 : ∀ (k : Nat) (l : List Int) (i : Nat), i < l.length → l.getD i 0 = -1 → keyC Prod.fst (ptsF k (l.set i 0)) ((k + i) / 2) = keyC Prod.fst (ptsF k l) ((k + i) / 2) + 1
  | k, [], i, h, _ => by simp at h
  | k, x :: l, 0, h, hx => by
    have hx' : x = -1 := by simpa using hx
    simp only [List.set_cons_zero]
    unfold ptsF
    rw [if_neg (by decide), if_pos hx', zc0, Nat.add_zero]
    show _ + (if k / 2 = k / 2 then 1 else 0) = _
    rw [if_pos rfl]
  | k, x :: l, i + 1, h, hx => by
    have ih := zf1 (k + 1) l i (by simpa using h) (by simpa using hx)
    simp only [List.set_cons_succ]
    unfold ptsF
    rw [show k + 1 + i = k + (i + 1) by omega] at ih
    split
    · exact ih
    · rw [zc0, zc0, ih]; omega
theorem zi0 : ∀ (k : Nat) (l : List Int) (p : Nat × Nat), p ∈ ptsF k l → ∃ j, j < l.length ∧ l.getD j 0 ≠ -1 ∧ p = ((k + j) / 2, (l.getD j 0).toNat)
  | k, [], p, h => by simp [ptsF] at h
  | k, x :: l, p, h => by
    unfold ptsF at h
    by_cases e : x = -1
    · rw [if_pos e] at h
      obtain ⟨j, h1, h2, h3⟩ := zi0 (k + 1) l p h
      exact ⟨j + 1, by simpa using h1, by simpa using h2, by rw [h3, show k + 1 + j = k + (j + 1) by omega]; simp⟩
    · rw [if_neg e] at h
      rcases List.mem_cons.1 h with h | h
      · exact ⟨0, by simp, by simpa using e, by rw [h]; simp⟩
      · obtain ⟨j, h1, h2, h3⟩ := zi0 (k + 1) l p h
        exact ⟨j + 1, by simpa using h1, by simpa using h2, by rw [h3, show k + 1 + j = k + (j + 1) by omega]; simp⟩
def allF (tm : Nat → Nat → Nat) (n N : Nat) : List Nat → List Int → List Int → Bool
  | [], _, _ => true
  | i :: is, gv, rm =>
    if (giveF tm N (n + 1) ⟨gv, rm, List.replicate n false⟩ i).1 = true then
      allF tm n N is (giveF tm N (n + 1) ⟨gv, rm, List.replicate n false⟩ i).2.gv (giveF tm N (n + 1) ⟨gv, rm, List.replicate n false⟩ i).2.rm
    else false
def prF (tm : Nat → Nat → Nat) (g : Nat) : Nat × Nat := (tm (2 * g) 0, tm (2 * g) 1)
def Feas (n G : Nat) (pr : Nat → Nat × Nat) (room0 : Nat → Nat) : Prop := ∃ room P, Con n G pr room0 room P ∧ ∀ g, g < G → keyC Prod.fst P g = 2
def NoFeas (n G : Nat) (pr : Nat → Nat × Nat) (room0 : Nat → Nat) : Prop := ∃ M, Viol n G pr room0 M
theorem feas_not {n G : Nat} {pr : Nat → Nat × Nat} {room0 : Nat → Nat} (h : Feas n G pr room0) (k : NoFeas n G pr room0) : False := by
  obtain ⟨room, P, h1, h2⟩ := h
  obtain ⟨M, hM⟩ := k
  exact full_no_viol h1 h2 hM
structure AInv (tm : Nat → Nat → Nat) (n N : Nat) (room0 : Nat → Nat) (a : Nat) (gv rm : List Int) : Prop where
  ok : ∀ mt : List Bool, mt.length = n → GOk n N ⟨gv, rm, mt⟩
  own : ∀ j, j < N → gv.getD j 0 = -1 ∨ ∃ k, k < 2 ∧ gv.getD j 0 = (tm j k : Int)
  bal : ∀ c, c < n → (gv.count (c : Int) : Int) + rm.getD c 0 = room0 c
  done : ∀ j, j < a → gv.getD j 0 ≠ -1
  todo : ∀ j, a ≤ j → j < N → gv.getD j 0 = -1
theorem ainv_con {tm : Nat → Nat → Nat} {n G : Nat} {room0 : Nat → Nat} {a : Nat} {gv rm : List Int} (htm : ∀ j k, tm j k < n) (htw : ∀ g k, tm (2 * g + 1) k = tm (2 * g) k) (h : AInv tm n (2 * G) room0 a gv rm) :
    Con n G (prF tm) room0 (fun c => (rm.getD c 0).toNat) (ptsF 0 gv) := by
  have hok := h.ok (List.replicate n false) (by simp)
  have hgl := hok.gl
  have hrg : ∀ x ∈ gv, x = -1 ∨ 0 ≤ x := fun x hx => by
    obtain ⟨j, hj, rfl⟩ := List.getElem_of_mem hx
    have := hok.gr j (by have : gv.length = 2 * G := hgl; omega)
    have e : gv.getD j 0 = gv[j] := by rw [List.getD_eq_getElem?_getD, List.getElem?_eq_getElem hj]; rfl
    have this2 : gv.getD j 0 = -1 ∨ ∃ c : Nat, c < n ∧ gv.getD j 0 = (c : Int) := this
    rw [e] at this2
    rcases this2 with h1 | ⟨c, _, h1⟩ <;> omega
  refine ⟨fun b hb => ?_, fun p hp => ?_, fun g hg => ?_⟩
  · rw [pts_team b 0 gv hrg]
    have h1 := h.bal b hb
    have h2 : 0 ≤ rm.getD b 0 := hok.rr b hb
    omega
  · obtain ⟨j, h1, h2, rfl⟩ := zi0 0 gv p hp
    have hjN : j < 2 * G := by have : gv.length = 2 * G := hgl; omega
    rw [Nat.zero_add]
    rcases h.own j hjN with h3 | ⟨k, hk, h3⟩
    · exact absurd h3 h2
    · rw [h3, Int.toNat_natCast]
      have e : tm j k = tm (2 * (j / 2)) k := by
        by_cases hp : j % 2 = 0
        · rw [show 2 * (j / 2) = j by omega]
        · rw [← htw, show 2 * (j / 2) + 1 = j by omega]
      refine ⟨by omega, htm j k, ?_⟩
      have : k = 0 ∨ k = 1 := by omega
      rcases this with rfl | rfl
      · exact .inl e
      · exact .inr e
  · have := zdZ g 0 gv
    unfold wid at this
    rw [if_neg (by omega), if_neg (by omega)] at this
    exact this
theorem allF_res {tm : Nat → Nat → Nat} {n G : Nat} {room0 : Nat → Nat} (htm : ∀ j k, tm j k < n) (htw : ∀ g k, tm (2 * g + 1) k = tm (2 * g) k) : ∀ (d a : Nat) (gv rm : List Int), a + d = 2 * G → AInv tm n (2 * G) room0 a gv rm →
    (allF tm n (2 * G) (List.range' a d) gv rm = true → Feas n G (prF tm) room0) ∧ (allF tm n (2 * G) (List.range' a d) gv rm = false → NoFeas n G (prF tm) room0)
  | 0, a, gv, rm, had, h => by
    have hgl : gv.length = 2 * G := (h.ok (List.replicate n false) (by simp)).gl
    refine ⟨fun _ => ⟨_, _, ainv_con htm htw h, fun g hg => ?_⟩, fun h => by simp [allF] at h⟩
    rw [zfP g 0 gv (fun x hx => by
      obtain ⟨j, hj, rfl⟩ := List.getElem_of_mem hx
      have := h.done j (by omega)
      rw [List.getD_eq_getElem?_getD, List.getElem?_eq_getElem hj] at this
      exact this) (by omega)]
    unfold wid
    rw [if_neg (by omega), if_neg (by omega)]
  | d + 1, a, gv, rm, had, h => by
    have hok := h.ok (List.replicate n false) (by simp)
    have haN : a < 2 * G := by omega
    have hunm : unm (List.replicate n false) < n + 1 := by
      unfold unm; rw [List.count_replicate]; simp
    have hidle : idle ⟨gv, rm, List.replicate n false⟩ a := .inl (h.todo a (Nat.le_refl _) haN)
    have hR := zhV htm (n + 1) ⟨gv, rm, List.replicate n false⟩ a hok haN hunm hidle
    have hno : ∀ c, (List.replicate n false).getD c false = false := fun c => by
      rw [List.getD_eq_getElem?_getD, List.getElem?_replicate]; split <;> rfl
    rw [List.range'_succ]
    unfold allF
    generalize giveF tm (2 * G) (n + 1) ⟨gv, rm, List.replicate n false⟩ a = R at hR
    by_cases hr : R.1 = true
    · rw [if_pos hr]
      obtain ⟨⟨k, hk, y1⟩, y2, y3, y4⟩ := hR.yes hr
      refine allF_res htm htw d (a + 1) R.2.gv R.2.rm (by omega) ⟨fun mt hmt => ⟨hR.ok.gl, hR.ok.rl, hmt, hR.ok.gr, hR.ok.rr⟩, fun j hj => ?_, fun c hc => ?_, fun j hj => ?_, fun j hj hjN => ?_⟩
      · by_cases e : j = a
        · subst e; exact .inr ⟨k, hk, y1⟩
        · rcases y2 j hj e with h1 | h1
          · rw [h1]; exact h.own j hj
          · exact .inr h1
      · have h1 := y4 c hc
        have h2 := h.bal c hc
        have h3 : gv.getD a 0 = -1 := h.todo a (Nat.le_refl _) haN
        have e : ((⟨gv, rm, List.replicate n false⟩ : GS).gv.getD a 0 == (c : Int)) = false := by
          show (gv.getD a 0 == (c : Int)) = false
          rw [h3, beq_eq_false_iff_ne]; omega
        rw [e] at h1
        simp only [Bool.false_eq_true, ↓reduceIte] at h1
        omega
      · by_cases e : j = a
        · subst e; rw [y1]; omega
        · exact y3 j (by omega) e (h.done j (by omega))
      · rw [hR.frame j (by omega) (.inl (h.todo j (by omega) hjN))]
        exact h.todo j (by omega) hjN
    · rw [if_neg hr]
      refine ⟨fun h => by simp at h, fun _ => ?_⟩
      obtain ⟨n1, n2, n3, n4⟩ := hR.no (by simpa using hr)
      have hcon := ainv_con htm htw h
      have hga : gv.getD a 0 = -1 := h.todo a (Nat.le_refl _) haN
      have hgl : gv.length = 2 * G := hok.gl
      have hb : ∀ j, both tm R.2.mt j → insB (prF tm) (fun c => R.2.mt.getD c false) (j / 2) = true := fun j hj => by
        unfold insB prF
        have e : ∀ k, tm (2 * (j / 2)) k = tm j k := fun k => by
          by_cases hp : j % 2 = 0
          · rw [show 2 * (j / 2) = j by omega]
          · rw [← htw, show 2 * (j / 2) + 1 = j by omega]
        dsimp only
        rw [e 0, e 1, hj.1, hj.2]
        rfl
      refine ⟨fun c => R.2.mt.getD c false, zh0 hcon (fun b hbn hm => ?_) (fun p hp hm => ?_) (g := a / 2) (by omega) (hb a n3) ?_⟩
      · have h1 : rm.getD b 0 = 0 := (n4 b hbn hm (hno b)).1
        rw [h1]; rfl
      · obtain ⟨j, h1, h2, rfl⟩ := zi0 0 gv p hp
        rw [Nat.zero_add]
        rcases hok.gr j (by omega) with h3 | ⟨c, hc, h3⟩
        · exact absurd h3 h2
        · have h3' : gv.getD j 0 = (c : Int) := h3
          have hm' : R.2.mt.getD (gv.getD j 0).toNat false = true := hm
          rw [h3', Int.toNat_natCast] at hm'
          exact hb j ((n4 c hc hm' (hno c)).2 j (by omega) h3')
      · have h1 := zf1 0 gv a (by omega) hga
        have h2 := zdZ (a / 2) 0 (gv.set a 0)
        rw [Nat.zero_add] at h1
        unfold wid at h2
        rw [if_neg (by omega), if_neg (by omega)] at h2
        omega
end Go.Abs
end

section
set_option maxRecDepth 100000
set_option maxHeartbeats 2000000
namespace Go.Proofs.YtpienljnoaendaaGreat.A
open Go Go.Abs Go.RowKit
structure LenOk (n N : Nat) (s : GS) : Prop where
  gl : s.gv.length = N
  rl : s.rm.length = n
  ml : s.mt.length = n
  ru : ∀ c, s.rm.getD c 0 ≤ 4294967296
structure LRes (n N : Nat) (s : GS) (r : Bool × GS) : Prop where
  ok : LenOk n N r.2
  mono : ∀ c, s.mt.getD c false = true → r.2.mt.getD c false = true
theorem zg2 {n N b i : Nat} {rec : GS → Nat → Bool × GS} (hrec : ∀ s j, LenOk n N s → LRes n N s (rec s j)) : ∀ (js : List Nat) (s : GS), LenOk n N s → LRes n N s (giveJ rec b i js s)
  | [], s, h => ⟨h, fun _ h => h⟩
  | j :: js, s, h => by
    unfold giveJ
    have hR := hrec s j h
    split
    · exact zg2 (b := b) (i := i) hrec js s h
    · split
      · exact ⟨⟨by simp [hR.ok.gl], hR.ok.rl, hR.ok.ml, hR.ok.ru⟩, hR.mono⟩
      · have ih := zg2 (b := b) (i := i) hrec js (rec s j).2 hR.ok
        exact ⟨ih.ok, fun c h => ih.mono c (hR.mono c h)⟩
theorem zhI {mt : List Bool} {b : Nat} : ∀ c, mt.getD c false = true → (mt.set b true).getD c false = true := fun c h => by
  by_cases e : b = c
  · subst e
    by_cases hb : b < mt.length
    · exact zbG _ _ _ _ hb
    · rw [List.getD_eq_getElem?_getD, List.getElem?_eq_none (by omega)] at h; cases h
  · rw [zb7 _ _ _ _ _ e]; exact h
theorem zgD {n N i : Nat} {tm : Nat → Nat → Nat} {rec : GS → Nat → Bool × GS} (hrec : ∀ s j, LenOk n N s → LRes n N s (rec s j)) : ∀ (ks : List Nat) (s : GS), LenOk n N s → LRes n N s (giveK rec tm N i ks s)
  | [], s, h => ⟨h, fun _ h => h⟩
  | k :: ks, s, h => by
    unfold giveK
    have h1 : LenOk n N { s with mt := s.mt.set (tm i k) true } := ⟨h.gl, h.rl, by simp [h.ml], h.ru⟩
    have hJ := zg2 (b := tm i k) (i := i) hrec (List.range N) _ h1
    split
    · exact zgD (tm := tm) (i := i) hrec ks s h
    · split
      · refine ⟨⟨by simp [h.gl], by simp [h.rl], by simp [h.ml], fun c => ?_⟩, zhI⟩
        show (s.rm.set _ _).getD c 0 ≤ _
        by_cases e : tm i k = c
        · subst e
          by_cases hb : tm i k < s.rm.length
          · rw [zbG _ _ _ _ hb]; have := h.ru (tm i k); omega
          · rw [List.getD_eq_getElem?_getD, List.getElem?_eq_none (by simp; omega)]; show (0 : Int) ≤ _; omega
        · rw [zb7 _ _ _ _ _ e]; exact h.ru c
      · split
        · exact ⟨hJ.ok, fun c h => hJ.mono c (zhI c h)⟩
        · have ih := zgD (tm := tm) (i := i) hrec ks _ hJ.ok
          exact ⟨ih.ok, fun c h => ih.mono c (hJ.mono c (zhI c h))⟩
theorem zgJ {tm : Nat → Nat → Nat} {n N : Nat} : ∀ (f : Nat) (s : GS) (i : Nat), LenOk n N s → LRes n N s (giveF tm N f s i)
  | 0, s, i, h => ⟨h, fun _ h => h⟩
  | f + 1, s, i, h => zgD (fun s j h => zgJ f s j h) [0, 1] s h
def StG (gi ri me : Nat) (H0 : AH) (s : GS) (H : AH) : Prop :=
  H.row gi = some ⟨2, true, ints s.gv⟩ ∧ H.row ri = some ⟨2, true, ints s.rm⟩ ∧ H.row me = some ⟨4, true, bools s.mt⟩ ∧ H.next = H0.next ∧ ∀ j, j ≠ gi → j ≠ ri → j ≠ me → H.row j = H0.row j
theorem l10Give_c (n N : Nat) (hnN : n ≤ 1024 ∧ N ≤ 65536) (tm : Nat → Nat → Nat) (htm : ∀ j k, tm j k < n) (gm : Value) (gl : List (List Int)) (hgl : gl.length = N) (hpair : ∀ j, j < N → gl.getD j [] = [(tm j 0 : Int), (tm j 1 : Int)]) (gi ri me : Nat) (hne : gi ≠ ri ∧ gi ≠ me ∧ ri ≠ me) (B : AH)
    (hgm : ∀ H' : AH, (∀ j, j ≠ gi → j ≠ ri → j ≠ me → H'.row j = B.row j) → Rd2 1 H' gm gl) :
    ∀ (f : Nat) (s : GS) (i : Nat) (H : AH), LenOk n N s → i < N → unm s.mt < f → StG gi ri me B s H →
      ACalls Tryz.prog 273 [gm, .slice (some ⟨gi, 0, some 1⟩) N N, .slice (some ⟨ri, 0, some 1⟩) n n, .int .i64 i, .slice (some ⟨me, 0, some 1⟩) n n] H (fun r H' => r = .bool (giveF tm N f s i).1 ∧ StG gi ri me B (giveF tm N f s i).2 H') := by
  intro f
  induction f with
  | zero => intro s i H _ _ h; omega
  | succ f ih =>
    intro s i H hlen hi hun hS
    refine za3 [.tmp 10] Tryz.func273 (by kernel_rfl) rfl rfl (Nat.le_of_ble_eq_true rfl) (by kernel_rfl) ?_
    have hr01 : ([0, 1] : List Nat) = List.range' 0 2 := rfl
    have hF : giveF tm N (f + 1) s i = giveK (giveF tm N f) tm N i (List.range' 0 2) s := rfl
    rw [hF]
    try simp (disch := first | omega | (simp only [L3] <;> omega)) only [Sall,evalOp,init,binA_s,binE,binI,unE,convE,okNil,builtE,gv,TD.isAgg,resV,↓reduceIte,Nat.reduceEqDiff,reduceCtorEq,Nat.reduceAdd,Nat.reduceMul,Nat.reduceLeDiff,za0,za1,Int.reduceEq,Int.reduceLT,Int.reduceLE,Nat.reduceLT,tiA, true_and]
    refine za7 (fun m t H' => ∃ (k : Nat) (s' : GS), m = 2 - k ∧ k ≤ 2 ∧ t 11 = .int .i64 k ∧ t 0 = gm ∧ t 1 = .slice (some ⟨gi, 0, some 1⟩) N N ∧ t 2 = .slice (some ⟨ri, 0, some 1⟩) n n ∧ t 3 = .int .i64 i ∧ t 4 = .slice (some ⟨me, 0, some 1⟩) n n ∧ giveK (giveF tm N f) tm N i (List.range' 0 2) s = giveK (giveF tm N f) tm N i (List.range' k (2 - k)) s' ∧ LenOk n N s' ∧ unm s'.mt < f + 1 ∧ StG gi ri me B s' H') 2 ?_ ?_
    · refine ⟨0, s, by omega, by omega, ?_⟩
      try simp (disch := first | omega | (simp only [L3] <;> omega)) only [Sall,evalOp,init,binA_s,binE,binI,unE,convE,okNil,builtE,gv,TD.isAgg,resV,↓reduceIte,Nat.reduceEqDiff,reduceCtorEq,Nat.reduceAdd,Nat.reduceMul,Nat.reduceLeDiff,za0,za1,Int.reduceEq,Int.reduceLT,Int.reduceLE,Nat.reduceLT,tiA, Int.natCast_zero]
      exact ⟨hlen, hun, hS⟩
    · rintro m t H' ⟨k, s', hm, hk, h11, h0, h1, h2, h3, h4, hEq, hlen', hun', hS'⟩
      rw [hEq]
      try simp (disch := first | omega | (simp only [L3] <;> omega)) only [Sall,evalOp,init,binA_s,binE,binI,unE,convE,okNil,builtE,gv,TD.isAgg,resV,↓reduceIte,Nat.reduceEqDiff,reduceCtorEq,Nat.reduceAdd,Nat.reduceMul,Nat.reduceLeDiff,za0,za1,Int.reduceEq,Int.reduceLT,Int.reduceLE,Nat.reduceLT,tiA, h11]
      refine za6 (fun h => ?_) (fun h => ?_)
      · rw [show 2 - k = (2 - (k + 1)) + 1 by omega, List.range'_succ]
        obtain ⟨b, hbd⟩ : ∃ b, b = tm i k := ⟨_, rfl⟩
        have hbn : b < n := by rw [hbd]; exact htm i k
        have hstep : giveK (giveF tm N f) tm N i (k :: List.range' (k + 1) (2 - (k + 1))) s' = (if s'.mt.getD b false = true then giveK (giveF tm N f) tm N i (List.range' (k + 1) (2 - (k + 1))) s'
          else if 0 < s'.rm.getD b 0 then (true, ⟨s'.gv.set i (b : Int), s'.rm.set b (s'.rm.getD b 0 - 1), s'.mt.set b true⟩)
          else if (giveJ (giveF tm N f) b i (List.range N) { s' with mt := s'.mt.set b true }).1 = true then giveJ (giveF tm N f) b i (List.range N) { s' with mt := s'.mt.set b true }
          else giveK (giveF tm N f) tm N i (List.range' (k + 1) (2 - (k + 1))) (giveJ (giveF tm N f) b i (List.range N) { s' with mt := s'.mt.set b true }).2) := by rw [hbd]; rfl
        rw [hstep]
        obtain ⟨s1, s2, s3, s4, s5⟩ := id hS'
        obtain ⟨xi, xo, xu, xc, xr, y, my, ex, hxr, hy, hsx, hok⟩ := (hgm H' s5).get (j := i) (by omega)
        rw [hpair i hi] at hsx
        have hmy := hsx.lenK1
        have hmy2 : my = 2 := by simpa using hmy
        subst hmy2
        obtain ⟨yi, yo, yu, yc, yr, ey, hyr, _, hyg, _⟩ := hsx.get (by omega)
        have g1 := hyg k (by omega)
        have hgk : ([(tm i 0 : Int), (tm i 1 : Int)] : List Int).getD k 0 = (b : Int) := by
          have : k = 0 ∨ k = 1 := by omega
          rcases this with rfl | rfl <;> rw [hbd] <;> rfl
        rw [hgk] at g1
        rw [hgl] at ex
        have hbm : b < s'.mt.length := by rw [hlen'.ml]; exact hbn
        have m1 := bools_get? s'.mt b hbm
        have hbs : (bools s'.mt).set b (.bool true) = bools (s'.mt.set b true) := bools_set _ _ _
        have nrm : ¬ ri = me := hne.2.2
        have ngm : ¬ gi = me := hne.2.1
        have ngr : ¬ gi = ri := hne.1
        have nrg : ¬ ri = gi := fun e => ngr e.symm
        have nmg : ¬ me = gi := fun e => ngm e.symm
        have nmr : ¬ me = ri := fun e => nrm e.symm
        obtain hmt | hmt : s'.mt.getD b false = true ∨ s'.mt.getD b false = false := by cases s'.mt.getD b false <;> simp
        · rw [hmt] at m1
          rw [if_pos hmt]
          try simp (disch := first | omega | (simp only [L3] <;> omega)) only [Sall,evalOp,init,binA_s,binE,binI,unE,convE,okNil,builtE,gv,TD.isAgg,resV,↓reduceIte,Nat.reduceEqDiff,reduceCtorEq,Nat.reduceAdd,Nat.reduceMul,Nat.reduceLeDiff,za0,za1,Int.reduceEq,Int.reduceLT,Int.reduceLE,Nat.reduceLT,tiA, h11, h0, h1, h2, h3, h4, ex, hxr, hy, hok, ey, hyr, g1, s3, m1, w64]
          (repeat refine And.intro (by omega) ?_)
          exact ⟨2 - (k + 1), by omega, k + 1, s', rfl, by omega, by omega, rfl, hlen', hun', hS'⟩
        · rw [hmt] at m1
          rw [if_neg (by rw [hmt]; simp)]
          have q1 := ints_get? s'.rm b (by rw [hlen'.rl]; exact hbn)
          have hru := hlen'.ru b
          have lml := hlen'.ml
          have lrl := hlen'.rl
          have lgl := hlen'.gl
          by_cases hr : 0 < s'.rm.getD b 0
          · rw [if_pos hr]
            try simp (disch := first | omega | (simp only [L3] <;> omega)) only [Sall,evalOp,init,binA_s,binE,binI,unE,convE,okNil,builtE,gv,TD.isAgg,resV,↓reduceIte,Nat.reduceEqDiff,reduceCtorEq,Nat.reduceAdd,Nat.reduceMul,Nat.reduceLeDiff,za0,za1,Int.reduceEq,Int.reduceLT,Int.reduceLE,Nat.reduceLT,tiA, h11, h0, h1, h2, h3, h4, ex, hxr, hy, hok, ey, hyr, g1, s3, m1, s2, q1, hr, decide_true, s1, nrm, ngm, ngr, nrg, nmg, nmr, hbs, zaH, zcS, lml, lrl, lgl, w64]
            (repeat refine And.intro (by omega) ?_)
            refine ⟨?_, ?_, ?_, s4, fun j j1 j2 j3 => ?_⟩
            · rw [AH.setCells_row, if_pos rfl, AH.setCells_row, if_neg ngr, AH.setCells_row, if_neg ngm, s1]; rfl
            · rw [AH.setCells_row, if_neg nrg, AH.setCells_row, if_pos rfl, AH.setCells_row, if_neg nrm, s2]; rfl
            · rw [AH.setCells_row, if_neg nmg, AH.setCells_row, if_neg nmr, AH.setCells_row, if_pos rfl, s3]; rfl
            · rw [AH.setCells_row, if_neg j1, AH.setCells_row, if_neg j2, AH.setCells_row, if_neg j3]; exact s5 j j1 j2 j3
          · rw [if_neg hr]
            try simp (disch := first | omega | (simp only [L3] <;> omega)) only [Sall,evalOp,init,binA_s,binE,binI,unE,convE,okNil,builtE,gv,TD.isAgg,resV,↓reduceIte,Nat.reduceEqDiff,reduceCtorEq,Nat.reduceAdd,Nat.reduceMul,Nat.reduceLeDiff,za0,za1,Int.reduceEq,Int.reduceLT,Int.reduceLE,Nat.reduceLT,tiA, h11, h0, h1, h2, h3, h4, ex, hxr, hy, hok, ey, hyr, g1, s3, m1, s2, q1, hr, decide_false, s1, nrm, ngm, ngr, nrg, nmg, nmr, hbs, zaH, zcS, lml, lrl, lgl, w64]
            (repeat refine And.intro (by omega) ?_)
            have hS1 : StG gi ri me B ⟨s'.gv, s'.rm, s'.mt.set b true⟩ (H'.setCells me (bools (s'.mt.set b true))) := by
              refine ⟨?_, ?_, ?_, s4, fun j j1 j2 j3 => ?_⟩
              · rw [AH.setCells_row, if_neg ngm, s1]
              · rw [AH.setCells_row, if_neg nrm, s2]
              · rw [AH.setCells_row, if_pos rfl, s3]; rfl
              · rw [AH.setCells_row, if_neg j3]; exact s5 j j1 j2 j3
            have hun1 : unm (s'.mt.set b true) < f := by have := unm_set hbm hmt; omega
            have hlen1 : LenOk n N ⟨s'.gv, s'.rm, s'.mt.set b true⟩ := ⟨lgl, lrl, by simp [lml], hlen'.ru⟩
            have hrec : ∀ s j, LenOk n N s → LRes n N s (giveF tm N f s j) := fun s j h => zgJ f s j h
            revert hS1 hun1 hlen1
            show StG gi ri me B ⟨s'.gv, s'.rm, s'.mt.set b true⟩ _ → unm (GS.mk s'.gv s'.rm (s'.mt.set b true)).mt < f → _ → _
            generalize H'.setCells me (bools (s'.mt.set b true)) = H1
            generalize GS.mk s'.gv s'.rm (s'.mt.set b true) = S1
            intro hS1 hun1 hlen1
            have hrange : List.range N = List.range' 0 N := List.range_eq_range'
            rw [hrange]
            refine za7 (fun m t H2 => ∃ (j : Nat) (s2 : GS), m = N - j ∧ j ≤ N ∧ t 13 = .int .i64 j ∧ t 12 = .int .i64 b ∧ t 11 = .int .i64 k ∧ t 0 = gm ∧ t 1 = .slice (some ⟨gi, 0, some 1⟩) N N ∧ t 2 = .slice (some ⟨ri, 0, some 1⟩) n n ∧ t 3 = .int .i64 i ∧ t 4 = .slice (some ⟨me, 0, some 1⟩) n n ∧ giveJ (giveF tm N f) b i (List.range' 0 N) S1 = giveJ (giveF tm N f) b i (List.range' j (N - j)) s2 ∧ LenOk n N s2 ∧ unm s2.mt < f ∧ StG gi ri me B s2 H2) N ?_ ?_
            · refine ⟨0, S1, by omega, by omega, ?_⟩
              try simp (disch := first | omega | (simp only [L3] <;> omega)) only [Sall,evalOp,init,binA_s,binE,binI,unE,convE,okNil,builtE,gv,TD.isAgg,resV,↓reduceIte,Nat.reduceEqDiff,reduceCtorEq,Nat.reduceAdd,Nat.reduceMul,Nat.reduceLeDiff,za0,za1,Int.reduceEq,Int.reduceLT,Int.reduceLE,Nat.reduceLT,tiA, Int.natCast_zero, h11, h0, h1, h2, h3, h4]
              exact ⟨rfl, hlen1, hun1, hS1⟩
            · rintro m t H2 ⟨j, s2', hm2, hj, h13, h12, h11, h0, h1, h2, h3, h4, hJe, hlen2, hun2, hS2⟩
              rw [hJe]
              have hgml := (hgm H2 hS2.2.2.2.2).len
              rw [hgl] at hgml
              try simp (disch := first | omega | (simp only [L3] <;> omega)) only [Sall,evalOp,init,binA_s,binE,binI,unE,convE,okNil,builtE,gv,TD.isAgg,resV,↓reduceIte,Nat.reduceEqDiff,reduceCtorEq,Nat.reduceAdd,Nat.reduceMul,Nat.reduceLeDiff,za0,za1,Int.reduceEq,Int.reduceLT,Int.reduceLE,Nat.reduceLT,tiA, h13, h0, builtE, hgml]
              refine za6 (fun hh => ?_) (fun hh => ?_)
              · obtain ⟨u1, u2, u3, u4, u5⟩ := id hS2
                have lg2 := hlen2.gl
                have p1 := ints_get? s2'.gv j (by omega)
                rw [show N - j = (N - (j + 1)) + 1 by omega, List.range'_succ]
                by_cases hgb : s2'.gv.getD j 0 = (b : Int)
                · have e1 : (s2'.gv.getD j 0 != (b : Int)) = false := by rw [hgb]; exact bne_self_eq_false _
                  have hst : giveJ (giveF tm N f) b i (j :: List.range' (j + 1) (N - (j + 1))) s2' = (if (giveF tm N f s2' j).1 = true then (true, ⟨(giveF tm N f s2' j).2.gv.set i (b : Int), (giveF tm N f s2' j).2.rm, (giveF tm N f s2' j).2.mt⟩) else giveJ (giveF tm N f) b i (List.range' (j + 1) (N - (j + 1))) (giveF tm N f s2' j).2) := by
                    conv => lhs; unfold giveJ
                    rw [if_neg (fun h => h hgb)]
                  rw [hst]
                  try simp (disch := first | omega | (simp only [L3] <;> omega)) only [Sall,evalOp,init,binA_s,binE,binI,unE,convE,okNil,builtE,gv,TD.isAgg,resV,↓reduceIte,Nat.reduceEqDiff,reduceCtorEq,Nat.reduceAdd,Nat.reduceMul,Nat.reduceLeDiff,za0,za1,Int.reduceEq,Int.reduceLT,Int.reduceLE,Nat.reduceLT,tiA, h13, h12, h11, h0, h1, h2, h3, h4, u1, p1, e1]
                  (repeat refine And.intro (by omega) ?_)
                  have hL := hrec s2' j hlen2
                  have hcall := ih s2' j H2 hlen2 (by omega) hun2 hS2
                  revert hL hcall
                  generalize giveF tm N f s2' j = R
                  intro hL hcall
                  obtain ⟨rb, s3'⟩ := R
                  refine hcall.fin ?_
                  rintro H3 hS3
                  have hL3 : LenOk n N s3' := hL.ok
                  obtain hb | hb : rb = true ∨ rb = false := by cases rb <;> simp
                  · subst hb
                    obtain ⟨w1, w2, w3, w4, w5⟩ := id hS3
                    have lg3 := hL3.gl
                    try simp (disch := first | omega | (simp only [L3] <;> omega)) only [Sall,evalOp,init,binA_s,binE,binI,unE,convE,okNil,builtE,gv,TD.isAgg,resV,↓reduceIte,Nat.reduceEqDiff,reduceCtorEq,Nat.reduceAdd,Nat.reduceMul,Nat.reduceLeDiff,za0,za1,Int.reduceEq,Int.reduceLT,Int.reduceLE,Nat.reduceLT,tiA, h13, h12, h11, h0, h1, h2, h3, h4, w1, zaH, lg3]
                    (repeat refine And.intro (by omega) ?_)
                    refine ⟨?_, ?_, ?_, w4, fun j j1 j2 j3 => ?_⟩
                    · rw [AH.setCells_row, if_pos rfl, w1]; rfl
                    · rw [AH.setCells_row, if_neg nrg]; exact w2
                    · rw [AH.setCells_row, if_neg nmg]; exact w3
                    · rw [AH.setCells_row, if_neg j1]; exact w5 j j1 j2 j3
                  · subst hb
                    try simp (disch := first | omega | (simp only [L3] <;> omega)) only [Sall,evalOp,init,binA_s,binE,binI,unE,convE,okNil,builtE,gv,TD.isAgg,resV,↓reduceIte,Nat.reduceEqDiff,reduceCtorEq,Nat.reduceAdd,Nat.reduceMul,Nat.reduceLeDiff,za0,za1,Int.reduceEq,Int.reduceLT,Int.reduceLE,Nat.reduceLT,tiA, h13, h12, h11, h0, h1, h2, h3, h4, w64]
                    have hun3 : unm s3'.mt < f := Nat.lt_of_le_of_lt (zdE s2'.mt s3'.mt (by rw [hlen2.ml, hL3.ml]) hL.mono) hun2
                    exact ⟨N - (j + 1), by omega, j + 1, s3', rfl, by omega, by omega, rfl, hL3, hun3, hS3⟩
                · have e1 : (s2'.gv.getD j 0 != (b : Int)) = true := bne_iff_ne.2 hgb
                  have hst : giveJ (giveF tm N f) b i (j :: List.range' (j + 1) (N - (j + 1))) s2' = giveJ (giveF tm N f) b i (List.range' (j + 1) (N - (j + 1))) s2' := by
                    conv => lhs; unfold giveJ
                    rw [if_pos hgb]
                  rw [hst]
                  try simp (disch := first | omega | (simp only [L3] <;> omega)) only [Sall,evalOp,init,binA_s,binE,binI,unE,convE,okNil,builtE,gv,TD.isAgg,resV,↓reduceIte,Nat.reduceEqDiff,reduceCtorEq,Nat.reduceAdd,Nat.reduceMul,Nat.reduceLeDiff,za0,za1,Int.reduceEq,Int.reduceLT,Int.reduceLE,Nat.reduceLT,tiA, h13, h12, h11, h0, h1, h2, h3, h4, u1, p1, e1, w64]
                  (repeat refine And.intro (by omega) ?_)
                  exact ⟨N - (j + 1), by omega, j + 1, s2', rfl, by omega, by omega, rfl, hlen2, hun2, hS2⟩
              · have hj2 : j = N := by omega
                subst hj2
                rw [Nat.sub_self]
                try simp (disch := first | omega | (simp only [L3] <;> omega)) only [Sall,evalOp,init,binA_s,binE,binI,unE,convE,okNil,builtE,gv,TD.isAgg,resV,↓reduceIte,Nat.reduceEqDiff,reduceCtorEq,Nat.reduceAdd,Nat.reduceMul,Nat.reduceLeDiff,za0,za1,Int.reduceEq,Int.reduceLT,Int.reduceLE,Nat.reduceLT,tiA, h13, h12, h11, h0, h1, h2, h3, h4, w64]
                exact ⟨2 - (k + 1), by omega, k + 1, s2', rfl, by omega, by omega, rfl, hlen2, by omega, hS2⟩
      · have hk2 : k = 2 := by omega
        subst hk2
        try simp (disch := first | omega | (simp only [L3] <;> omega)) only [Sall,evalOp,init,binA_s,binE,binI,unE,convE,okNil,builtE,gv,TD.isAgg,resV,↓reduceIte,Nat.reduceEqDiff,reduceCtorEq,Nat.reduceAdd,Nat.reduceMul,Nat.reduceLeDiff,za0,za1,Int.reduceEq,Int.reduceLT,Int.reduceLE,Nat.reduceLT,tiA, true_and]
        exact ⟨rfl, hS'⟩
end Go.Proofs.YtpienljnoaendaaGreat.A
end

section
namespace Go.Abs
structure HS where
  ow : List (List Int)
  rm : List Int
  mt : List Bool
def hiveJ (rec : HS → Nat → Bool × HS) (b i : Nat) : List Nat → HS → Bool × HS
  | [], s => (false, s)
  | g :: gs, s =>
    if (b : Int) ∈ s.ow.getD g [] ∧ g ≠ i then
      if (rec s g).1 = true then (true, { (rec s g).2 with ow := ((rec s g).2.ow.set g (((rec s g).2.ow.getD g []).erase (b : Int))).set i ((rec s g).2.ow.getD i [] ++ [(b : Int)]) })
      else hiveJ rec b i gs (rec s g).2
    else hiveJ rec b i gs s
def hiveK (rec : HS → Nat → Bool × HS) (tm : Nat → Nat → Nat) (G i : Nat) : List Nat → HS → Bool × HS
  | [], s => (false, s)
  | k :: ks, s =>
    if s.mt.getD (tm i k) false = true then hiveK rec tm G i ks s
    else if 0 < s.rm.getD (tm i k) 0 then (true, ⟨s.ow.set i (s.ow.getD i [] ++ [(tm i k : Int)]), s.rm.set (tm i k) (s.rm.getD (tm i k) 0 - 1), s.mt.set (tm i k) true⟩)
    else if (hiveJ rec (tm i k) i (List.range G) { s with mt := s.mt.set (tm i k) true }).1 = true then hiveJ rec (tm i k) i (List.range G) { s with mt := s.mt.set (tm i k) true }
    else hiveK rec tm G i ks (hiveJ rec (tm i k) i (List.range G) { s with mt := s.mt.set (tm i k) true }).2
def hiveF (tm : Nat → Nat → Nat) (G : Nat) : Nat → HS → Nat → Bool × HS
  | 0, s, _ => (false, s)
  | f + 1, s, i => hiveK (hiveF tm G f) tm G i [0, 1] s
theorem sumN_upd {f f' : Nat → Nat} {i : Nat} : ∀ N, i < N → (∀ j, j ≠ i → f' j = f j) → sumN N f' + f i = sumN N f + f' i
  | 0, h, _ => by omega
  | N + 1, h, hf => by
    rw [zbI, zbI]
    by_cases e : i = N
    · subst e
      rw [zbX i (f := f') (g := f) fun j hj => hf j (by omega)]; omega
    · have := sumN_upd N (by omega) hf
      rw [hf N (by omega)]; omega
def cntO (G : Nat) (ow : List (List Int)) (c : Nat) : Nat := sumN G fun g => (ow.getD g []).count (c : Int)
theorem zh8 {G : Nat} {ow : List (List Int)} {i : Nat} {l : List Int} (hG : ow.length = G) (hi : i < G) (c : Nat) : cntO G (ow.set i l) c + (ow.getD i []).count (c : Int) = cntO G ow c + l.count (c : Int) := by
  unfold cntO
  have := sumN_upd (f := fun g => (ow.getD g []).count (c : Int)) (f' := fun g => ((ow.set i l).getD g []).count (c : Int)) (i := i) G hi fun j hj => by
    rw [zb7 _ _ _ _ _ (Ne.symm hj)]
  rw [zbG _ _ _ _ (by omega)] at this
  exact this
structure HOk (n G : Nat) (s : HS) : Prop where
  ol : s.ow.length = G
  rl : s.rm.length = n
  ml : s.mt.length = n
  er : ∀ g x, x ∈ s.ow.getD g [] → ∃ c : Nat, c < n ∧ x = (c : Int)
  rr : ∀ c, c < n → 0 ≤ s.rm.getD c 0
structure HRes (tm : Nat → Nat → Nat) (n G i : Nat) (s : HS) (r : Bool × HS) : Prop where
  ok : HOk n G r.2
  mono : ∀ c, s.mt.getD c false = true → r.2.mt.getD c false = true
  dec : ∀ c, r.2.rm.getD c 0 ≤ s.rm.getD c 0
  frame : ∀ g c, s.mt.getD c false = true → (r.2.ow.getD g []).count (c : Int) = (s.ow.getD g []).count (c : Int)
  no : r.1 = false → r.2.ow = s.ow ∧ r.2.rm = s.rm ∧ both tm r.2.mt i ∧ ∀ c, c < n → r.2.mt.getD c false = true → s.mt.getD c false = false → s.rm.getD c 0 = 0 ∧ ∀ g, (c : Int) ∈ s.ow.getD g [] → both tm r.2.mt g
  yes : r.1 = true → (∀ g, (r.2.ow.getD g []).length = (s.ow.getD g []).length + if g = i then 1 else 0) ∧ (∀ g x, x ∈ r.2.ow.getD g [] → x ∈ s.ow.getD g [] ∨ ∃ k, k < 2 ∧ x = (tm g k : Int)) ∧
    ∀ c, c < n → (cntO G r.2.ow c : Int) + r.2.rm.getD c 0 = (cntO G s.ow c : Int) + s.rm.getD c 0
structure HJRes (tm : Nat → Nat → Nat) (n G i b : Nat) (gs : List Nat) (s : HS) (r : Bool × HS) : Prop where
  ok : HOk n G r.2
  mono : ∀ c, s.mt.getD c false = true → r.2.mt.getD c false = true
  dec : ∀ c, r.2.rm.getD c 0 ≤ s.rm.getD c 0
  frame : ∀ g c, c ≠ b → s.mt.getD c false = true → (r.2.ow.getD g []).count (c : Int) = (s.ow.getD g []).count (c : Int)
  no : r.1 = false → r.2.ow = s.ow ∧ r.2.rm = s.rm ∧ (∀ g ∈ gs, g ≠ i → (b : Int) ∈ s.ow.getD g [] → both tm r.2.mt g) ∧ ∀ c, c < n → r.2.mt.getD c false = true → s.mt.getD c false = false → s.rm.getD c 0 = 0 ∧ ∀ g, (c : Int) ∈ s.ow.getD g [] → both tm r.2.mt g
  yes : r.1 = true → (∀ g, (r.2.ow.getD g []).length = (s.ow.getD g []).length + if g = i then 1 else 0) ∧ (∀ g x, x ∈ r.2.ow.getD g [] → x ∈ s.ow.getD g [] ∨ (∃ k, k < 2 ∧ x = (tm g k : Int)) ∨ (g = i ∧ x = (b : Int))) ∧
    ∀ c, c < n → (cntO G r.2.ow c : Int) + r.2.rm.getD c 0 = (cntO G s.ow c : Int) + s.rm.getD c 0
theorem zcU {ow : List (List Int)} {g : Nat} (h : ow.length ≤ g) : ow.getD g [] = [] := by rw [List.getD_eq_getElem?_getD, List.getElem?_eq_none h]; rfl
theorem zgG {tm : Nat → Nat → Nat} {n G f i b : Nat} {rec : HS → Nat → Bool × HS} (hb : b < n) (hi : i < G)
    (hrec : ∀ s j, HOk n G s → j < G → unm s.mt < f → HRes tm n G j s (rec s j)) :
    ∀ (gs : List Nat) (s : HS), (∀ g ∈ gs, g < G) → HOk n G s → unm s.mt < f → s.mt.getD b false = true → HJRes tm n G i b gs s (hiveJ rec b i gs s)
  | [], s, _, hok, _, _ => ⟨hok, fun _ h => h, fun _ => Int.le_refl _, fun _ _ _ _ => rfl, fun _ => ⟨rfl, rfl, fun j hj => by simp at hj, fun c _ h1 h2 => by have h3 : s.mt.getD c false = true := h1; rw [h3] at h2; cases h2⟩, fun h => by cases h⟩
  | g :: gs, s, hgs, hok, hun, hmb => by
    have hg := hgs g List.mem_cons_self
    have hgs' : ∀ j ∈ gs, j < G := fun z hz => hgs z (List.mem_cons_of_mem _ hz)
    unfold hiveJ
    by_cases hgb : (b : Int) ∈ s.ow.getD g [] ∧ g ≠ i
    · rw [if_pos hgb]
      obtain ⟨hbm, hgi⟩ := hgb
      have hR := hrec s g hok hg hun
      by_cases hr : (rec s g).1 = true
      · rw [if_pos hr]
        obtain ⟨y1, y2, y3⟩ := hR.yes hr
        generalize rec s g = R at hR y1 y2 y3 hr
        have hbm' : (b : Int) ∈ R.2.ow.getD g [] := by
          rw [← List.count_pos_iff, hR.frame g b hmb, List.count_pos_iff]; exact hbm
        have hol := hR.ok.ol
        have hl1 : (R.2.ow.set g ((R.2.ow.getD g []).erase (b : Int))).length = G := by simp [hol]
        have gi : ((R.2.ow.set g ((R.2.ow.getD g []).erase (b : Int))).set i (R.2.ow.getD i [] ++ [(b : Int)])).getD i [] = R.2.ow.getD i [] ++ [(b : Int)] := zbG _ _ _ _ (by omega)
        have gg : ((R.2.ow.set g ((R.2.ow.getD g []).erase (b : Int))).set i (R.2.ow.getD i [] ++ [(b : Int)])).getD g [] = (R.2.ow.getD g []).erase (b : Int) := by
          rw [zb7 _ _ _ _ _ (Ne.symm hgi), zbG _ _ _ _ (by omega)]
        have gz : ∀ z, z ≠ i → z ≠ g → ((R.2.ow.set g ((R.2.ow.getD g []).erase (b : Int))).set i (R.2.ow.getD i [] ++ [(b : Int)])).getD z [] = R.2.ow.getD z [] := fun z h1 h2 => by
          rw [zb7 _ _ _ _ _ (Ne.symm h1), zb7 _ _ _ _ _ (Ne.symm h2)]
        have hwas : ∀ z x, x ∈ ((R.2.ow.set g ((R.2.ow.getD g []).erase (b : Int))).set i (R.2.ow.getD i [] ++ [(b : Int)])).getD z [] → x ∈ R.2.ow.getD z [] ∨ (z = i ∧ x = (b : Int)) := fun z x hx => by
          by_cases e1 : z = i
          · subst e1
            rw [gi, List.mem_append, List.mem_singleton] at hx
            exact hx.imp id fun h => ⟨rfl, h⟩
          · by_cases e2 : z = g
            · subst e2
              rw [gg] at hx
              exact .inl (List.mem_of_mem_erase hx)
            · rw [gz z e1 e2] at hx; exact .inl hx
        refine ⟨⟨by simp [hol], hR.ok.rl, hR.ok.ml, fun z x hx => ?_, hR.ok.rr⟩, hR.mono, hR.dec, fun z c hcb hc => ?_, fun h => (by cases h), fun _ => ⟨fun z => ?_, fun z x hx => ?_, fun c hc => ?_⟩⟩
        · rcases hwas z x hx with h | ⟨_, h⟩
          · exact hR.ok.er z x h
          · exact ⟨b, hb, h⟩
        · rw [← hR.frame z c hc]
          show (List.getD _ z []).count _ = _
          have hne : (b : Int) ≠ (c : Int) := by omega
          by_cases e1 : z = i
          · subst e1
            rw [gi, List.count_append]
            simp [hne]
          · by_cases e2 : z = g
            · subst e2
              rw [gg, List.count_erase_of_ne (by omega)]
            · rw [gz z e1 e2]
        · rw [← Nat.add_zero (List.length (s.ow.getD z []))]
          have h1 := y1 z
          show (List.getD _ z []).length = _
          by_cases e1 : z = i
          · subst e1
            rw [if_neg (Ne.symm hgi)] at h1
            rw [gi, if_pos rfl, List.length_append, h1]; simp
          · rw [if_neg e1]
            by_cases e2 : z = g
            · subst e2
              rw [gg, List.length_erase_of_mem hbm', h1, if_pos rfl]; simp
            · rw [gz z e1 e2, h1, if_neg e2]
        · rcases hwas z x hx with h | h
          · exact (y2 z x h).imp id .inl
          · exact .inr (.inr h)
        · have h1 := y3 c hc
          have h2 := zh8 (l := (R.2.ow.getD g []).erase (b : Int)) hol hg c
          have h3 := zh8 (l := R.2.ow.getD i [] ++ [(b : Int)]) hl1 hi c
          rw [zb7 _ _ _ _ _ hgi, List.count_append] at h3
          show (cntO G (List.set _ i _) c : Int) + R.2.rm.getD c 0 = (cntO G s.ow c : Int) + s.rm.getD c 0
          by_cases e : b = c
          · subst e
            rw [List.count_erase_self] at h2
            have := List.count_pos_iff.2 hbm'
            simp only [List.count_singleton_self] at h3
            omega
          · rw [List.count_erase_of_ne (by omega)] at h2
            have hne : (b : Int) ≠ (c : Int) := by omega
            have h4 : [(b : Int)].count (c : Int) = 0 := by simp [hne]
            rw [h4] at h3
            omega
      · rw [if_neg hr]
        have hrf : (rec s g).1 = false := by simpa using hr
        obtain ⟨n1, n2, n3, n4⟩ := hR.no hrf
        have hun2 : unm (rec s g).2.mt < f := Nat.lt_of_le_of_lt (zdE _ _ (by rw [hok.ml, hR.ok.ml]) hR.mono) hun
        have ih := zgG hb hi hrec gs (rec s g).2 hgs' hR.ok hun2 (hR.mono b hmb)
        generalize rec s g = R at hR n1 n2 n3 n4 hr hun2 ih hrf
        refine ⟨ih.ok, fun c h => ih.mono c (hR.mono c h), fun c => Int.le_trans (ih.dec c) (hR.dec c), fun z c hcb hc => ?_, fun h => ?_, fun h => ?_⟩
        · rw [ih.frame z c hcb (hR.mono c hc), n1]
        · obtain ⟨m1, m2, m3, m4⟩ := ih.no h
          refine ⟨by rw [m1, n1], by rw [m2, n2], fun z hz hzi hzb => ?_, fun c hc h1 h2 => ?_⟩
          · rcases List.mem_cons.1 hz with e | e
            · subst e; exact zcF n3 ih.mono
            · exact m3 z e hzi (by rw [n1]; exact hzb)
          · by_cases hm : R.2.mt.getD c false = true
            · obtain ⟨a1, a2⟩ := n4 c hc hm h2
              exact ⟨a1, fun z hz => zcF (a2 z hz) ih.mono⟩
            · obtain ⟨a1, a2⟩ := m4 c hc h1 (by simpa using hm)
              exact ⟨by rw [n2] at a1; exact a1, fun z hz => a2 z (by rw [n1]; exact hz)⟩
        · obtain ⟨m1, m2, m3⟩ := ih.yes h
          rw [n1, n2] at m3
          rw [n1] at m1 m2
          exact ⟨m1, m2, m3⟩
    · rw [if_neg hgb]
      have ih := zgG hb hi hrec gs s hgs' hok hun hmb
      refine ⟨ih.ok, ih.mono, ih.dec, ih.frame, fun h => ?_, ih.yes⟩
      obtain ⟨m1, m2, m3, m4⟩ := ih.no h
      refine ⟨m1, m2, fun z hz hzi hzb => ?_, m4⟩
      rcases List.mem_cons.1 hz with e | e
      · subst e; exact absurd ⟨hzb, hzi⟩ hgb
      · exact m3 z e hzi hzb
theorem zg6 {tm : Nat → Nat → Nat} {n G f i : Nat} {rec : HS → Nat → Bool × HS} (htm : ∀ j k, tm j k < n) (hi : i < G)
    (hrec : ∀ s j, HOk n G s → j < G → unm s.mt < f → HRes tm n G j s (rec s j)) :
    ∀ (ks : List Nat) (s : HS), (∀ k ∈ ks, k < 2) → HOk n G s → unm s.mt < f + 1 → (∀ k, k < 2 → k ∉ ks → s.mt.getD (tm i k) false = true) → HRes tm n G i s (hiveK rec tm G i ks s)
  | [], s, _, hok, _, hks => ⟨hok, fun _ h => h, fun _ => Int.le_refl _, fun _ _ _ => rfl, fun _ => ⟨rfl, rfl, both_of fun k hk => hks k hk (by simp), fun c _ h1 h2 => by have h3 : s.mt.getD c false = true := h1; rw [h3] at h2; cases h2⟩, fun h => by cases h⟩
  | k :: ks, s, hk2, hok, hun, hks => by
    have hk := hk2 k List.mem_cons_self
    have hk2' : ∀ z ∈ ks, z < 2 := fun z hz => hk2 z (List.mem_cons_of_mem _ hz)
    have hb := htm i k
    unfold hiveK
    by_cases hm : s.mt.getD (tm i k) false = true
    · rw [if_pos hm]
      refine zg6 htm hi hrec ks s hk2' hok hun fun z hz hzk => ?_
      by_cases e : z = k
      · subst e; exact hm
      · exact hks z hz (by simp [e, hzk])
    · rw [if_neg hm]
      have hmf : s.mt.getD (tm i k) false = false := by simpa using hm
      have hml : tm i k < s.mt.length := by rw [hok.ml]; exact hb
      have hol := hok.ol
      have hrl : tm i k < s.rm.length := by rw [hok.rl]; exact hb
      have hmono : ∀ c, s.mt.getD c false = true → (s.mt.set (tm i k) true).getD c false = true := fun c h => by
        by_cases e : tm i k = c
        · subst e; rw [hmf] at h; cases h
        · rw [zb7 _ _ _ _ _ e]; exact h
      by_cases hr : 0 < s.rm.getD (tm i k) 0
      · rw [if_pos hr]
        have gi : (s.ow.set i (s.ow.getD i [] ++ [((tm i k : Nat) : Int)])).getD i [] = s.ow.getD i [] ++ [((tm i k : Nat) : Int)] := zbG _ _ _ _ (by omega)
        have gz : ∀ z, z ≠ i → (s.ow.set i (s.ow.getD i [] ++ [((tm i k : Nat) : Int)])).getD z [] = s.ow.getD z [] := fun z h => zb7 _ _ _ _ _ (Ne.symm h)
        refine ⟨⟨by simp [hol], by simp [hok.rl], by simp [hok.ml], fun z x hx => ?_, fun c hc => ?_⟩, hmono, fun c => ?_, fun z c hc => ?_, fun h => (by cases h), fun _ => ⟨fun z => ?_, fun z x hx => ?_, fun c hc => ?_⟩⟩
        · have hx : x ∈ (s.ow.set i (s.ow.getD i [] ++ [((tm i k : Nat) : Int)])).getD z [] := hx
          by_cases e : z = i
          · subst e
            rw [gi, List.mem_append, List.mem_singleton] at hx
            rcases hx with h | h
            · exact hok.er z x h
            · exact ⟨_, hb, h⟩
          · rw [gz z e] at hx; exact hok.er z x hx
        · show 0 ≤ (s.rm.set _ _).getD c 0
          by_cases e : tm i k = c
          · subst e; rw [zbG _ _ _ _ hrl]; omega
          · rw [zb7 _ _ _ _ _ e]; exact hok.rr c hc
        · show (s.rm.set _ _).getD c 0 ≤ _
          by_cases e : tm i k = c
          · subst e; rw [zbG _ _ _ _ hrl]; omega
          · rw [zb7 _ _ _ _ _ e]; exact Int.le_refl _
        · show (List.getD _ z []).count _ = _
          have hcb : c ≠ tm i k := fun e => by subst e; rw [hmf] at hc; cases hc
          by_cases e : z = i
          · subst e
            have hne : ((tm z k : Nat) : Int) ≠ (c : Int) := by omega
            rw [gi, List.count_append]
            simp [hne]
          · rw [gz z e]
        · show (List.getD _ z []).length = _
          by_cases e : z = i
          · subst e; rw [gi, if_pos rfl]; simp
          · rw [gz z e, if_neg e]; rfl
        · have hx : x ∈ (s.ow.set i (s.ow.getD i [] ++ [((tm i k : Nat) : Int)])).getD z [] := hx
          by_cases e : z = i
          · subst e
            rw [gi, List.mem_append, List.mem_singleton] at hx
            exact hx.imp id fun h => ⟨k, hk, h⟩
          · rw [gz z e] at hx; exact .inl hx
        · have h3 := zh8 (l := s.ow.getD i [] ++ [((tm i k : Nat) : Int)]) hol hi c
          rw [List.count_append] at h3
          show (cntO G (List.set _ i _) c : Int) + (s.rm.set _ _).getD c 0 = _
          by_cases e : tm i k = c
          · subst e
            rw [zbG _ _ _ _ hrl]
            simp only [List.count_singleton_self] at h3
            omega
          · rw [zb7 _ _ _ _ _ e]
            have hne : ((tm i k : Nat) : Int) ≠ (c : Int) := by omega
            have h4 : [((tm i k : Nat) : Int)].count (c : Int) = 0 := by simp [hne]
            rw [h4] at h3
            omega
      · rw [if_neg hr]
        obtain ⟨s1, e1⟩ : ∃ s1 : HS, s1 = { s with mt := s.mt.set (tm i k) true } := ⟨_, rfl⟩
        rw [← e1]
        have g1 : s1.ow = s.ow := by rw [e1]
        have r1 : s1.rm = s.rm := by rw [e1]
        have m1 : s1.mt = s.mt.set (tm i k) true := by rw [e1]
        have hok1 : HOk n G s1 := ⟨by rw [g1]; exact hok.ol, by rw [r1]; exact hok.rl, by rw [m1]; simp [hok.ml], by rw [g1]; exact hok.er, by rw [r1]; exact hok.rr⟩
        have hun1 : unm s1.mt < f := by
          have := unm_set hml hmf
          rw [m1]; omega
        have hmb : s1.mt.getD (tm i k) false = true := by rw [m1]; exact zbG _ _ _ _ hml
        have hJ := zgG hb hi hrec (List.range G) s1 (fun z hz => List.mem_range.1 hz) hok1 hun1 hmb
        have hmono1 : ∀ c, s.mt.getD c false = true → s1.mt.getD c false = true := fun c h => by rw [m1]; exact hmono c h
        have hnew : ∀ c, s1.mt.getD c false = true → s.mt.getD c false = false → c = tm i k := fun c h1 h2 => by
          by_cases e : tm i k = c
          · exact e.symm
          · rw [m1, zb7 _ _ _ _ _ e, h2] at h1; cases h1
        have hnb : ∀ c, s.mt.getD c false = true → c ≠ tm i k := fun c h e => by subst e; rw [hmf] at h; cases h
        by_cases hJr : (hiveJ rec (tm i k) i (List.range G) s1).1 = true
        · rw [if_pos hJr]
          obtain ⟨y1, y2, y3⟩ := hJ.yes hJr
          rw [g1, r1] at y3
          rw [g1] at y1 y2
          refine ⟨hJ.ok, fun c h => hJ.mono c (hmono1 c h), fun c => by rw [← r1]; exact hJ.dec c, fun z c hc => by rw [hJ.frame z c (hnb c hc) (hmono1 c hc), g1], fun h => (by rw [hJr] at h; cases h), fun _ => ⟨y1, fun z x hx => ?_, y3⟩⟩
          rcases y2 z x hx with h | h | ⟨h1, h2⟩
          · exact .inl h
          · exact .inr h
          · subst h1; exact .inr ⟨k, hk, h2⟩
        · rw [if_neg hJr]
          obtain ⟨n1, n2, n3, n4⟩ := hJ.no (by simpa using hJr)
          rw [g1] at n1
          rw [r1] at n2
          generalize hiveJ rec (tm i k) i (List.range G) s1 = R at hJ n1 n2 n3 n4 hJr
          have hun2 : unm R.2.mt < f + 1 := by
            have := zdE s1.mt R.2.mt (by rw [hok1.ml, hJ.ok.ml]) hJ.mono
            omega
          have ih := zg6 htm hi hrec ks R.2 hk2' hJ.ok hun2 fun z hz hzk => by
            by_cases e : z = k
            · subst e; exact hJ.mono _ hmb
            · exact hJ.mono _ (hmono1 _ (hks z hz (by simp [e, hzk])))
          refine ⟨ih.ok, fun c h => ih.mono c (hJ.mono c (hmono1 c h)), fun c => by rw [← r1]; exact Int.le_trans (ih.dec c) (hJ.dec c), fun z c hc => ?_, fun h => ?_, fun h => ?_⟩
          · rw [ih.frame z c (hJ.mono c (hmono1 c hc)), n1]
          · obtain ⟨p1, p2, p3, p4⟩ := ih.no h
            refine ⟨by rw [p1, n1], by rw [p2, n2], p3, fun c hc h1 h2 => ?_⟩
            by_cases hm2 : R.2.mt.getD c false = true
            · by_cases hm3 : s1.mt.getD c false = true
              · have e := hnew c hm3 h2
                subst e
                refine ⟨by have := hok.rr _ hc; omega, fun z hz => ?_⟩
                by_cases e2 : z = i
                · subst e2; exact p3
                · by_cases e3 : z < G
                  · exact zcF (n3 z (List.mem_range.2 e3) e2 (by rw [g1]; exact hz)) ih.mono
                  · rw [zcU (by omega)] at hz; simp at hz
              · obtain ⟨a1, a2⟩ := n4 c hc hm2 (by simpa using hm3)
                exact ⟨by rw [r1] at a1; exact a1, fun z hz => zcF (a2 z (by rw [g1]; exact hz)) ih.mono⟩
            · obtain ⟨a1, a2⟩ := p4 c hc h1 (by simpa using hm2)
              exact ⟨by rw [n2] at a1; exact a1, fun z hz => a2 z (by rw [n1]; exact hz)⟩
          · obtain ⟨p1, p2, p3⟩ := ih.yes h
            rw [n1, n2] at p3
            rw [n1] at p1 p2
            exact ⟨p1, p2, p3⟩
theorem zeG {tm : Nat → Nat → Nat} {n G : Nat} (htm : ∀ j k, tm j k < n) : ∀ (f : Nat) (s : HS) (i : Nat), HOk n G s → i < G → unm s.mt < f → HRes tm n G i s (hiveF tm G f s i)
  | 0, s, i, _, _, h => by omega
  | f + 1, s, i, hok, hi, hun => zg6 htm hi (fun s j h1 h2 h3 => zeG htm f s j h1 h2 h3) [0, 1] s (by simp) hok hun fun k hk hks => by
      exfalso
      have : k = 0 ∨ k = 1 := by omega
      rcases this with rfl | rfl <;> simp at hks
def allH (tm : Nat → Nat → Nat) (n G : Nat) : List Nat → List (List Int) → List Int → Bool
  | [], _, _ => true
  | i :: is, ow, rm =>
    if (hiveF tm G (n + 1) ⟨ow, rm, List.replicate n false⟩ (i / 2)).1 = true then
      allH tm n G is (hiveF tm G (n + 1) ⟨ow, rm, List.replicate n false⟩ (i / 2)).2.ow (hiveF tm G (n + 1) ⟨ow, rm, List.replicate n false⟩ (i / 2)).2.rm
    else false
structure HInv (tm : Nat → Nat → Nat) (n G : Nat) (room0 : Nat → Nat) (a : Nat) (ow : List (List Int)) (rm : List Int) : Prop where
  ok : ∀ mt : List Bool, mt.length = n → HOk n G ⟨ow, rm, mt⟩
  own : ∀ g x, x ∈ ow.getD g [] → ∃ k, k < 2 ∧ x = (tm g k : Int)
  bal : ∀ c, c < n → (cntO G ow c : Int) + rm.getD c 0 = room0 c
  len : ∀ g, g < G → (ow.getD g []).length = a - 2 * g - (a - 2 * g - 2)
def ptsO (G : Nat) (ow : List (List Int)) : List (Nat × Nat) := (List.range G).flatMap fun g => (ow.getD g []).map fun x => (g, x.toNat)
theorem ptsO_succ (G : Nat) (ow : List (List Int)) : ptsO (G + 1) ow = ptsO G ow ++ (ow.getD G []).map fun x => (G, x.toNat) := by
  unfold ptsO; rw [List.range_succ, List.flatMap_append]; simp
theorem zfI {α : Type} (k : α → Nat) (P Q : List α) (i : Nat) : keyC k (P ++ Q) i = keyC k P i + keyC k Q i := by
  unfold keyC; rw [List.filter_append, List.length_append]
theorem zhS {ow : List (List Int)} (he : ∀ g x, x ∈ ow.getD g [] → 0 ≤ x) (b : Nat) : ∀ G, keyC Prod.snd (ptsO G ow) b = cntO G ow b
  | 0 => rfl
  | G + 1 => by
    rw [ptsO_succ, zfI, zhS he b G]
    unfold cntO
    rw [zbI]
    congr 1
    have := he G
    revert this
    generalize ow.getD G [] = l
    intro hl
    induction l with
    | nil => rfl
    | cons x l ih =>
      have hx := hl x List.mem_cons_self
      rw [List.map_cons, zc0, ih fun z hz => hl z (List.mem_cons_of_mem _ hz), List.count_cons]
      dsimp only
      by_cases e : x = (b : Int)
      · rw [if_pos (show b = x.toNat by omega), if_pos (by rw [e]; exact beq_self_eq_true _)]
      · rw [if_neg (show ¬ b = x.toNat by omega), if_neg (by simp [e])]
theorem zeC (ow : List (List Int)) (g : Nat) : ∀ G, keyC Prod.fst (ptsO G ow) g = if g < G then (ow.getD g []).length else 0
  | 0 => rfl
  | G + 1 => by
    rw [ptsO_succ, zfI, zeC ow g G]
    have h : ∀ l : List Int, keyC Prod.fst (l.map fun x => (G, x.toNat)) g = if g = G then l.length else 0 := fun l => by
      induction l with
      | nil => simp [keyC]
      | cons x l ih =>
        rw [List.map_cons, zc0, ih]
        dsimp only
        split <;> simp
    rw [h]
    by_cases e : g = G
    · subst e; rw [if_neg (by omega), if_pos rfl, if_pos (by omega)]; omega
    · rw [if_neg e]
      by_cases e2 : g < G
      · rw [if_pos e2, if_pos (by omega)]; rfl
      · rw [if_neg e2, if_neg (by omega)]
theorem ptsO_mem {ow : List (List Int)} {G : Nat} {p : Nat × Nat} (h : p ∈ ptsO G ow) : p.1 < G ∧ ∃ x, x ∈ ow.getD p.1 [] ∧ p.2 = x.toNat := by
  unfold ptsO at h
  rw [List.mem_flatMap] at h
  obtain ⟨g, hg, h⟩ := h
  rw [List.mem_map] at h
  obtain ⟨x, hx, rfl⟩ := h
  exact ⟨List.mem_range.1 hg, x, hx, rfl⟩
def prH (tm : Nat → Nat → Nat) (g : Nat) : Nat × Nat := (tm g 0, tm g 1)
theorem hinv_con {tm : Nat → Nat → Nat} {n G : Nat} {room0 : Nat → Nat} {a : Nat} {ow : List (List Int)} {rm : List Int} (htm : ∀ j k, tm j k < n) (h : HInv tm n G room0 a ow rm) :
    Con n G (prH tm) room0 (fun c => (rm.getD c 0).toNat) (ptsO G ow) := by
  have hok := h.ok (List.replicate n false) (by simp)
  refine ⟨fun b hb => ?_, fun p hp => ?_, fun g hg => ?_⟩
  · rw [zhS (fun g x hx => by obtain ⟨k, _, rfl⟩ := h.own g x hx; omega)]
    have h1 := h.bal b hb
    have h2 : 0 ≤ rm.getD b 0 := hok.rr b hb
    omega
  · obtain ⟨h1, x, hx, h2⟩ := ptsO_mem hp
    obtain ⟨k, hk, rfl⟩ := h.own _ x hx
    rw [Int.toNat_natCast] at h2
    refine ⟨h1, by rw [h2]; exact htm _ _, ?_⟩
    rw [h2]
    have : k = 0 ∨ k = 1 := by omega
    rcases this with rfl | rfl
    · exact .inl rfl
    · exact .inr rfl
  · rw [zeC, if_pos hg, h.len g hg]; omega
theorem allH_res {tm : Nat → Nat → Nat} {n G : Nat} {room0 : Nat → Nat} (htm : ∀ j k, tm j k < n) : ∀ (d a : Nat) (ow : List (List Int)) (rm : List Int), a + d = 2 * G → HInv tm n G room0 a ow rm →
    (allH tm n G (List.range' a d) ow rm = true → Feas n G (prH tm) room0) ∧ (allH tm n G (List.range' a d) ow rm = false → NoFeas n G (prH tm) room0)
  | 0, a, ow, rm, had, h => by
    refine ⟨fun _ => ⟨_, _, hinv_con htm h, fun g hg => ?_⟩, fun h => by simp [allH] at h⟩
    rw [zeC, if_pos hg, h.len g hg]; omega
  | d + 1, a, ow, rm, had, h => by
    have hok := h.ok (List.replicate n false) (by simp)
    have haG : a / 2 < G := by omega
    have hunm : unm (List.replicate n false) < n + 1 := by
      unfold unm; rw [List.count_replicate]; simp
    have hR := zeG htm (n + 1) ⟨ow, rm, List.replicate n false⟩ (a / 2) hok haG hunm
    have hno : ∀ c, (List.replicate n false).getD c false = false := fun c => by
      rw [List.getD_eq_getElem?_getD, List.getElem?_replicate]; split <;> rfl
    rw [List.range'_succ]
    unfold allH
    generalize hiveF tm G (n + 1) ⟨ow, rm, List.replicate n false⟩ (a / 2) = R at hR
    by_cases hr : R.1 = true
    · rw [if_pos hr]
      obtain ⟨y1, y2, y3⟩ := hR.yes hr
      refine allH_res htm d (a + 1) R.2.ow R.2.rm (by omega) ⟨fun mt hmt => ⟨hR.ok.ol, hR.ok.rl, hmt, hR.ok.er, hR.ok.rr⟩, fun g x hx => ?_, fun c hc => ?_, fun g hg => ?_⟩
      · rcases y2 g x hx with h1 | h1
        · exact h.own g x h1
        · exact h1
      · have h1 := y3 c hc
        have h2 := h.bal c hc
        have h1' : (cntO G R.2.ow c : Int) + R.2.rm.getD c 0 = (cntO G ow c : Int) + rm.getD c 0 := h1
        omega
      · have h1 : (R.2.ow.getD g []).length = (ow.getD g []).length + if g = a / 2 then 1 else 0 := y1 g
        rw [h1, h.len g hg]
        split <;> omega
    · rw [if_neg hr]
      refine ⟨fun h => by simp at h, fun _ => ?_⟩
      obtain ⟨n1, n2, n3, n4⟩ := hR.no (by simpa using hr)
      have hcon := hinv_con htm h
      have hb : ∀ j, both tm R.2.mt j → insB (prH tm) (fun c => R.2.mt.getD c false) j = true := fun j hj => by
        unfold insB prH
        dsimp only
        rw [hj.1, hj.2]
        rfl
      refine ⟨fun c => R.2.mt.getD c false, zh0 hcon (fun b hbn hm => ?_) (fun p hp hm => ?_) (g := a / 2) haG (hb _ n3) ?_⟩
      · have h1 : rm.getD b 0 = 0 := (n4 b hbn hm (hno b)).1
        rw [h1]; rfl
      · obtain ⟨h1, x, hx, h2⟩ := ptsO_mem hp
        obtain ⟨c, hc, rfl⟩ := hok.er _ x hx
        rw [Int.toNat_natCast] at h2
        rw [h2] at hm
        exact hb _ ((n4 c hc hm (hno c)).2 _ hx)
      · rw [zeC, if_pos haG, h.len _ haG]; omega
theorem all_same {tm : Nat → Nat → Nat} {n G : Nat} {rm : List Int} (htm : ∀ j k, tm j k < n) (hrl : rm.length = n) (hrr : ∀ c, c < n → 0 ≤ rm.getD c 0) :
    allH tm n G (List.range' 0 (2 * G)) (List.replicate G []) rm = allF (fun j k => tm (j / 2) k) n (2 * G) (List.range' 0 (2 * G)) (List.replicate (2 * G) (-1)) rm := by
  have hnil : ∀ g, (List.replicate G ([] : List Int)).getD g [] = [] := fun g => by
    rw [List.getD_eq_getElem?_getD, List.getElem?_replicate]; split <;> rfl
  have hm1 : ∀ j, j < 2 * G → (List.replicate (2 * G) (-1 : Int)).getD j 0 = -1 := fun j hj => by
    rw [List.getD_eq_getElem?_getD, List.getElem?_replicate, if_pos hj]; rfl
  have h0 : HInv tm n G (fun c => (rm.getD c 0).toNat) 0 (List.replicate G []) rm := by
    refine ⟨fun mt hmt => ⟨by simp, hrl, hmt, fun g x hx => ?_, hrr⟩, fun g x hx => ?_, fun c hc => ?_, fun g hg => ?_⟩
    · have hx : x ∈ (List.replicate G ([] : List Int)).getD g [] := hx
      rw [hnil] at hx; simp at hx
    · rw [hnil] at hx; simp at hx
    · have : cntO G (List.replicate G []) c = 0 := by
        unfold cntO
        rw [zbX G (g := fun _ => 0) fun g _ => by rw [hnil]; rfl, zd6]
      have := hrr c hc
      omega
    · rw [hnil]; simp
  have h1 : AInv (fun j k => tm (j / 2) k) n (2 * G) (fun c => (rm.getD c 0).toNat) 0 (List.replicate (2 * G) (-1)) rm := by
    refine ⟨fun mt hmt => ⟨by simp, hrl, hmt, fun j hj => .inl (hm1 j hj), hrr⟩, fun j hj => .inl (hm1 j hj), fun c hc => ?_, fun j hj => by omega, fun j _ hj => hm1 j hj⟩
    have : (List.replicate (2 * G) (-1 : Int)).count (c : Int) = 0 := by
      rw [List.count_replicate, if_neg (by simp)]
    have := hrr c hc
    omega
  have a1 := allH_res htm (2 * G) 0 _ rm (by omega) h0
  have a2 := allF_res (tm := fun j k => tm (j / 2) k) (n := n) (G := G) (fun j k => htm _ _) (fun g k => by
    show tm ((2 * g + 1) / 2) k = tm (2 * g / 2) k
    rw [show (2 * g + 1) / 2 = g by omega, show 2 * g / 2 = g by omega]) (2 * G) 0 _ rm (by omega) h1
  have e : prF (fun j k => tm (j / 2) k) = prH tm := by
    funext g
    show (tm (2 * g / 2) 0, tm (2 * g / 2) 1) = _
    rw [show 2 * g / 2 = g by omega]; rfl
  rw [e] at a2
  revert a1 a2
  generalize allH tm n G (List.range' 0 (2 * G)) (List.replicate G []) rm = x
  generalize allF (fun j k => tm (j / 2) k) n (2 * G) (List.range' 0 (2 * G)) (List.replicate (2 * G) (-1)) rm = y
  intro a1 a2
  cases x <;> cases y
  · rfl
  · exact (feas_not (a2.1 rfl) (a1.2 rfl)).elim
  · exact (feas_not (a1.1 rfl) (a2.2 rfl)).elim
  · rfl
end Go.Abs
end

section
namespace Go.Abs
def gstep (a : Int) (st : List Int × List (List Int)) (p : List Int) : List Int × List (List Int) :=
  if p.getD 0 0 = a ∨ p.getD 1 0 = a then (addAt st.1 a 2, st.2) else (st.1, st.2 ++ [p])
def gmB (n : Nat) (l : List Int) (a : Int) (st : List Int × List (List Int)) (i b : Nat) : List Int × List (List Int) := ((pairsL (rnd l i) n).take b).foldl (gstep a) st
def gmN (n : Nat) (l : List Int) (a : Int) (st : List Int × List (List Int)) (R : Nat) : Nat → List Int × List (List Int)
  | 0 => st
  | c + 1 => gmB n l a (gmN n l a st R c) (R + c) (pairsL (rnd l (R + c)) n).length
theorem gmB_zero (n : Nat) (l : List Int) (a : Int) (st : List Int × List (List Int)) (i : Nat) : gmB n l a st i 0 = st := rfl
theorem zhB (n : Nat) (l : List Int) (a : Int) (st : List Int × List (List Int)) (i b : Nat) (h : b < (pairsL (rnd l i) n).length) : gmB n l a st i (b + 1) = gstep a (gmB n l a st i b) ((pairsL (rnd l i) n).getD b []) := by
  unfold gmB
  rw [List.take_add_one, List.getElem?_eq_getElem h, List.foldl_append, List.getD_eq_getElem?_getD, List.getElem?_eq_getElem h]
  rfl
structure GmOk (n : Nat) (B : Nat) (st : List Int × List (List Int)) : Prop where
  len : st.1.length = n
  bnd : ∀ j, 0 ≤ st.1.getD j 0 ∧ st.1.getD j 0 ≤ B
  few : st.2.length ≤ B
  two : ∀ p ∈ st.2, ∃ x y : Nat, x < n ∧ y < n ∧ p = [(x : Int), (y : Int)]
theorem zg1 {l : List Int} {a z : Int} {B : Nat} (h : ∀ j, 0 ≤ l.getD j 0 ∧ l.getD j 0 ≤ B) (hz : 0 ≤ z ∧ z ≤ 2) (hB : B ≤ 1000000) : ∀ j, 0 ≤ (addAt l a z).getD j 0 ∧ (addAt l a z).getD j 0 ≤ (B + 2 : Nat) := by
  intro j
  unfold addAt
  by_cases e : a.toNat = j
  · subst e
    by_cases hl : a.toNat < l.length
    · rw [zbG _ _ _ _ hl]
      have h1 := h a.toNat
      have h2 : IntKind.i64.wrap (l.getD a.toNat 0 + z) = l.getD a.toNat 0 + z := w64 ⟨by omega, by omega⟩
      rw [h2]; omega
    · rw [List.getD_eq_getElem?_getD, List.getElem?_eq_none (by simp; omega)]
      show 0 ≤ (0 : Int) ∧ (0 : Int) ≤ _
      omega
  · rw [zb7 _ _ _ _ _ e]
    have := h j
    omega
theorem gstep_ok {n B : Nat} {st : List Int × List (List Int)} {a : Int} {p : List Int} (h : GmOk n B st) (hB : B ≤ 1000000) (hp : ∃ x y : Nat, x < n ∧ y < n ∧ p = [(x : Int), (y : Int)]) : GmOk n (B + 2) (gstep a st p) := by
  unfold gstep
  split
  · refine ⟨by rw [zcT]; exact h.len, zg1 h.bnd (by omega) hB, by have := h.few; dsimp only; omega, h.two⟩
  · refine ⟨h.len, fun j => by have := h.bnd j; dsimp only; omega, by have := h.few; simp; omega, fun q hq => ?_⟩
    rcases List.mem_append.1 hq with hq | hq
    · exact h.two q hq
    · rw [List.mem_singleton] at hq; rw [hq]; exact hp
theorem gmB_ok {n B : Nat} {l : List Int} {st : List Int × List (List Int)} {a : Int} {i : Nat} (h : GmOk n B st) (hr : roundB n (rnd l i) = true) : ∀ b, b ≤ (pairsL (rnd l i) n).length → B + 2 * b ≤ 1000000 → GmOk n (B + 2 * b) (gmB n l a st i b)
  | 0, _, _ => h
  | b + 1, hb, hB => by
    have ih := gmB_ok (a := a) h hr b (by omega) (by omega)
    rw [zhB _ _ _ _ _ _ (by omega)]
    obtain ⟨x, h1, h2, h3⟩ := zbD (rnd l i) n b (by omega)
    obtain ⟨_, h4, h5, _⟩ := zb3 hr (a := x) (by omega)
    have k1 : B + 2 * b ≤ 1000000 := by omega
    refine gstep_ok ih k1 ⟨x, ((rnd l i).getD x 0).toNat, h1, by omega, ?_⟩
    rw [h3, Int.toNat_of_nonneg h4]
theorem gmN_ok {n B : Nat} {l : List Int} {st : List Int × List (List Int)} {a : Int} {R : Nat} (hn : n ≤ 14) (h : GmOk n B st) : ∀ c, (∀ i, i < R + c → roundB n (rnd l i) = true) → B + 28 * c ≤ 1000000 → GmOk n (B + 28 * c) (gmN n l a st R c)
  | 0, _, _ => h
  | c + 1, hr, hB => by
    have k0 : B + 28 * c ≤ 1000000 := by omega
    have ih := gmN_ok (a := a) hn h c (fun i hi => hr i (Nat.lt_succ_of_lt hi)) k0
    have hle := zbE (rnd l (R + c)) n
    have k1 : B + 28 * c + 2 * (pairsL (rnd l (R + c)) n).length ≤ 1000000 := by omega
    have := gmB_ok (a := a) ih (hr (R + c) (Nat.lt_succ_self _)) _ (Nat.le_refl _) k1
    unfold gmN
    exact ⟨this.len, fun j => by have := this.bnd j; omega, by have := this.few; omega, this.two⟩
theorem sums_ok {n : Nat} : ∀ (es : List Ev) (l : List Int) (B : Nat), (∀ e ∈ es, 0 ≤ e.2.2.2 ∧ e.2.2.2 ≤ 2) → (∀ j, 0 ≤ l.getD j 0 ∧ l.getD j 0 ≤ B) → B + 2 * es.length ≤ 1000000 →
    ∀ j, 0 ≤ (es.foldl (fun l e => addAt l e.2.1 e.2.2.2) l).getD j 0 ∧ (es.foldl (fun l e => addAt l e.2.1 e.2.2.2) l).getD j 0 ≤ (B + 2 * es.length : Nat)
  | [], l, B, _, h, _ => h
  | e :: es, l, B, he, h, hB => by
    rw [List.foldl_cons]
    rw [List.length_cons] at hB
    have h1 := zg1 (a := e.2.1) h (he e List.mem_cons_self) (by omega)
    have ih := sums_ok (n := n) es _ (B + 2) (fun x hx => he x (List.mem_cons_of_mem _ hx)) h1 (by omega)
    intro j
    have := ih j
    rw [List.length_cons]
    omega
theorem zfQ (n i : Nat) (r x : List Int) : ∀ k, (zaL n i r x k).length = 2 * k
  | 0 => rfl
  | k + 1 => by rw [zbL, List.length_append, zfQ n i r x k]; show _ + 2 = _; omega
theorem zgI (n : Nat) (hn : n ≤ 14) (l : List Int) (ll : List (List Int)) : ∀ m, (meets n l ll m).length ≤ 28 * m
  | 0 => Nat.le_refl _
  | m + 1 => by
    rw [zbH, List.length_append, zfQ]
    have := zgI n hn l ll m
    have := zbE (rnd l m) n
    omega
theorem zg3 (n : Nat) (l : List Int) (ll : List (List Int)) (m : Nat) : ∀ e ∈ meets n l ll m, 0 ≤ e.2.2.2 ∧ e.2.2.2 ≤ 2 := by
  intro e he
  unfold meets zaL at he
  rw [List.mem_flatMap] at he
  obtain ⟨i, _, he⟩ := he
  rw [List.mem_flatMap] at he
  obtain ⟨j, _, he⟩ := he
  have h : ∀ v : Int, 0 ≤ wonI v ∧ wonI v ≤ 2 := fun v => by unfold wonI; split <;> (try split) <;> omega
  have := h ((ll.getD i []).getD j 0)
  unfold evPair at he
  simp only [List.mem_cons, List.not_mem_nil, or_false] at he
  rcases he with rfl | rfl
  · exact this
  · dsimp only; omega
def gmL (n k : Nat) (l : List Int) (ll : List (List Int)) (a : Int) : List Int × List (List Int) := gmN n l a (sumsF n (fun _ o => o) (meets n l ll ll.length), []) ll.length (k - ll.length)
theorem GmOk.mono {n B B' : Nat} {st : List Int × List (List Int)} (h : GmOk n B st) (hB : B ≤ B') : GmOk n B' st :=
  ⟨h.len, fun j => by have := h.bnd j; omega, Nat.le_trans h.few hB, h.two⟩
theorem gm0_ok {n : Nat} (hn : n ≤ 14) {l : List Int} {ll : List (List Int)} (hk : ll.length ≤ 40) : GmOk n 2240 (sumsF n (fun _ o => o) (meets n l ll ll.length), []) := by
  have h1 := zgI n hn l ll ll.length
  have hown := zg3 n l ll ll.length
  have hlen := zaS n (fun _ o => o) (meets n l ll ll.length)
  revert h1 hown hlen
  unfold sumsF
  generalize meets n l ll ll.length = es
  intro h1 hown hlen
  have h2 := sums_ok (n := n) es (List.replicate n 0) 0 hown (fun j => by
    rw [List.getD_eq_getElem?_getD, List.getElem?_replicate]; split <;> simp) (by omega)
  have h : GmOk n (0 + 2 * es.length) (es.foldl (fun l e => addAt l e.2.1 e.2.2.2) (List.replicate n 0), []) := ⟨hlen, h2, Nat.zero_le _, fun p hp => by simp at hp⟩
  exact h.mono (by omega)
theorem gmL_ok {n k : Nat} {l : List Int} {ll : List (List Int)} {a : Int} (hb : schedB n k l = true) (hk : ll.length ≤ k) : GmOk n 3360 (gmL n k l ll a) := by
  obtain ⟨h1, h2, h3⟩ := zaC hb
  have h := gmN_ok (l := l) (a := a) (R := ll.length) (by omega) (gm0_ok (n := n) (by omega) (l := l) (ll := ll) (by omega)) (k - ll.length) (fun i hi => h3 i (by omega)) (by omega)
  exact h.mono (by omega)
def tmG (gs : List (List Int)) (g k : Nat) : Nat := ((gs.getD g []).getD k 0).toNat
theorem tmG_lt {n B : Nat} {st : List Int × List (List Int)} (h : GmOk n B st) (hn : 0 < n) (g k : Nat) : tmG st.2 g k < n := by
  unfold tmG
  by_cases hg : g < st.2.length
  · have hm : st.2.getD g [] ∈ st.2 := by rw [List.getD_eq_getElem?_getD, List.getElem?_eq_getElem hg]; exact List.getElem_mem _
    obtain ⟨x, y, hx, hy, e⟩ := h.two _ hm
    rw [e]
    match k with
    | 0 => simpa using hx
    | 1 => simpa using hy
    | k + 2 => simpa using hn
  · rw [zcU (by omega)]
    show (([] : List Int).getD k 0).toNat < n
    simpa using hn
theorem tmG_pair {n B : Nat} {st : List Int × List (List Int)} (h : GmOk n B st) {g : Nat} (hg : g < st.2.length) : st.2.getD g [] = [(tmG st.2 g 0 : Int), (tmG st.2 g 1 : Int)] := by
  have hm : st.2.getD g [] ∈ st.2 := by rw [List.getD_eq_getElem?_getD, List.getElem?_eq_getElem hg]; exact List.getElem_mem _
  obtain ⟨x, y, hx, hy, e⟩ := h.two _ hm
  unfold tmG
  rw [e]
  simp
def roomL (n : Nat) (pts : List Int) (a : Int) : List Int := (List.range n).map fun b => pts.getD a.toNat 0 - pts.getD b 0
def overB (n : Nat) (pts : List Int) (a : Int) : Bool := (List.range n).any fun b => decide (pts.getD a.toNat 0 < pts.getD b 0)
def firstB (n k : Nat) (l : List Int) (ll : List (List Int)) (a : Int) : Bool :=
  if overB n (gmL n k l ll a).1 a = true then false
  else allF (fun j k' => tmG (gmL n k l ll a).2 (j / 2) k') n (2 * (gmL n k l ll a).2.length) (List.range' 0 (2 * (gmL n k l ll a).2.length)) (List.replicate (2 * (gmL n k l ll a).2.length) (-1)) (roomL n (gmL n k l ll a).1 a)
theorem zc8 (n : Nat) (pts : List Int) (a : Int) : (roomL n pts a).length = n := by simp [roomL]
theorem zdP {n : Nat} {pts : List Int} {a : Int} {b : Nat} (h : b < n) : (roomL n pts a).getD b 0 = pts.getD a.toNat 0 - pts.getD b 0 := by
  unfold roomL
  rw [List.getD_eq_getElem?_getD, List.getElem?_map, List.getElem?_range h]; rfl
theorem roomL_pos {n : Nat} {pts : List Int} {a : Int} (h : ¬ overB n pts a = true) : ∀ b, b < n → 0 ≤ (roomL n pts a).getD b 0 := fun b hb => by
  rw [zdP hb]
  have h1 : ¬ pts.getD a.toNat 0 < pts.getD b 0 := fun hh => h (List.any_eq_true.2 ⟨b, List.mem_range.2 hb, decide_eq_true hh⟩)
  omega
theorem firstB_other {n k : Nat} {l : List Int} {ll : List (List Int)} {a : Int} (hb : schedB n k l = true) (hk : ll.length ≤ k) :
    firstB n k l ll a = if overB n (gmL n k l ll a).1 a = true then false else allH (tmG (gmL n k l ll a).2) n (gmL n k l ll a).2.length (List.range' 0 (2 * (gmL n k l ll a).2.length)) (List.replicate (gmL n k l ll a).2.length []) (roomL n (gmL n k l ll a).1 a) := by
  have hg := gmL_ok (a := a) hb hk
  obtain ⟨h1, _, _⟩ := zaC hb
  unfold firstB
  split
  · rfl
  · rename_i ho
    exact (all_same (tmG_lt hg (by omega)) (zc8 n _ a) (roomL_pos ho)).symm
theorem rep_set {α : Type} (x y : α) (d : Nat) : ∀ c, (List.replicate c x ++ List.replicate (d + 1) y).set c x = List.replicate (c + 1) x ++ List.replicate d y
  | 0 => rfl
  | c + 1 => by
    rw [List.replicate_succ, List.cons_append, List.set_cons_succ, rep_set x y d c]
    rfl
def dbl (gs : List (List Int)) : List (List Int) := gs.flatMap fun p => [p, p]
theorem zgL (a b : List (List Int)) : dbl (a ++ b) = dbl a ++ dbl b := by simp [dbl]
theorem zeZ : ∀ gs : List (List Int), (dbl gs).length = 2 * gs.length
  | [] => rfl
  | p :: gs => by
    have := zeZ gs
    show ([p, p] ++ dbl gs).length = _
    rw [List.length_append, this]; simp; omega
theorem dbl_get : ∀ (gs : List (List Int)) (j : Nat), (dbl gs).getD j [] = gs.getD (j / 2) []
  | [], j => by simp [dbl]
  | p :: gs, 0 => rfl
  | p :: gs, 1 => rfl
  | p :: gs, j + 2 => by
    show (dbl gs).getD j [] = _
    rw [dbl_get gs j, show (j + 2) / 2 = j / 2 + 1 by omega]
    rfl
end Go.Abs
end

section
set_option maxRecDepth 100000
set_option maxHeartbeats 2000000
namespace Go.Proofs.YtpienljnoaendaaGreat.A
open Go Go.Abs Go.RowKit
structure Gms (lo gi : Nat) (H : AH) (gs : List (List Int)) (vs : List Value) : Prop where
  row : H.row gi = some ⟨33, true, vs⟩
  glo : lo ≤ gi
  len : vs.length = gs.length
  at_ : ∀ j, j < gs.length → ∃ q, lo ≤ q ∧ vs[j]? = some (.slice (some ⟨q, 0, some 1⟩) 2 2) ∧ H.row q = some ⟨2, true, ints (gs.getD j [])⟩ ∧ (gs.getD j []).length = 2
theorem Gms.keep {lo gi : Nat} {H H' : AH} {gs : List (List Int)} {vs : List Value} (h : Gms lo gi H gs vs) (hs : ∀ j r, lo ≤ j → H.row j = some r → H'.row j = some r) : Gms lo gi H' gs vs := by
  refine ⟨hs _ _ h.glo h.row, h.glo, h.len, fun j hj => ?_⟩
  obtain ⟨q, q1, q2, q3, q4⟩ := h.at_ j hj
  exact ⟨q, q1, q2, hs _ _ q1 q3, q4⟩
theorem Gms.keepT {lo gi : Nat} {H H' : AH} {gs : List (List Int)} {vs : List Value} (h : Gms lo gi H gs vs) (hs : ∀ j r, lo ≤ j → r.ty = 33 ∨ r.ty = 2 → H.row j = some r → H'.row j = some r) : Gms lo gi H' gs vs := by
  refine ⟨hs _ _ h.glo (.inl rfl) h.row, h.glo, h.len, fun j hj => ?_⟩
  obtain ⟨q, q1, q2, q3, q4⟩ := h.at_ j hj
  exact ⟨q, q1, q2, hs _ _ q1 (.inr rfl) q3, q4⟩
theorem appE_gms {P : Program} {E : TI} {lo gi m : Nat} {H : AH} {gs ys : List (List Int)} {vs xs : List Value} {K : Value → AH → Prop} (h : Gms lo gi H gs vs) (hS : Sc H) (hE : E.size = 1) (hb : E.bytes ≤ 32768) (hn : gs.length + m ≤ 4294967296) (hm : xs.length = m) (hy : ys.length = m) (h0 : 0 < m)
    (hx : ∀ j, j < m → ∃ q, lo ≤ q ∧ xs[j]? = some (.slice (some ⟨q, 0, some 1⟩) 2 2) ∧ H.row q = some ⟨2, true, ints (ys.getD j [])⟩ ∧ (ys.getD j []).length = 2)
    (hK : ∀ H', H'.next = H.next + 1 → Sc H' → (∀ j, j < H.next → j ≠ gi → H'.row j = H.row j) → Gms lo H.next H' (gs ++ ys) (vs ++ xs) → K (.slice (some ⟨H.next, 0, some 1⟩) (gs.length + m) (gs.length + m)) H') :
    runOut P H (appE E 33 (.slice (some ⟨gi, 0, some 1⟩) gs.length gs.length) xs m H) K := by
  have hgi := hS _ _ h.row
  have hlen := h.len
  have hglo := h.glo
  unfold appE
  rw [if_neg (by omega)]
  simp only [zb4, h.row, zb0, za9, Nat.zero_add, hE, Nat.mul_one, hlen]
  refine ⟨⟨hn, hb, Nat.le_refl _, .inl rfl⟩, ?_⟩
  rw [if_neg (by omega)]
  simp only [za9, zaK]
  refine ⟨⟨trivial, trivial, Nat.zero_lt_one, trivial, trivial⟩, hK _ rfl ((hS.drop gi).push _) (fun j hj hj2 => ?_) ⟨?_, by omega, by simp [hlen, hm, hy], fun j hj => ?_⟩⟩
  · rw [AH.push_row, if_neg (by rw [AH.drop_next]; omega), AH.drop_row, if_neg hj2]
  · rw [AH.push_row, AH.drop_next, if_pos rfl, zcX _ _ hlen.symm]
  · have old : ∀ q l, H.row q = some ⟨2, true, l⟩ → ((H.drop gi).push ⟨33, true, seg vs 0 gs.length ++ xs⟩).row q = some ⟨2, true, l⟩ := fun q l hq => by
      have := hS _ _ hq
      rw [AH.push_row, if_neg (by rw [AH.drop_next]; omega), AH.drop_row, if_neg (fun e => by subst e; rw [h.row] at hq; cases hq)]
      exact hq
    by_cases c : j < gs.length
    · obtain ⟨q, q1, q2, q3, q4⟩ := h.at_ j c
      have e : (gs ++ ys).getD j [] = gs.getD j [] := by simp [List.getD_eq_getElem?_getD, List.getElem?_append_left c]
      rw [e]
      exact ⟨q, q1, by rw [List.getElem?_append_left (by omega)]; exact q2, old _ _ q3, q4⟩
    · rw [List.length_append] at hj
      obtain ⟨q, q1, q2, q3, q4⟩ := hx (j - gs.length) (by omega)
      have e : (gs ++ ys).getD j [] = ys.getD (j - gs.length) [] := by simp [List.getD_eq_getElem?_getD, List.getElem?_append_right (Nat.le_of_not_lt c)]
      rw [e]
      exact ⟨q, q1, by rw [List.getElem?_append_right (by omega), hlen]; exact q2, old _ _ q3, q4⟩
theorem Gms.rd2 {lo gi : Nat} {H : AH} {gs : List (List Int)} {vs : List Value} (h : Gms lo gi H gs vs) : Rd2 1 H (.slice (some ⟨gi, 0, some 1⟩) gs.length gs.length) gs := by
  refine .inr ⟨gi, 0, some 1, gs.length, _, rfl, h.row, fun j hj => ?_⟩
  obtain ⟨q, q1, q2, q3, q4⟩ := h.at_ j hj
  refine ⟨_, 2, by rw [Nat.zero_add]; exact q2, q4, .inr ⟨q, 0, some 1, 2, _, rfl, q3, by rw [za2, q4]; omega, zcX _ _ (by rw [za2, q4])⟩⟩
theorem l10First_c (n : Nat) (v : Value) (k : Nat) (l : List Int) (x : Value) (ll : List (List Int)) (a : Int) (H : AH) (hb : schedB n k l = true) (hres : resB n k l ll = true) (hl : ll.length ≤ 4294967296) (hv : Rd 14 H v k l) (hx : Rd2 1 H x ll) (ha : 0 ≤ a ∧ a < n) :
    ACalls Tryz.prog 185 [.agg #[.int .i64 n, v], x, .int .i64 a] H (is (.bool (firstB n k l ll a)) H) := by
  refine zaZ rfl (ACalls.wf (by kernel_rfl) fun hs => za3 [.tmp 6] Tryz.func185 (by kernel_rfl) rfl rfl (Nat.le_of_ble_eq_true rfl) (by kernel_rfl) ?_)
  obtain ⟨hn, hk40, hrounds⟩ := zaC hb
  obtain ⟨hlk, hrs⟩ := zcY hres
  have hone := hv.one
  have up : Up H.next H (H.push ⟨26, true, [.int .i64 n, v]⟩) := (Up.refl _ H).push (Nat.le_refl _) _
  have e1 : (H.push ⟨26, true, [.int .i64 n, v]⟩).row H.next = some ⟨26, true, [.int .i64 n, v]⟩ := by rw [AH.push_row, if_pos rfl]
  have n1 : (H.push ⟨26, true, [.int .i64 n, v]⟩).next = H.next + 1 := rfl
  have sc1 : Sc (H.push ⟨26, true, [.int .i64 n, v]⟩) := Sc.push hs _
  try simp (disch := first | omega | (simp only [L3] <;> omega)) only [Sall,evalOp,init,binA_s,binE,binI,unE,convE,okNil,builtE,gv,TD.isAgg,resV,↓reduceIte,Nat.reduceEqDiff,reduceCtorEq,Nat.reduceAdd,Nat.reduceMul,Nat.reduceLeDiff,za0,za1,Int.reduceEq,Int.reduceLT,Int.reduceLE,Nat.reduceLT,tiA, hone]
  revert up e1 n1 sc1
  generalize H.push ⟨26, true, [.int .i64 n, v]⟩ = H1
  intro up e1 n1 sc1
  have hv1 := hv.same (up.le hs).row
  have hx1 := hx.same (up.le hs).row
  try simp (disch := first | omega | (simp only [L3] <;> omega)) only [Sall,evalOp,init,binA_s,binE,binI,unE,convE,okNil,builtE,gv,TD.isAgg,resV,↓reduceIte,Nat.reduceEqDiff,reduceCtorEq,Nat.reduceAdd,Nat.reduceMul,Nat.reduceLeDiff,za0,za1,Int.reduceEq,Int.reduceLT,Int.reduceLE,Nat.reduceLT,tiA, e1, builtE, hx1.len]
  refine (zcQ n v k l x ll ll.length H1 hb hres (Nat.le_refl _) hl hv1 hx1).sc.mono ?_
  rintro pu H2 ⟨⟨up2, hf⟩, sc2⟩
  have n2 := up2.next
  refine Holds.mp ?_
  try simp (disch := first | omega | (simp only [L3] <;> omega)) only [Sall,evalOp,init,binA_s,binE,binI,unE,convE,okNil,builtE,gv,TD.isAgg,resV,↓reduceIte,Nat.reduceEqDiff,reduceCtorEq,Nat.reduceAdd,Nat.reduceMul,Nat.reduceLeDiff,za0,za1,Int.reduceEq,Int.reduceLT,Int.reduceLE,Nat.reduceLT,tiA, zaN]
  obtain ⟨pi, pi0, pi1, rfl, pir⟩ := hf.get (by omega)
  obtain ⟨H3, e3⟩ : ∃ H3, H3 = H2.push ⟨33, true, []⟩ := ⟨_, rfl⟩
  have n3 : H3.next = H2.next + 1 := by rw [e3]; rfl
  have r3 : ∀ j, j < H2.next → H3.row j = H2.row j := fun j hj => by rw [e3, AH.push_row, if_neg (by omega)]
  have sc3 : Sc H3 := by rw [e3]; exact sc2.push _
  have g3 : Gms (pi + 1) H2.next H3 (dbl []) [] := ⟨by rw [e3, AH.push_row, if_pos rfl], by omega, rfl, fun j hj => by simp [dbl] at hj⟩
  have up3 : Up H.next H H3 := ⟨by have := up.next; omega, fun j hj => by rw [r3 j (by omega), up2.row j (by omega), up.row j hj]⟩
  rw [← e3]
  clear e3
  have p3 : H3.row pi = some ⟨2, true, ints (gmN n l a (sumsF n (fun _ o => o) (meets n l ll ll.length), []) ll.length 0).1⟩ := by rw [r3 _ (by omega), pir]; rfl
  have b3 : H3.row H.next = some ⟨26, true, [.int .i64 n, v]⟩ := by rw [r3 _ (by omega), up2.row _ (by omega), e1]
  have hgm := gmL_ok (a := a) hb hlk
  have g3' : Gms (pi + 1) H2.next H3 (dbl (gmN n l a (sumsF n (fun _ o => o) (meets n l ll ll.length), []) ll.length 0).2) [] := g3
  clear g3
  have gm0 := gm0_ok (n := n) (by omega) (l := l) (ll := ll) (by omega)
  unfold firstB
  unfold gmL at hgm ⊢
  have hz : dbl (gmN n l a (sumsF n (fun _ o => o) (meets n l ll ll.length), []) ll.length 0).2 = [] := rfl
  revert p3; revert gm0; revert g3'; revert hz
  generalize (sumsF n (fun _ o => o) (meets n l ll ll.length), ([] : List (List Int))) = st0 at hgm ⊢
  intro hz g3' gm0 p3
  have hgo : ∀ c, ll.length + c ≤ k → GmOk n (2240 + 28 * c) (gmN n l a st0 ll.length c) := fun c hc => gmN_ok (by omega) gm0 c (fun i hi => hrounds i (by omega)) (by omega)
  try simp (disch := first | omega | (simp only [L3] <;> omega)) only [Sall,evalOp,init,binA_s,binE,binI,unE,convE,okNil,builtE,gv,TD.isAgg,resV,↓reduceIte,Nat.reduceEqDiff,reduceCtorEq,Nat.reduceAdd,Nat.reduceMul,Nat.reduceLeDiff,za0,za1,Int.reduceEq,Int.reduceLT,Int.reduceLE,Nat.reduceLT,tiA, builtE, hx1.len]
  refine za7 (fun m t H' => ∃ (c gi : Nat) (vs : List Value), m = (k - ll.length) - c ∧ c ≤ k - ll.length ∧ t 9 = .int .i64 (ll.length + c : Nat) ∧ t 7 = .slice (some ⟨pi, 0, some 1⟩) n n ∧ t 8 = .slice (some ⟨gi, 0, some 1⟩) (dbl (gmN n l a st0 ll.length c).2).length (dbl (gmN n l a st0 ll.length c).2).length ∧ t 2 = .int .i64 a ∧ t 3 = .pointer (some ⟨H.next, 0, none⟩) ∧ Up H.next H H' ∧ H'.row H.next = some ⟨26, true, [.int .i64 n, v]⟩ ∧
      H'.row pi = some ⟨2, true, ints (gmN n l a st0 ll.length c).1⟩ ∧ Gms (pi + 1) gi H' (dbl (gmN n l a st0 ll.length c).2) vs ∧ Sc H') (k - ll.length) ?_ ?_
  · refine ⟨0, H2.next, [], by omega, by omega, ?_⟩
    try simp (disch := first | omega | (simp only [L3] <;> omega)) only [Sall,evalOp,init,binA_s,binE,binI,unE,convE,okNil,builtE,gv,TD.isAgg,resV,↓reduceIte,Nat.reduceEqDiff,reduceCtorEq,Nat.reduceAdd,Nat.reduceMul,Nat.reduceLeDiff,za0,za1,Int.reduceEq,Int.reduceLT,Int.reduceLE,Nat.reduceLT,tiA, Int.natCast_zero]
    exact ⟨by rw [hz]; rfl, up3, b3, p3, g3', sc3⟩
  · rintro m t H' ⟨c, gi, vs, hm, hck, h9, h7, h8, h2, h3, hup, hr1, hr2, hG, hsc⟩
    have hvl := hv.len
    try simp (disch := first | omega | (simp only [L3] <;> omega)) only [Sall,evalOp,init,binA_s,binE,binI,unE,convE,okNil,builtE,gv,TD.isAgg,resV,↓reduceIte,Nat.reduceEqDiff,reduceCtorEq,Nat.reduceAdd,Nat.reduceMul,Nat.reduceLeDiff,za0,za1,Int.reduceEq,Int.reduceLT,Int.reduceLE,Nat.reduceLT,tiA, h9, h3, hr1, builtE, hvl]
    refine za6 (fun h => ?_) (fun h => ?_)
    · obtain ⟨i', o', u', c', r', ev, hrB', hc', hs', hg'⟩ := hv.get (by omega)
      have hr' : H'.row i' = some r' := by rw [hup.row _ (hs _ _ hrB'), hrB']
      have hrl : (rnd l (ll.length + c)).length = 14 := zbA l (ll.length + c) k hv.1 (by omega)
      have hlh := hup.next
      try simp (disch := first | omega | (simp only [L3] <;> omega)) only [Sall,evalOp,init,binA_s,binE,binI,unE,convE,okNil,builtE,gv,TD.isAgg,resV,↓reduceIte,Nat.reduceEqDiff,reduceCtorEq,Nat.reduceAdd,Nat.reduceMul,Nat.reduceLeDiff,za0,za1,Int.reduceEq,Int.reduceLT,Int.reduceLE,Nat.reduceLT,tiA, h9, h3]
      refine zaR (by kernel_rfl) (by kernel_rfl) ?_
      try simp (disch := first | omega | (simp only [L3] <;> omega)) only [Sall,evalOp,init,binA_s,binE,binI,unE,convE,okNil,builtE,gv,TD.isAgg,resV,↓reduceIte,Nat.reduceEqDiff,reduceCtorEq,Nat.reduceAdd,Nat.reduceMul,Nat.reduceLeDiff,za0,za1,Int.reduceEq,Int.reduceLT,Int.reduceLE,Nat.reduceLT,tiA, h9, h3, hr1, ev, hr', hg']
      refine ⟨by omega, by omega, ACalls.wf (by kernel_rfl) fun hs1 => (zcP n (rnd l (ll.length + c)) hrl (by omega) H').sc.mono ?_⟩
      rintro p H4 ⟨⟨up4, hp⟩, sc4⟩
      have hpl := hp.rd.len
      refine ⟨.inr (.inr (up4.le hs1)), ?_⟩
      have n4 := up4.next
      have hHn := hsc _ _ hr1
      have hr3 : H4.row H.next = some ⟨26, true, [.int .i64 n, v]⟩ := by rw [up4.row _ (by omega), hr1]
      have hpi' : pi < H'.next := hsc _ _ hr2
      have hr4 : H4.row pi = some ⟨2, true, ints (gmN n l a st0 ll.length c).1⟩ := by rw [up4.row _ hpi', hr2]
      have hG4 := hG.keep (H' := H4) fun j r _ hr => by rw [up4.row _ (hsc _ _ hr), hr]
      have hgiH := hsc _ _ hG.row
      have hplen := zbE (rnd l (ll.length + c)) n
      have hround := hrounds (ll.length + c) (by omega)
      have hgc := hgo c (by omega)
      have hgs : gmN n l a st0 ll.length (c + 1) = gmB n l a (gmN n l a st0 ll.length c) (ll.length + c) (pairsL (rnd l (ll.length + c)) n).length := rfl
      have hbo : ∀ b, b ≤ (pairsL (rnd l (ll.length + c)) n).length → GmOk n (2240 + 28 * c + 2 * b) (gmB n l a (gmN n l a st0 ll.length c) (ll.length + c) b) := fun b hb2 => gmB_ok hgc hround b hb2 (by omega)
      have hb0 := gmB_zero n l a (gmN n l a st0 ll.length c) (ll.length + c)
      rw [← hb0] at hr4 hG4
      have hsuc := fun b hb2 => zhB n l a (gmN n l a st0 ll.length c) (ll.length + c) b hb2
      have h8' := h8
      rw [← hb0] at h8'
      clear hgc hb0 hG hr2 h8
      revert hr4 hG4 hbo hsuc h8' hgs
      generalize gmB n l a (gmN n l a st0 ll.length c) (ll.length + c) = gb
      intro hr4 hG4 hgs hbo hsuc h8
      refine Holds.mp ?_
      try simp (disch := first | omega | (simp only [L3] <;> omega)) only [Sall,evalOp,init,binA_s,binE,binI,unE,convE,okNil,builtE,gv,TD.isAgg,resV,↓reduceIte,Nat.reduceEqDiff,reduceCtorEq,Nat.reduceAdd,Nat.reduceMul,Nat.reduceLeDiff,za0,za1,Int.reduceEq,Int.reduceLT,Int.reduceLE,Nat.reduceLT,tiA, h9, h7, h8, h2, h3]
      refine za7 (fun z t H5 => ∃ (b gi : Nat) (vs : List Value), z = (pairsL (rnd l (ll.length + c)) n).length - b ∧ b ≤ (pairsL (rnd l (ll.length + c)) n).length ∧ t 11 = .int .i64 b ∧ t 10 = p ∧ t 9 = .int .i64 (ll.length + c : Nat) ∧ t 7 = .slice (some ⟨pi, 0, some 1⟩) n n ∧ t 8 = .slice (some ⟨gi, 0, some 1⟩) (dbl (gb b).2).length (dbl (gb b).2).length ∧ t 2 = .int .i64 a ∧ t 3 = .pointer (some ⟨H.next, 0, none⟩) ∧ Up H.next H H5 ∧ H4.next ≤ H5.next ∧ H5.row H.next = some ⟨26, true, [.int .i64 n, v]⟩ ∧
          Fr2 1 33 2 H'.next H4.next H5 p (pairsL (rnd l (ll.length + c)) n) ∧ H5.row pi = some ⟨2, true, ints (gb b).1⟩ ∧ Gms (pi + 1) gi H5 (dbl (gb b).2) vs ∧ Sc H5 ∧ (gi < H'.next ∨ H4.next ≤ gi)) (pairsL (rnd l (ll.length + c)) n).length ?_ ?_
      · refine ⟨0, gi, vs, by omega, by omega, ?_⟩
        try simp (disch := first | omega | (simp only [L3] <;> omega)) only [Sall,evalOp,init,binA_s,binE,binI,unE,convE,okNil,builtE,gv,TD.isAgg,resV,↓reduceIte,Nat.reduceEqDiff,reduceCtorEq,Nat.reduceAdd,Nat.reduceMul,Nat.reduceLeDiff,za0,za1,Int.reduceEq,Int.reduceLT,Int.reduceLE,Nat.reduceLT,tiA, Int.natCast_zero, h9, h7, h8, h2, h3]
        exact ⟨hup.trans up4 hlh, hr3, hp, hr4, hG4, sc4, .inl hgiH⟩
      · rintro z t H5 ⟨b, gi', vs', hzz, hbp, h11, h10, h9, h7, h8, h2, h3, hup5, hn5, hr5, hp5, hpi5, hG5, sc5, hgi5⟩
        have hpl5 := hp5.rd.len
        try simp (disch := first | omega | (simp only [L3] <;> omega)) only [Sall,evalOp,init,binA_s,binE,binI,unE,convE,okNil,builtE,gv,TD.isAgg,resV,↓reduceIte,Nat.reduceEqDiff,reduceCtorEq,Nat.reduceAdd,Nat.reduceMul,Nat.reduceLeDiff,za0,za1,Int.reduceEq,Int.reduceLT,Int.reduceLE,Nat.reduceLT,tiA, h11, h10, builtE, hpl5]
        refine za6 (fun hh => ?_) (fun hh => ?_)
        · obtain ⟨qi, pvs, px, pm, pb, pc, rfl, q1, q2, q3, q4, q5, q6, q7, q8⟩ := hp5.getF (j := b) (by omega)
          have hpm := q8.lenK1
          obtain ⟨aa, ha1, ha2, ha3⟩ := zbD (rnd l (ll.length + c)) n b (by omega)
          obtain ⟨_, ha4, ha5, _⟩ := zb3 hround (a := aa) (by omega)
          have hs1' := hsuc b (by omega)
          rw [ha3] at q8 hpm hs1'
          simp only [List.length_cons, List.length_nil] at hpm
          obtain rfl : pm = 2 := hpm
          obtain ⟨i6, w1, w2, rfl, w3⟩ := q8.get (by omega)
          obtain ⟨bb, hbb⟩ : ∃ bb, bb = (rnd l (ll.length + c)).getD aa 0 := ⟨_, rfl⟩
          rw [← hbb] at w3 hs1' ha4 ha5
          have i0 : (ints [(aa : Int), bb])[Int.toNat 0]? = some (.int .i64 aa) := rfl
          have i1 : (ints [(aa : Int), bb])[Int.toNat 1]? = some (.int .i64 bb) := rfl
          have hbo5 := hbo b (by omega)
          have hbl := hbo5.len
          have hgl5 := hG5.len
          have sg : gstep a (gb b) [(aa : Int), bb] = if (aa : Int) = a ∨ bb = a then (addAt (gb b).1 a 2, (gb b).2) else ((gb b).1, (gb b).2 ++ [[(aa : Int), bb]]) := rfl
          rw [sg] at hs1'
          by_cases c0 : (aa : Int) = a
          · have e0 : (a == (aa : Int)) = true := by rw [c0]; exact beq_self_eq_true _
            rw [if_pos (.inl c0)] at hs1'
            try simp (disch := first | omega | (simp only [L3] <;> omega)) only [Sall,evalOp,init,binA_s,binE,binI,unE,convE,okNil,builtE,gv,TD.isAgg,resV,↓reduceIte,Nat.reduceEqDiff,reduceCtorEq,Nat.reduceAdd,Nat.reduceMul,Nat.reduceLeDiff,za0,za1,Int.reduceEq,Int.reduceLT,Int.reduceLE,Nat.reduceLT,tiA, h11, h10, h9, h7, h8, h2, h3, q3, q5, w3, i0, i1, e0, hpi5, ints_get?, zaH, hbl]
            (repeat refine And.intro (by omega) ?_)
            have ne0 : ¬ H.next = pi := by omega
            have hHn5 := sc5 _ _ hr5
            try simp (disch := first | omega | (simp only [L3] <;> omega)) only [Sall,evalOp,init,binA_s,binE,binI,unE,convE,okNil,builtE,gv,TD.isAgg,resV,↓reduceIte,Nat.reduceEqDiff,reduceCtorEq,Nat.reduceAdd,Nat.reduceMul,Nat.reduceLeDiff,za0,za1,Int.reduceEq,Int.reduceLT,Int.reduceLE,Nat.reduceLT,tiA, h11, h10, h9, h7, h8, h2, h3, ne0, w64]
            refine ⟨(pairsL (rnd l (ll.length + c)) n).length - (b + 1), by omega, b + 1, gi', vs', rfl, by omega, by omega, by rw [hs1'], hup5.set (by omega) _, hn5, ?_, hp5.same fun j j1 j2 => by rw [AH.setCells_row, if_neg (by omega)], ?_, ?_, sc5.set _ _, hgi5⟩
            · exact hr5
            · rw [hs1']; rfl
            · rw [hs1']; exact hG5.keep fun j r j1 hr => by rw [AH.setCells_row, if_neg (by omega)]; exact hr
          · have e0 : (a == (aa : Int)) = false := beq_eq_false_iff_ne.2 (fun e => c0 e.symm)
            by_cases c1 : bb = a
            · have e2 : (a == bb) = true := by rw [c1]; exact beq_self_eq_true _
              rw [if_pos (.inr c1)] at hs1'
              try simp (disch := first | omega | (simp only [L3] <;> omega)) only [Sall,evalOp,init,binA_s,binE,binI,unE,convE,okNil,builtE,gv,TD.isAgg,resV,↓reduceIte,Nat.reduceEqDiff,reduceCtorEq,Nat.reduceAdd,Nat.reduceMul,Nat.reduceLeDiff,za0,za1,Int.reduceEq,Int.reduceLT,Int.reduceLE,Nat.reduceLT,tiA, h11, h10, h9, h7, h8, h2, h3, q3, q5, w3, i0, i1, e0, e2, hpi5, ints_get?, zaH, hbl]
              (repeat refine And.intro (by omega) ?_)
              have ne0 : ¬ H.next = pi := by omega
              have hHn5 := sc5 _ _ hr5
              try simp (disch := first | omega | (simp only [L3] <;> omega)) only [Sall,evalOp,init,binA_s,binE,binI,unE,convE,okNil,builtE,gv,TD.isAgg,resV,↓reduceIte,Nat.reduceEqDiff,reduceCtorEq,Nat.reduceAdd,Nat.reduceMul,Nat.reduceLeDiff,za0,za1,Int.reduceEq,Int.reduceLT,Int.reduceLE,Nat.reduceLT,tiA, h11, h10, h9, h7, h8, h2, h3, ne0, w64]
              refine ⟨(pairsL (rnd l (ll.length + c)) n).length - (b + 1), by omega, b + 1, gi', vs', rfl, by omega, by omega, by rw [hs1'], hup5.set (by omega) _, hn5, ?_, hp5.same fun j j1 j2 => by rw [AH.setCells_row, if_neg (by omega)], ?_, ?_, sc5.set _ _, hgi5⟩
              · exact hr5
              · rw [hs1']; rfl
              · rw [hs1']; exact hG5.keep fun j r j1 hr => by rw [AH.setCells_row, if_neg (by omega)]; exact hr
            · have e2 : (a == bb) = false := beq_eq_false_iff_ne.2 (fun e => c1 e.symm)
              rw [if_neg (fun h => h.elim c0 c1)] at hs1'
              try simp (disch := first | omega | (simp only [L3] <;> omega)) only [Sall,evalOp,init,binA_s,binE,binI,unE,convE,okNil,builtE,gv,TD.isAgg,resV,↓reduceIte,Nat.reduceEqDiff,reduceCtorEq,Nat.reduceAdd,Nat.reduceMul,Nat.reduceLeDiff,za0,za1,Int.reduceEq,Int.reduceLT,Int.reduceLE,Nat.reduceLT,tiA, h11, h10, h9, h7, h8, h2, h3, q3, q5, w3, i0, i1, e0, e2]
              (repeat refine And.intro (by omega) ?_)
              refine zaR (by kernel_rfl) (by kernel_rfl) ?_
              have zz : zeros 2 [.slice none 0 0] = [.slice none 0 0, .slice none 0 0] := rfl
              have ne1 : ¬ qi = H5.next := by omega
              try simp (disch := first | omega | (simp only [L3] <;> omega)) only [Sall,evalOp,init,binA_s,binE,binI,unE,convE,okNil,builtE,gv,TD.isAgg,resV,↓reduceIte,Nat.reduceEqDiff,reduceCtorEq,Nat.reduceAdd,Nat.reduceMul,Nat.reduceLeDiff,za0,za1,Int.reduceEq,Int.reduceLT,Int.reduceLE,Nat.reduceLT,tiA, h11, h10, h9, h7, h8, h2, h3, q3, q5, zz, zaO, ne1]
              (repeat refine And.intro (by omega) ?_)
              refine ⟨.inr (.inr (sc5.le _)), ?_⟩
              obtain ⟨H6, e6⟩ : ∃ H6, H6 = H5.push ⟨33, true, [.slice (some ⟨i6, 0, some 1⟩) 2 2, .slice (some ⟨i6, 0, some 1⟩) 2 2]⟩ := ⟨_, rfl⟩
              have n6 : H6.next = H5.next + 1 := by rw [e6]; rfl
              have r6 : ∀ j, j < H5.next → H6.row j = H5.row j := fun j hj => by rw [e6, AH.push_row, if_neg (by omega)]
              have sc6 : Sc H6 := by rw [e6]; exact sc5.push _
              rw [← e6]
              clear e6
              have hi6 := sc5 _ _ w3
              have hHn5 := sc5 _ _ hr5
              have hpi6 := sc5 _ _ hpi5
              have few := (hbo b (by omega)).few
              have hdl := zeZ (gb b).2
              refine appE_gms (hG5.keep (H' := H6) fun j r _ hr => by rw [r6 _ (sc5 _ _ hr)]; exact hr) sc6 rfl (by decide) (by omega) (ys := [[(aa : Int), bb], [(aa : Int), bb]]) rfl rfl (by omega) (fun j hj => ⟨i6, by omega, ?_, ?_, ?_⟩) ?_
              · have : j = 0 ∨ j = 1 := by omega
                rcases this with rfl | rfl <;> rfl
              · rw [r6 _ hi6, w3]
                have : j = 0 ∨ j = 1 := by omega
                rcases this with rfl | rfl <;> rfl
              · have : j = 0 ∨ j = 1 := by omega
                rcases this with rfl | rfl <;> rfl
              · intro H7 n7 sc7 s7 hG7
                refine ⟨.inr (.inl (by kernel_rfl)), ?_⟩
                try simp (disch := first | omega | (simp only [L3] <;> omega)) only [Sall,evalOp,init,binA_s,binE,binI,unE,convE,okNil,builtE,gv,TD.isAgg,resV,↓reduceIte,Nat.reduceEqDiff,reduceCtorEq,Nat.reduceAdd,Nat.reduceMul,Nat.reduceLeDiff,za0,za1,Int.reduceEq,Int.reduceLT,Int.reduceLE,Nat.reduceLT,tiA, h11, h10, h9, h7, h2, h3, w64]
                have hgi6 := sc6 _ _ (hG5.keep (H' := H6) fun j r _ hr => by rw [r6 _ (sc5 _ _ hr)]; exact hr).row
                have hglo := hG5.glo
                have hgne : ∀ j, j ≠ gi' → j < H5.next → H7.row j = H5.row j := fun j j1 j2 => by rw [s7 j (by omega) j1, r6 j j2]
                refine ⟨(pairsL (rnd l (ll.length + c)) n).length - (b + 1), by omega, b + 1, H6.next, vs' ++ [.slice (some ⟨i6, 0, some 1⟩) 2 2, .slice (some ⟨i6, 0, some 1⟩) 2 2], rfl, by omega, by omega, ?_, ⟨by have := hup5.next; omega, fun j hj => ?_⟩, by omega, ?_, hp5.same fun j j1 j2 => hgne j (by omega) (by omega), ?_, ?_, sc7, .inr (by omega)⟩
                · rw [hs1', zgL, List.length_append]; rfl
                · rw [hgne j (by omega) (by omega), hup5.row j hj]
                · rw [hgne _ (by omega) hHn5]; exact hr5
                · rw [hgne _ (by omega) hpi6, hs1']; exact hpi5
                · rw [hs1', zgL]; exact hG7
        · have hbe : b = (pairsL (rnd l (ll.length + c)) n).length := by omega
          rw [hbe, ← hgs] at h8 hpi5 hG5
          try simp (disch := first | omega | (simp only [L3] <;> omega)) only [Sall,evalOp,init,binA_s,binE,binI,unE,convE,okNil,builtE,gv,TD.isAgg,resV,↓reduceIte,Nat.reduceEqDiff,reduceCtorEq,Nat.reduceAdd,Nat.reduceMul,Nat.reduceLeDiff,za0,za1,Int.reduceEq,Int.reduceLT,Int.reduceLE,Nat.reduceLT,tiA, h9, h7, h8, h2, h3, w64]
          exact ⟨k - ll.length - (c + 1), by omega, c + 1, gi', vs', rfl, by omega, by omega, rfl, hup5, hr5, hpi5, hG5, sc5⟩
    · have hce : c = k - ll.length := by omega
      rw [hce] at h8 hr2 hG
      have hrng := gmL_ok (a := a) hb hlk
      obtain ⟨st, hst⟩ : ∃ st, st = gmN n l a st0 ll.length (k - ll.length) := ⟨_, rfl⟩
      rw [← hst] at h8 hr2 hG hgm ⊢
      clear hce hgo p3 hz g3' gm0 hst
      obtain ⟨pts, gs⟩ := st
      dsimp only at h8 hr2 hG hgm ⊢
      have hHn := hsc _ _ hr1
      have hpn := hsc _ _ hr2
      have hln : pts.length = n := hgm.len
      have hbnd : ∀ j, 0 ≤ pts.getD j 0 ∧ pts.getD j 0 ≤ 3360 := fun j => by have := hgm.bnd j; dsimp only at this; omega
      try simp (disch := first | omega | (simp only [L3] <;> omega)) only [Sall,evalOp,init,binA_s,binE,binI,unE,convE,okNil,builtE,gv,TD.isAgg,resV,↓reduceIte,Nat.reduceEqDiff,reduceCtorEq,Nat.reduceAdd,Nat.reduceMul,Nat.reduceLeDiff,za0,za1,Int.reduceEq,Int.reduceLT,Int.reduceLE,Nat.reduceLT,tiA, h7, h8, h2, h3, zaN]
      obtain ⟨H5, e5⟩ : ∃ H5, H5 = H'.push ⟨2, true, []⟩ := ⟨_, rfl⟩
      have n5 : H5.next = H'.next + 1 := by rw [e5]; rfl
      have r5 : ∀ j, j < H'.next → H5.row j = H'.row j := fun j hj => by rw [e5, AH.push_row, if_neg (by omega)]
      have sc5 : Sc H5 := by rw [e5]; exact hsc.push _
      have f5 : Fr 1 2 H'.next (H'.next + 1) H5 (.slice (some ⟨H'.next, 0, some 1⟩) 0 0) 0 (roomL 0 pts a) := ⟨rfl, .inr ⟨H'.next, Nat.le_refl _, Nat.lt_succ_self _, rfl, by rw [e5, AH.push_row, if_pos rfl]; rfl⟩⟩
      rw [← e5]
      clear e5
      refine za7 (fun z t H6 => ∃ (b lo hi : Nat) (rv : Value), z = n - b ∧ b ≤ n ∧ t 13 = .int .i64 b ∧ t 12 = rv ∧ t 7 = .slice (some ⟨pi, 0, some 1⟩) n n ∧ t 8 = .slice (some ⟨gi, 0, some 1⟩) (dbl gs).length (dbl gs).length ∧ t 2 = .int .i64 a ∧ t 3 = .pointer (some ⟨H.next, 0, none⟩) ∧
        H'.next < H6.next ∧ (∀ j, j < H'.next → H6.row j = H'.row j) ∧ Fr 1 2 lo hi H6 rv b (roomL b pts a) ∧ H'.next ≤ lo ∧ lo ≤ hi ∧ hi ≤ H6.next ∧ Sc H6 ∧ ∀ j, j < b → ¬ pts.getD a.toNat 0 < pts.getD j 0) n ?_ ?_
      · refine ⟨0, H'.next, H'.next + 1, .slice (some ⟨H'.next, 0, some 1⟩) 0 0, by omega, by omega, ?_⟩
        try simp (disch := first | omega | (simp only [L3] <;> omega)) only [Sall,evalOp,init,binA_s,binE,binI,unE,convE,okNil,builtE,gv,TD.isAgg,resV,↓reduceIte,Nat.reduceEqDiff,reduceCtorEq,Nat.reduceAdd,Nat.reduceMul,Nat.reduceLeDiff,za0,za1,Int.reduceEq,Int.reduceLT,Int.reduceLE,Nat.reduceLT,tiA, Int.natCast_zero, h7, h8, h2, h3, f5]
        exact ⟨by omega, r5, by omega, by omega, sc5, fun j hj => by omega⟩
      · rintro z t H6 ⟨b, lo, hi, rv, hz, hbn, h13, h12, h7, h8, h2, h3, hn6, hr6, f6, hlo, hlh, hhi, sc6, hno⟩
        have hr61 : H6.row H.next = some ⟨26, true, [.int .i64 n, v]⟩ := by rw [hr6 _ hHn, hr1]
        have hr62 : H6.row pi = some ⟨2, true, ints pts⟩ := by rw [hr6 _ hpn, hr2]
        try simp (disch := first | omega | (simp only [L3] <;> omega)) only [Sall,evalOp,init,binA_s,binE,binI,unE,convE,okNil,builtE,gv,TD.isAgg,resV,↓reduceIte,Nat.reduceEqDiff,reduceCtorEq,Nat.reduceAdd,Nat.reduceMul,Nat.reduceLeDiff,za0,za1,Int.reduceEq,Int.reduceLT,Int.reduceLE,Nat.reduceLT,tiA, h13, h3, hr61]
        refine za6 (fun hh => ?_) (fun hh => ?_)
        · have hba := hbnd a.toNat
          have hbb := hbnd b
          have zz : zeros 1 [.int .i64 0] = [.int .i64 0] := rfl
          have gb : (ints pts)[b]? = some (.int .i64 (pts.getD b 0)) := ints_get? pts b (by omega)
          have ga : (ints pts)[a.toNat]? = some (.int .i64 (pts.getD a.toNat 0)) := ints_get? pts a.toNat (by omega)
          try simp (disch := first | omega | (simp only [L3] <;> omega)) only [Sall,evalOp,init,binA_s,binE,binI,unE,convE,okNil,builtE,gv,TD.isAgg,resV,↓reduceIte,Nat.reduceEqDiff,reduceCtorEq,Nat.reduceAdd,Nat.reduceMul,Nat.reduceLeDiff,za0,za1,Int.reduceEq,Int.reduceLT,Int.reduceLE,Nat.reduceLT,tiA, h13, h3]
          refine zaR (by kernel_rfl) (by kernel_rfl) ?_
          try simp (disch := first | omega | (simp only [L3] <;> omega)) only [Sall,evalOp,init,binA_s,binE,binI,unE,convE,okNil,builtE,gv,TD.isAgg,resV,↓reduceIte,Nat.reduceEqDiff,reduceCtorEq,Nat.reduceAdd,Nat.reduceMul,Nat.reduceLeDiff,za0,za1,Int.reduceEq,Int.reduceLT,Int.reduceLE,Nat.reduceLT,tiA, h13, h12, h7, h2, hr62, ga, gb, zz, zaO, hln, w64]
          (repeat refine And.intro (by omega) ?_)
          refine ⟨.inr (.inr (sc6.le _)), ?_⟩
          obtain ⟨H7, e7⟩ : ∃ H7, H7 = H6.push ⟨2, true, [.int .i64 (pts.getD a.toNat 0 - pts.getD b 0)]⟩ := ⟨_, rfl⟩
          have n7 : H7.next = H6.next + 1 := by rw [e7]; rfl
          have r7 : ∀ j, j < H6.next → H7.row j = H6.row j := fun j hj => by rw [e7, AH.push_row, if_neg (by omega)]
          have sc7 : Sc H7 := by rw [e7]; exact sc6.push _
          rw [← e7]
          clear e7
          refine zeQ (k := 1) (lo := lo) (hi := hi) (l := roomL b pts a) (m := [pts.getD a.toNat 0 - pts.getD b 0]) (f6.same fun j _ hj => r7 j (by omega)) rfl (by omega) rfl (by omega) (by decide) (by omega) (by omega) sc7 ?_
          intro v' H8 n8 s8 sc8 f8
          refine ⟨.inr (.inl (by kernel_rfl)), ?_⟩
          have er : roomL b pts a ++ [pts.getD a.toNat 0 - pts.getD b 0] = roomL (b + 1) pts a := by simp [roomL, List.range_succ]
          rw [er] at f8
          obtain ⟨q, q1, q2, rfl, q4⟩ := f8.get (by omega)
          have gr : (ints (roomL (b + 1) pts a))[b]? = some (.int .i64 (pts.getD a.toNat 0 - pts.getD b 0)) := by
            rw [ints_get? _ b (by rw [zc8]; omega), zdP (by omega)]
          have hr8 : ∀ j, j < H'.next → H8.row j = H'.row j := fun j hj => by rw [s8 j (by omega) (by omega), r7 j (by omega), hr6 j hj]
          by_cases hov : pts.getD a.toNat 0 < pts.getD b 0
          · have eo : overB n pts a = true := List.any_eq_true.2 ⟨b, List.mem_range.2 (by omega), decide_eq_true hov⟩
            have e1 : decide (pts.getD a.toNat 0 - pts.getD b 0 < 0) = true := decide_eq_true (by omega)
            rw [if_pos eo]
            try simp (disch := first | omega | (simp only [L3] <;> omega)) only [Sall,evalOp,init,binA_s,binE,binI,unE,convE,okNil,builtE,gv,TD.isAgg,resV,↓reduceIte,Nat.reduceEqDiff,reduceCtorEq,Nat.reduceAdd,Nat.reduceMul,Nat.reduceLeDiff,za0,za1,Int.reduceEq,Int.reduceLT,Int.reduceLE,Nat.reduceLT,tiA, h13, h7, h2, q4, gr, e1]
            exact ⟨by omega, by have := hup.next; omega, fun j hj => by rw [hr8 j (by omega), hup.row j hj]⟩
          · have e1 : decide (pts.getD a.toNat 0 - pts.getD b 0 < 0) = false := decide_eq_false (by omega)
            try simp (disch := first | omega | (simp only [L3] <;> omega)) only [Sall,evalOp,init,binA_s,binE,binI,unE,convE,okNil,builtE,gv,TD.isAgg,resV,↓reduceIte,Nat.reduceEqDiff,reduceCtorEq,Nat.reduceAdd,Nat.reduceMul,Nat.reduceLeDiff,za0,za1,Int.reduceEq,Int.reduceLT,Int.reduceLE,Nat.reduceLT,tiA, h13, h7, h8, h2, h3, q4, gr, e1, w64]
            (repeat refine And.intro (by omega) ?_)
            exact ⟨n - (b + 1), by omega, b + 1, H7.next, H7.next + 1, _, rfl, by omega, by omega, rfl, by omega, hr8, f8, by omega, by omega, by omega, sc8, fun j hj => by
              by_cases e : j = b
              · rw [e]; exact hov
              · exact hno j (by omega)⟩
        · have hbe : b = n := by omega
          subst hbe
          have eo : ¬ overB b pts a = true := fun h => by
            obtain ⟨j, hj, hd⟩ := List.any_eq_true.1 h
            exact hno j (List.mem_range.1 hj) (of_decide_eq_true hd)
          rw [if_neg eo]
          obtain ⟨ri, ri1, ri2, rfl, rir⟩ := f6.get (by omega)
          have hdl := zeZ gs
          have few := hgm.few
          dsimp only at few
          have hG6 := hG.keep (H' := H6) fun j r _ hr => by rw [hr6 _ (hsc _ _ hr)]; exact hr
          have hgi6 := sc6 _ _ hG6.row
          have e9 : zeros (dbl gs).length [.int .i64 0] = ints (List.replicate (dbl gs).length 0) := zcO _
          obtain ⟨N, hN⟩ : ∃ N, N = (dbl gs).length := ⟨_, rfl⟩
          have hN2 : 2 * gs.length = N := by omega
          rw [← hN] at e9 h8
          rw [hN2]
          obtain ⟨rm0, hrm0⟩ : ∃ rm0, rm0 = roomL b pts a := ⟨_, rfl⟩
          have hrl : rm0.length = b := by rw [hrm0, zc8]
          have hru : ∀ c, rm0.getD c 0 ≤ 4294967296 := fun c => by
            by_cases hc : c < b
            · rw [hrm0, zdP hc]; have := hbnd a.toNat; have := hbnd c; omega
            · rw [List.getD_eq_getElem?_getD, List.getElem?_eq_none (by omega)]; show (0 : Int) ≤ _; omega
          rw [← hrm0] at rir f6 ⊢
          have htm : ∀ j k', tmG gs j k' < b := tmG_lt hgm (by omega)
          have hpair : ∀ j, j < N → (dbl gs).getD j [] = [(tmG gs (j / 2) 0 : Int), (tmG gs (j / 2) 1 : Int)] := fun j hj => by rw [dbl_get]; exact tmG_pair hgm (g := j / 2) (by dsimp only; omega)
          try simp (disch := first | omega | (simp only [L3] <;> omega)) only [Sall,evalOp,init,binA_s,binE,binI,unE,convE,okNil,builtE,gv,TD.isAgg,resV,↓reduceIte,Nat.reduceEqDiff,reduceCtorEq,Nat.reduceAdd,Nat.reduceMul,Nat.reduceLeDiff,za0,za1,Int.reduceEq,Int.reduceLT,Int.reduceLE,Nat.reduceLT,tiA, h12, h7, h8, h2, h3, e9]
          (repeat refine And.intro (by omega) ?_)
          obtain ⟨H7, e7⟩ : ∃ H7, H7 = H6.push ⟨2, true, ints (List.replicate N 0)⟩ := ⟨_, rfl⟩
          have n7 : H7.next = H6.next + 1 := by rw [e7]; rfl
          have r7 : ∀ j, j < H6.next → H7.row j = H6.row j := fun j hj => by rw [e7, AH.push_row, if_neg (by omega)]
          have g7 : H7.row H6.next = some ⟨2, true, ints (List.replicate 0 (-1) ++ List.replicate N 0)⟩ := by rw [e7, AH.push_row, if_pos rfl]; rfl
          have sc7 : Sc H7 := by rw [e7]; exact sc6.push _
          rw [← e7]
          clear e7
          have hrin : ¬ ri = H6.next := by omega
          refine za7 (fun z t H8 => ∃ c : Nat, z = N - c ∧ c ≤ N ∧ t 15 = .int .i64 c ∧ t 14 = .slice (some ⟨H6.next, 0, some 1⟩) N N ∧ t 12 = .slice (some ⟨ri, 0, some 1⟩) b b ∧ t 8 = .slice (some ⟨gi, 0, some 1⟩) N N ∧ t 3 = .pointer (some ⟨H.next, 0, none⟩) ∧
            H8.next = H7.next ∧ (∀ j, j ≠ H6.next → H8.row j = H7.row j) ∧ H8.row H6.next = some ⟨2, true, ints (List.replicate c (-1) ++ List.replicate (N - c) 0)⟩ ∧ Sc H8) N ?_ ?_
          · refine ⟨0, by omega, by omega, ?_⟩
            try simp (disch := first | omega | (simp only [L3] <;> omega)) only [Sall,evalOp,init,binA_s,binE,binI,unE,convE,okNil,builtE,gv,TD.isAgg,resV,↓reduceIte,Nat.reduceEqDiff,reduceCtorEq,Nat.reduceAdd,Nat.reduceMul,Nat.reduceLeDiff,za0,za1,Int.reduceEq,Int.reduceLT,Int.reduceLE,Nat.reduceLT,tiA, Int.natCast_zero, h12, h8, h3]
            exact ⟨g7, sc7⟩
          · rintro z t H8 ⟨c, hz, hcN, h15, h14, h12, h8, h3, hn8, hr8, hg8, sc8⟩
            try simp (disch := first | omega | (simp only [L3] <;> omega)) only [Sall,evalOp,init,binA_s,binE,binI,unE,convE,okNil,builtE,gv,TD.isAgg,resV,↓reduceIte,Nat.reduceEqDiff,reduceCtorEq,Nat.reduceAdd,Nat.reduceMul,Nat.reduceLeDiff,za0,za1,Int.reduceEq,Int.reduceLT,Int.reduceLE,Nat.reduceLT,tiA, h15, h14, builtE]
            refine za6 (fun hh => ?_) (fun hh => ?_)
            · have es : (List.replicate c (-1 : Int) ++ List.replicate (N - c) 0).set c (-1) = List.replicate (c + 1) (-1) ++ List.replicate (N - (c + 1)) 0 := by
                have := rep_set (-1 : Int) 0 (N - (c + 1)) c
                rw [show N - (c + 1) + 1 = N - c by omega] at this
                exact this
              have el : (List.replicate c (-1 : Int) ++ List.replicate (N - c) 0).length = N := by simp; omega
              try simp (disch := first | omega | (simp only [L3] <;> omega)) only [Sall,evalOp,init,binA_s,binE,binI,unE,convE,okNil,builtE,gv,TD.isAgg,resV,↓reduceIte,Nat.reduceEqDiff,reduceCtorEq,Nat.reduceAdd,Nat.reduceMul,Nat.reduceLeDiff,za0,za1,Int.reduceEq,Int.reduceLT,Int.reduceLE,Nat.reduceLT,tiA, h15, h14, h12, h8, h3, hg8, el, zaH, es, w64]
              (repeat refine And.intro (by omega) ?_)
              refine ⟨N - (c + 1), by omega, c + 1, rfl, by omega, by omega, hn8, fun j hj => ?_, rfl, sc8.set _ _⟩
              rw [if_neg hj]; exact hr8 j hj
            · have hce : c = N := by omega
              rw [hce, Nat.sub_self, List.replicate_zero, List.append_nil] at hg8
              try simp (disch := first | omega | (simp only [L3] <;> omega)) only [Sall,evalOp,init,binA_s,binE,binI,unE,convE,okNil,builtE,gv,TD.isAgg,resV,↓reduceIte,Nat.reduceEqDiff,reduceCtorEq,Nat.reduceAdd,Nat.reduceMul,Nat.reduceLeDiff,za0,za1,Int.reduceEq,Int.reduceLT,Int.reduceLE,Nat.reduceLT,tiA, h14, h12, h8, h3]
              have hb8 : ∀ j, j < H'.next → H8.row j = H'.row j := fun j hj => by rw [hr8 j (by omega), r7 j (by omega), hr6 j hj]
              have hri8 : H8.row ri = some ⟨2, true, ints rm0⟩ := by rw [hr8 ri hrin, r7 ri (by omega), rir]
              have hrange : List.range' 0 N = List.range' 0 (N - 0) := by rw [Nat.sub_zero]
              rw [hrange]
              refine za7 (fun z t H9 => ∃ (i : Nat) (gw rm : List Int), z = N - i ∧ i ≤ N ∧ t 16 = .int .i64 i ∧ t 14 = .slice (some ⟨H6.next, 0, some 1⟩) N N ∧ t 12 = .slice (some ⟨ri, 0, some 1⟩) b b ∧ t 8 = .slice (some ⟨gi, 0, some 1⟩) N N ∧ t 3 = .pointer (some ⟨H.next, 0, none⟩) ∧
                allF (fun j k' => tmG gs (j / 2) k') b N (List.range' 0 (N - 0)) (List.replicate N (-1)) rm0 = allF (fun j k' => tmG gs (j / 2) k') b N (List.range' i (N - i)) gw rm ∧ gw.length = N ∧ rm.length = b ∧ (∀ c, rm.getD c 0 ≤ 4294967296) ∧
                H8.next ≤ H9.next ∧ (∀ j, j < H'.next → H9.row j = H'.row j) ∧ H9.row H6.next = some ⟨2, true, ints gw⟩ ∧ H9.row ri = some ⟨2, true, ints rm⟩ ∧ Sc H9) N ?_ ?_
              · refine ⟨0, List.replicate N (-1), rm0, by omega, by omega, ?_⟩
                try simp (disch := first | omega | (simp only [L3] <;> omega)) only [Sall,evalOp,init,binA_s,binE,binI,unE,convE,okNil,builtE,gv,TD.isAgg,resV,↓reduceIte,Nat.reduceEqDiff,reduceCtorEq,Nat.reduceAdd,Nat.reduceMul,Nat.reduceLeDiff,za0,za1,Int.reduceEq,Int.reduceLT,Int.reduceLE,Nat.reduceLT,tiA, Int.natCast_zero, h14, h12, h8, h3]
                exact ⟨hrl, hru, hb8, hg8, hri8, sc8⟩
              · rintro z t H9 ⟨i, gw, rm, hz, hiN, h16, h14, h12, h8, h3, hAll, hgvl, hrml, hru9, hn9, hr9, hg9, hri9, sc9⟩
                rw [hAll]
                try simp (disch := first | omega | (simp only [L3] <;> omega)) only [Sall,evalOp,init,binA_s,binE,binI,unE,convE,okNil,builtE,gv,TD.isAgg,resV,↓reduceIte,Nat.reduceEqDiff,reduceCtorEq,Nat.reduceAdd,Nat.reduceMul,Nat.reduceLeDiff,za0,za1,Int.reduceEq,Int.reduceLT,Int.reduceLE,Nat.reduceLT,tiA, h16, h8, builtE]
                refine za6 (fun hh => ?_) (fun hh => ?_)
                · rw [show N - i = (N - (i + 1)) + 1 by omega, List.range'_succ]
                  have hst : allF (fun j k' => tmG gs (j / 2) k') b N (i :: List.range' (i + 1) (N - (i + 1))) gw rm = (if (giveF (fun j k' => tmG gs (j / 2) k') N (b + 1) ⟨gw, rm, List.replicate b false⟩ i).1 = true then allF (fun j k' => tmG gs (j / 2) k') b N (List.range' (i + 1) (N - (i + 1))) (giveF (fun j k' => tmG gs (j / 2) k') N (b + 1) ⟨gw, rm, List.replicate b false⟩ i).2.gv (giveF (fun j k' => tmG gs (j / 2) k') N (b + 1) ⟨gw, rm, List.replicate b false⟩ i).2.rm else false) := rfl
                  rw [hst]
                  have hr91 : H9.row H.next = some ⟨26, true, [.int .i64 b, v]⟩ := by rw [hr9 _ hHn, hr1]
                  have ez : zeros b [.bool false] = bools (List.replicate b false) := zfK b
                  try simp (disch := first | omega | (simp only [L3] <;> omega)) only [Sall,evalOp,init,binA_s,binE,binI,unE,convE,okNil,builtE,gv,TD.isAgg,resV,↓reduceIte,Nat.reduceEqDiff,reduceCtorEq,Nat.reduceAdd,Nat.reduceMul,Nat.reduceLeDiff,za0,za1,Int.reduceEq,Int.reduceLT,Int.reduceLE,Nat.reduceLT,tiA, h16, h14, h12, h8, h3, hr91, ez]
                  (repeat refine And.intro (by omega) ?_)
                  obtain ⟨H10, e10⟩ : ∃ H10, H10 = H9.push ⟨4, true, bools (List.replicate b false)⟩ := ⟨_, rfl⟩
                  have n10 : H10.next = H9.next + 1 := by rw [e10]; rfl
                  have r10 : ∀ j, j < H9.next → H10.row j = H9.row j := fun j hj => by rw [e10, AH.push_row, if_neg (by omega)]
                  have m10 : H10.row H9.next = some ⟨4, true, bools (List.replicate b false)⟩ := by rw [e10, AH.push_row, if_pos rfl]
                  have sc10 : Sc H10 := by rw [e10]; exact sc9.push _
                  rw [← e10]
                  clear e10
                  have hlen0 : LenOk b N ⟨gw, rm, List.replicate b false⟩ := ⟨hgvl, hrml, by simp, hru9⟩
                  have hunm : unm (List.replicate b false) < b + 1 := by
                    unfold unm; rw [List.count_replicate]; simp
                  have hcall := l10Give_c b N ⟨by omega, by omega⟩ (fun j k' => tmG gs (j / 2) k') (fun j k' => htm _ _) (.slice (some ⟨gi, 0, some 1⟩) N N) (dbl gs) hN.symm hpair H6.next ri H9.next ⟨by omega, by omega, by omega⟩ H10
                    (fun H' hfr => by
                      have hGk := hG.keep (H' := H') fun j r _ hr => by
                        have := hsc _ _ hr
                        rw [hfr j (by omega) (by omega) (by omega), r10 j (by omega), hr9 j (by omega)]; exact hr
                      have := hGk.rd2
                      rw [← hN] at this
                      exact this)
                    (b + 1) ⟨gw, rm, List.replicate b false⟩ i H10 hlen0 (by omega) hunm ⟨by rw [r10 _ (by omega)]; exact hg9, by rw [r10 _ (by omega)]; exact hri9, m10, rfl, fun j _ _ _ => rfl⟩
                  have hL := zgJ (tm := fun j k' => tmG gs (j / 2) k') (N := N) (b + 1) ⟨gw, rm, List.replicate b false⟩ i hlen0
                  revert hcall hL
                  generalize giveF (fun j k' => tmG gs (j / 2) k') N (b + 1) ⟨gw, rm, List.replicate b false⟩ i = R
                  intro hcall hL
                  refine hcall.scf.fin ?_
                  rintro H11 ⟨⟨q1, q2, q3, q4, q5⟩, sc11⟩
                  have q5' : ∀ j, j < H'.next → H11.row j = H'.row j := fun j hj => by rw [q5 j (by omega) (by omega) (by omega), r10 j (by omega), hr9 j hj]
                  obtain ⟨rb, s'⟩ := R
                  obtain hrb | hrb : rb = true ∨ rb = false := by cases rb <;> simp
                  · subst hrb
                    try simp (disch := first | omega | (simp only [L3] <;> omega)) only [Sall,evalOp,init,binA_s,binE,binI,unE,convE,okNil,builtE,gv,TD.isAgg,resV,↓reduceIte,Nat.reduceEqDiff,reduceCtorEq,Nat.reduceAdd,Nat.reduceMul,Nat.reduceLeDiff,za0,za1,Int.reduceEq,Int.reduceLT,Int.reduceLE,Nat.reduceLT,tiA, h16, h14, h12, h8, h3, w64]
                    (repeat refine And.intro (by omega) ?_)
                    exact ⟨N - (i + 1), by omega, i + 1, s'.gv, s'.rm, rfl, by omega, by omega, rfl, hL.ok.gl, hL.ok.rl, hL.ok.ru, by omega, q5', q1, q2, sc11⟩
                  · subst hrb
                    try simp (disch := first | omega | (simp only [L3] <;> omega)) only [Sall,evalOp,init,binA_s,binE,binI,unE,convE,okNil,builtE,gv,TD.isAgg,resV,↓reduceIte,Nat.reduceEqDiff,reduceCtorEq,Nat.reduceAdd,Nat.reduceMul,Nat.reduceLeDiff,za0,za1,Int.reduceEq,Int.reduceLT,Int.reduceLE,Nat.reduceLT,tiA, h16]
                    exact ⟨by have := hup.next; omega, fun j hj => by rw [q5' j (by omega), hup.row j hj]⟩
                · have hie : i = N := by omega
                  rw [hie, Nat.sub_self]
                  try simp (disch := first | omega | (simp only [L3] <;> omega)) only [Sall,evalOp,init,binA_s,binE,binI,unE,convE,okNil,builtE,gv,TD.isAgg,resV,↓reduceIte,Nat.reduceEqDiff,reduceCtorEq,Nat.reduceAdd,Nat.reduceMul,Nat.reduceLeDiff,za0,za1,Int.reduceEq,Int.reduceLT,Int.reduceLE,Nat.reduceLT,tiA, true_and]
                  exact ⟨rfl, by have := hup.next; omega, fun j hj => by rw [hr9 j (by omega), hup.row j hj]⟩
end Go.Proofs.YtpienljnoaendaaGreat.A
end

section
set_option maxRecDepth 100000
set_option maxHeartbeats 2000000
namespace Go.Proofs.YtpienljnoaendaaGreat.A
open Go Go.Abs Go.RowKit Go.Shelf Go.Sort
def deleteRen : Go.Shelf.Ren := ⟨fun | 45 => 272 | n => n, fun | 22 => 33 | 23 => 2 | 3 => 3 | 4 => 4 | 0 => 0 | n => n, fun | n => n⟩
theorem deleteLy : Go.Proofs.SlLaysN.n45 Tryz.prog deleteRen := {
  mixed := by kernel_rfl
  f45 := ⟨Tryz.f272.name, by decide, Tryz.func272.trans (congrArg some (by kernel_rfl))⟩
  t0 := Tryz.underlying0
  a0 := Tryz.isAgg0
  z0 := Tryz.sizeOf0
  v0 := Tryz.zeroValue0
  t3 := Tryz.underlying3
  a3 := Tryz.isAgg3
  z3 := Tryz.sizeOf3
  v3 := Tryz.zeroValue3
  t4 := Tryz.underlying4
  a4 := Tryz.isAgg4
  z4 := Tryz.sizeOf4
  v4 := Tryz.zeroValue4
  t22 := Tryz.underlying33
  a22 := Tryz.isAgg33
  z22 := Tryz.sizeOf33
  v22 := Tryz.zeroValue33
  t23 := Tryz.underlying2
  a23 := Tryz.isAgg2
  z23 := Tryz.sizeOf2
  v23 := Tryz.zeroValue2
  i23 := by kernel_rfl }
theorem delete_c (v : Value) (y : List Int) (k : Nat) (lo hi : Nat) (H : AH) (hv : Fr 1 2 lo hi H v y.length y) (hy : y.length ≤ 4294967296) (hk : k < y.length) :
    ACalls Tryz.prog 272 [v, .int .i64 k, .int .i64 (k + 1)] H (fun u H' => H'.next = H.next ∧ (∀ i, ¬ (lo ≤ i ∧ i < hi) → H'.row i = H.row i) ∧ Fr 1 2 lo hi H' u (y.eraseIdx k).length (y.eraseIdx k)) := by
  refine ⟨by kernel_rfl, fun base ρ w args' R hL => ?_⟩
  obtain ⟨hl, hx⟩ := hL
  match args', hl, hx with
  | [a, a1, a2], _, hx =>
    have hva := hx 0 _ _ rfl rfl
    have ha1 := VR.int (hx 1 _ _ rfl rfl)
    have ha2 := VR.int (hx 2 _ _ rfl rfl)
    subst ha1 ha2
    obtain ⟨_, ⟨h0, rfl⟩ | ⟨i, h1, h2, rfl, hr⟩⟩ := hv
    · omega
    · obtain ⟨hi1, a', c', rfl, hc, ⟨rfl, hb, hmx⟩ | ⟨_, h⟩⟩ := hva.slu
      · obtain ⟨hbase, cs, hcs, hL1⟩ := R.rwr i _ hr rfl
        have hL2 : L1 ρ H.next w (ints y) (cs.toList.take y.length) := by simpa [za2] using hL1
        have ht : cs.toList.take y.length = y.map (Value.int .i64) := by
          have e : cs.toList.take y.length = ints y := by
            apply List.ext_getElem?
            intro j
            by_cases hj : j < (ints y).length
            · obtain ⟨z, hz, hv1⟩ := hL2.get (ints_get? y j (by rwa [za2] at hj))
              rw [hz, ints_get? y j (by rwa [za2] at hj), VR.int (.one hv1)]
            · rw [List.getElem?_eq_none (l := ints y) (by omega), List.getElem?_eq_none (by have := hL2.1; omega)]
          exact e
        have hH : Holds (Value.int .i64) w (ρ i) 0 y.toArray := holds_of_blockI hcs ht
        have hbs : cs.size = c' := by have := hb; simp [bsz, hcs] at this; omega
        refine (AnyG.slices_Delete_int deleteLy (ρ i) 0 c' k (k + 1) y w hH hc hmx (by omega) (by omega)).mono ?_
        rintro e w' ⟨rfl, q, hw'⟩
        obtain ⟨d, hd⟩ : ∃ d, d = y.take k ++ y.drop (k + 1) ++ List.replicate (k + 1 - k) 0 := ⟨_, rfl⟩
        have hed : y.eraseIdx k = y.take k ++ y.drop (k + 1) := List.eraseIdx_eq_take_drop_succ ..
        have hel : (y.eraseIdx k).length = y.length - 1 := List.length_eraseIdx_of_lt hk
        have hd2 : d = y.eraseIdx k ++ [0] := by rw [hd, hed, show k + 1 - k = 1 by omega]; rfl
        have hdl : d.length = y.length := by rw [hd2, List.length_append, hel]; simp; omega
        rw [← hd] at hw'
        have hw2 : w' = grow (putRow (Value.int .i64) (Sort.ahead w q) (ρ i) 0 d.toArray) #[] := by rw [hw', grow_empty]
        have hg : w.grownBy w' (some (ρ i)) := by rw [hw2]; exact grownBy_sortedI _
        have h1' := heap_sortedI (n := q) (os := #[]) d.toArray hcs
        rw [← hw2] at h1'
        have htd := take_putCellsI cs d (by omega)
        have hx2 : L1 ρ H.next w (ints (y.eraseIdx k)) ((putCells (Value.int .i64) 0 d.toArray cs).toList.take (ints (y.eraseIdx k)).length) := by
          have e : (putCells (Value.int .i64) 0 d.toArray cs).toList.take (ints (y.eraseIdx k)).length = ints (y.eraseIdx k) := by
            have e2 : ((putCells (Value.int .i64) 0 d.toArray cs).toList.take d.length).take (ints (y.eraseIdx k)).length = ints (y.eraseIdx k) := by
              rw [htd, hd2, za2]
              simp [ints]
            rw [List.take_take, za2, Nat.min_eq_left (by omega)] at e2
            rw [za2]; exact e2
          rw [e]
          exact L1.self fun v hv => by obtain ⟨z, _, rfl⟩ := List.mem_map.1 hv; rfl
        obtain ⟨R', E⟩ := R.turned hr rfl hg hcs h1' (by simp [putCells]) hx2
        refine ⟨_, .slice (some ⟨i, 0, some 1⟩) (y.eraseIdx k).length (y.eraseIdx k).length, H.setCells i (ints (y.eraseIdx k)), ρ, rfl, ⟨rfl, fun j hj => by rw [AH.setCells_row, if_neg (by rintro rfl; exact hj ⟨h1, h2⟩)], ⟨(Nat.mul_one _).symm, .inr ⟨i, h1, h2, rfl, by rw [AH.setCells_row, if_pos rfl, hr]; rfl⟩⟩⟩, R', ?_, E⟩
        rw [show y.length - (k + 1 - k) = (y.eraseIdx k).length by omega]
        refine .one (.slu _ _ _ _ _ _ _ hi1 (by omega) (.inl ⟨rfl, ?_, hmx⟩))
        exact E.st _ _ hb
      · exact absurd h (by omega)
end Go.Proofs.YtpienljnoaendaaGreat.A
end

section
set_option maxRecDepth 100000
set_option maxHeartbeats 2000000
namespace Go.Proofs.YtpienljnoaendaaGreat.A
open Go Go.Abs Go.RowKit
structure OwR (b0 oi : Nat) (H : AH) (ow : List (List Int)) (vs : List Value) (q : Nat → Nat) : Prop where
  row : H.row oi = some ⟨33, true, vs⟩
  len : vs.length = ow.length
  at_ : ∀ g, g < ow.length → (vs[g]? = some (.slice none 0 0) ∧ ow.getD g [] = []) ∨ (ow.getD g [] ≠ [] ∧ vs[g]? = some (.slice (some ⟨q g, 0, some 1⟩) (ow.getD g []).length (ow.getD g []).length) ∧ b0 ≤ q g ∧ q g < H.next ∧ H.row (q g) = some ⟨2, true, ints (ow.getD g [])⟩)
  inj : ∀ g g', g < ow.length → g' < ow.length → ow.getD g [] ≠ [] → ow.getD g' [] ≠ [] → q g = q g' → g = g'
theorem OwR.fr {b0 oi : Nat} {H : AH} {ow : List (List Int)} {vs : List Value} {q : Nat → Nat} (h : OwR b0 oi H ow vs q) (hb : b0 ≤ H.next) {g : Nat} (hg : g < ow.length) :
    ∃ x lo hi, vs[g]? = some x ∧ Fr 1 2 lo hi H x (ow.getD g []).length (ow.getD g []) ∧ b0 ≤ lo ∧ lo ≤ hi ∧ hi ≤ H.next ∧ x.oneCell' = true ∧ (∀ j, lo ≤ j → j < hi → j = q g ∧ ow.getD g [] ≠ [] ∧ ∃ l, H.row j = some ⟨2, true, l⟩) ∧ ∀ z, z < ow.length → z ≠ g → ow.getD z [] ≠ [] → ¬ (lo ≤ q z ∧ q z < hi) := by
  rcases h.at_ g hg with ⟨h1, h2⟩ | ⟨h1, h2, h3, h4, h5⟩
  · exact ⟨_, H.next, H.next, h1, by rw [h2]; exact ⟨rfl, .inl ⟨rfl, rfl⟩⟩, hb, Nat.le_refl _, Nat.le_refl _, rfl, fun j _ _ => by omega, fun z _ _ _ => by omega⟩
  · refine ⟨_, q g, q g + 1, h2, ⟨(Nat.mul_one _).symm, .inr ⟨q g, Nat.le_refl _, Nat.lt_succ_self _, rfl, h5⟩⟩, h3, by omega, h4, rfl, fun j _ _ => ?_, fun z hz hzg hzn hh => ?_⟩
    · obtain rfl : j = q g := by omega
      exact ⟨rfl, h1, _, h5⟩
    exact hzg (h.inj z g hz hg hzn h1 (by omega))
theorem OwR.upd {b0 oi : Nat} {H H' : AH} {ow : List (List Int)} {vs : List Value} {q : Nat → Nat} (h : OwR b0 oi H ow vs q) {g p : Nat} {l : List Int} (hg : g < ow.length) (hn : H.next ≤ H'.next)
    (hr : H'.row oi = some ⟨33, true, vs.set g (.slice (some ⟨p, 0, some 1⟩) l.length l.length)⟩) (hp : (p = q g ∧ ow.getD g [] ≠ []) ∨ H.next ≤ p) (hp0 : b0 ≤ p) (hp1 : p < H'.next) (hpr : H'.row p = some ⟨2, true, ints l⟩) (hl : l ≠ [])
    (hz : ∀ z, z < ow.length → z ≠ g → ow.getD z [] ≠ [] → H'.row (q z) = H.row (q z)) :
    OwR b0 oi H' (ow.set g l) (vs.set g (.slice (some ⟨p, 0, some 1⟩) l.length l.length)) (fun z => if z = g then p else q z) := by
  have hlen := h.len
  have e1 : (ow.set g l).getD g [] = l := zbG _ _ _ _ hg
  have e2 : ∀ z, z ≠ g → (ow.set g l).getD z [] = ow.getD z [] := fun z hz => zb7 _ _ _ _ _ (Ne.symm hz)
  have old : ∀ z, z < ow.length → ow.getD z [] ≠ [] → q z < H.next := fun z hz hne => by
    rcases h.at_ z hz with ⟨_, k⟩ | ⟨_, _, _, k, _⟩
    · exact absurd k hne
    · exact k
  refine ⟨hr, by simp [hlen], fun z hzl => ?_, fun a a' ha ha' hn1 hn2 he => ?_⟩
  · rw [List.length_set] at hzl
    by_cases e : z = g
    · subst e
      refine .inr ?_
      rw [e1, if_pos rfl]
      exact ⟨hl, by rw [List.getElem?_set_self (by omega)], hp0, hp1, hpr⟩
    · rw [e2 z e, if_neg e, List.getElem?_set_ne (Ne.symm e)]
      rcases h.at_ z hzl with k | ⟨k1, k2, k3, k4, k5⟩
      · exact .inl k
      · exact .inr ⟨k1, k2, k3, by omega, by rw [hz z hzl e k1]; exact k5⟩
  · rw [List.length_set] at ha ha'
    by_cases ea : a = g
    · by_cases eb : a' = g
      · rw [ea, eb]
      · rw [if_pos ea, if_neg eb] at he
        rw [e2 a' eb] at hn2
        rcases hp with ⟨k, k2⟩ | k
        · have := h.inj g a' hg ha' k2 hn2 (by omega)
          exact absurd this.symm eb
        · have := old a' ha' hn2; omega
    · by_cases eb : a' = g
      · rw [if_neg ea, if_pos eb] at he
        rw [e2 a ea] at hn1
        rcases hp with ⟨k, k2⟩ | k
        · have := h.inj a g ha hg hn1 k2 (by omega)
          exact absurd this ea
        · have := old a ha hn1; omega
      · rw [if_neg ea, if_neg eb] at he
        rw [e2 a ea] at hn1
        rw [e2 a' eb] at hn2
        exact h.inj a a' ha ha' hn1 hn2 he
theorem OwR.keep {b0 oi : Nat} {H H' : AH} {ow : List (List Int)} {vs : List Value} {q : Nat → Nat} (h : OwR b0 oi H ow vs q) (hn : H.next ≤ H'.next) (hs : ∀ j r, H.row j = some r → (r.ty = 33 ∧ j = oi) ∨ (r.ty = 2 ∧ b0 ≤ j) → H'.row j = some r) : OwR b0 oi H' ow vs q := by
  refine ⟨hs _ _ h.row (.inl ⟨rfl, rfl⟩), h.len, fun g hg => ?_, h.inj⟩
  rcases h.at_ g hg with k | ⟨k1, k2, k3, k4, k5⟩
  · exact .inl k
  · exact .inr ⟨k1, k2, k3, by omega, hs _ _ k5 (.inr ⟨rfl, k3⟩)⟩
structure StH (b0 ri oi me : Nat) (B : AH) (s : HS) (H : AH) : Prop where
  rm : H.row ri = some ⟨2, true, ints s.rm⟩
  mt : H.row me = some ⟨4, true, bools s.mt⟩
  ow : ∃ vs q, OwR b0 oi H s.ow vs q
  fix : ∀ j, j < b0 → j ≠ ri → j ≠ oi → H.row j = B.row j
  nxt : b0 ≤ H.next
  sc : Sc H
theorem StH.put {b0 ri oi me : Nat} {B H H4 : AH} {s : HS} {vs : List Value} {q : Nat → Nat} {g lo hi p : Nat} {l : List Int} (hS : StH b0 ri oi me B s H) (hO : OwR b0 oi H s.ow vs q) (hg : g < s.ow.length) (hb : ri < b0 ∧ oi < b0 ∧ ri ≠ oi ∧ b0 ≤ me) (hlo : b0 ≤ lo)
    (hj : ∀ j, lo ≤ j → j < hi → j = q g ∧ s.ow.getD g [] ≠ [] ∧ ∃ l, H.row j = some ⟨2, true, l⟩) (hz : ∀ z, z < s.ow.length → z ≠ g → s.ow.getD z [] ≠ [] → ¬ (lo ≤ q z ∧ q z < hi))
    (n4 : H.next ≤ H4.next) (s4 : ∀ j, j < H.next → ¬ (lo ≤ j ∧ j < hi) → H4.row j = H.row j) (sc4 : Sc H4) (hp : (p = q g ∧ s.ow.getD g [] ≠ []) ∨ H.next ≤ p) (hp0 : b0 ≤ p) (hp1 : p < H4.next) (hpr : H4.row p = some ⟨2, true, ints l⟩) (hl : l ≠ []) :
    StH b0 ri oi me B ⟨s.ow.set g l, s.rm, s.mt⟩ (H4.setCells oi (vs.set g (.slice (some ⟨p, 0, some 1⟩) l.length l.length))) := by
  obtain ⟨b1, b2, b3, b4⟩ := hb
  have nx := hS.nxt
  have hmn : me < H.next := hS.sc _ _ hS.mt
  have hno : ∀ j, j < H.next → j < b0 → H4.row j = H.row j := fun j h1 h2 => s4 j h1 (by omega)
  have hml : ¬ (lo ≤ me ∧ me < hi) := fun ⟨h1, h2⟩ => by
    obtain ⟨_, _, l, h3⟩ := hj me h1 h2
    rw [hS.mt] at h3; cases h3
  refine ⟨?_, ?_, ⟨_, _, OwR.upd hO hg n4 ?_ hp hp0 hp1 ?_ hl fun z hzl hzg hzn => ?_⟩, fun j j1 j2 j3 => ?_, Nat.le_trans nx n4, sc4.set _ _⟩
  · rw [AH.setCells_row, if_neg b3, hno _ (by omega) b1]; exact hS.rm
  · rw [AH.setCells_row, if_neg (by omega), s4 _ hmn hml]; exact hS.mt
  · rw [AH.setCells_row, if_pos rfl, hno _ (by omega) b2, hO.row]; rfl
  · rw [AH.setCells_row, if_neg (by omega)]; exact hpr
  · have hzr := hO.at_ z hzl
    rcases hzr with ⟨_, k⟩ | ⟨_, _, k1, k2, _⟩
    · exact absurd k hzn
    · rw [AH.setCells_row, if_neg (by omega), s4 _ k2 (hz z hzl hzg hzn)]
  · rw [AH.setCells_row, if_neg j3, hno _ (by omega) j1]
    exact hS.fix j j1 j2 j3
def GmR (b0 ri oi G : Nat) (tm : Nat → Nat → Nat) (B : AH) (gm : Value) : Prop :=
  ∃ gi vs, gm = .slice (some ⟨gi, 0, some 1⟩) G G ∧ gi < b0 ∧ gi ≠ ri ∧ gi ≠ oi ∧ B.row gi = some ⟨33, true, vs⟩ ∧ ∀ j, j < G → ∃ q, q < b0 ∧ q ≠ ri ∧ q ≠ oi ∧ vs[j]? = some (.slice (some ⟨q, 0, some 1⟩) 2 2) ∧ B.row q = some ⟨2, true, ints [(tm j 0 : Int), (tm j 1 : Int)]⟩
theorem idx_mem {l : List Int} {x : Int} (h : x ∈ l) : firstI (fun i => l.getD i 0 == x) l.length = (l.idxOf x : Nat) := by
  have hlt := List.idxOf_lt_length_iff.2 h
  refine zeB hlt ?_ fun j hj => ?_
  · rw [List.getD_eq_getElem?_getD, List.getElem?_eq_getElem hlt]
    simp
  · have hjl : j < l.length := by omega
    rw [List.getD_eq_getElem?_getD, List.getElem?_eq_getElem hjl, beq_eq_false_iff_ne]
    intro e
    have h2 : l.findIdx (· == x) = l.idxOf x := rfl
    have := List.not_of_lt_findIdx (p := (· == x)) (xs := l) (i := j) (by rw [h2]; exact hj)
    simp only [Option.getD_some] at e
    rw [e] at this
    simp at this
theorem idx_not {l : List Int} {x : Int} (h : ¬ x ∈ l) : firstI (fun i => l.getD i 0 == x) l.length = -1 := by
  refine zd4 fun j hj => ?_
  rw [List.getD_eq_getElem?_getD, List.getElem?_eq_getElem hj, beq_eq_false_iff_ne]
  intro e
  exact h (e ▸ List.getElem_mem hj)
theorem hive_c (n G : Nat) (hnG : n ≤ 1024 ∧ G ≤ 65536) (tm : Nat → Nat → Nat) (htm : ∀ j k, tm j k < n) (gm : Value) (le rc oc gc ri oi b0 : Nat) (hne : ri ≠ oi) (hlt : ri < b0 ∧ oi < b0 ∧ le < b0 ∧ rc < b0 ∧ oc < b0 ∧ gc < b0)
    (hc1 : le ≠ ri ∧ rc ≠ ri ∧ oc ≠ ri ∧ gc ≠ ri) (hc2 : le ≠ oi ∧ rc ≠ oi ∧ oc ≠ oi ∧ gc ≠ oi) (B : AH)
    (hle : B.row le = some ⟨30, true, [gm]⟩) (hrc : B.row rc = some ⟨33, true, [.slice (some ⟨ri, 0, some 1⟩) n n]⟩) (hoc : B.row oc = some ⟨30, true, [.slice (some ⟨oi, 0, some 1⟩) G G]⟩)
    (hgc : B.row gc = some ⟨199, true, [.func (.func 271) #[] #[.pointer (some ⟨le, 0, none⟩), .pointer (some ⟨rc, 0, none⟩), .pointer (some ⟨oc, 0, none⟩), .pointer (some ⟨gc, 0, none⟩)]]⟩)
    (hgm : GmR b0 ri oi G tm B gm) :
    ∀ (f : Nat) (s : HS) (i me : Nat) (H : AH), HOk n G s → (∀ g, (s.ow.getD g []).length ≤ 2) → (∀ c, s.rm.getD c 0 ≤ 4294967296) → i < G → unm s.mt < f → StH b0 ri oi me B s H → b0 ≤ me →
      ACalls Tryz.prog 271 [.int .i64 i, .slice (some ⟨me, 0, some 1⟩) n n, .pointer (some ⟨le, 0, none⟩), .pointer (some ⟨rc, 0, none⟩), .pointer (some ⟨oc, 0, none⟩), .pointer (some ⟨gc, 0, none⟩)] H (fun r H' => r = .bool (hiveF tm G f s i).1 ∧ StH b0 ri oi me B (hiveF tm G f s i).2 H' ∧ H.next ≤ H'.next) := by
  obtain ⟨gi, gvs, rfl, gi0, gi1, gi2, gir, gat⟩ := hgm
  intro f
  induction f with
  | zero => intro s i me H _ _ _ _ h; omega
  | succ f ih =>
    intro s i me H hok hlen hru hi hun hS hme
    refine ACalls.wf (by kernel_rfl) fun hs => za3 [.tmp 8] Tryz.func271 (by kernel_rfl) rfl rfl (Nat.le_of_ble_eq_true rfl) (by kernel_rfl) ?_
    have hF : hiveF tm G (f + 1) s i = hiveK (hiveF tm G f) tm G i (List.range' 0 2) s := rfl
    rw [hF]
    obtain ⟨l1, l2, l3, l4, l5, l6⟩ := hlt
    obtain ⟨c1, c2, c3, c4⟩ := hc1
    obtain ⟨d1, d2, d3, d4⟩ := hc2
    obtain ⟨yq, yq0, yq1, yq2, yq3, yq4⟩ := gat i hi
    have fx : ∀ {s' : HS} {H' : AH}, StH b0 ri oi me B s' H' → H'.row le = some ⟨30, true, [.slice (some ⟨gi, 0, some 1⟩) G G]⟩ ∧ H'.row rc = some ⟨33, true, [.slice (some ⟨ri, 0, some 1⟩) n n]⟩ ∧ H'.row oc = some ⟨30, true, [.slice (some ⟨oi, 0, some 1⟩) G G]⟩ ∧
        H'.row gc = some ⟨199, true, [.func (.func 271) #[] #[.pointer (some ⟨le, 0, none⟩), .pointer (some ⟨rc, 0, none⟩), .pointer (some ⟨oc, 0, none⟩), .pointer (some ⟨gc, 0, none⟩)]]⟩ ∧ H'.row gi = some ⟨33, true, gvs⟩ ∧ H'.row yq = some ⟨2, true, ints [(tm i 0 : Int), (tm i 1 : Int)]⟩ := fun h =>
      ⟨by rw [h.fix _ l3 c1 d1, hle], by rw [h.fix _ l4 c2 d2, hrc], by rw [h.fix _ l5 c3 d3, hoc], by rw [h.fix _ l6 c4 d4, hgc], by rw [h.fix _ gi0 gi1 gi2, gir], by rw [h.fix _ yq0 yq1 yq2, yq4]⟩
    obtain ⟨f1, f2, f3, f4, f5, f6⟩ := fx hS
    try simp (disch := first | omega | (simp only [L3] <;> omega)) only [Sall,evalOp,init,binA_s,binE,binI,unE,convE,okNil,builtE,gv,TD.isAgg,resV,↓reduceIte,Nat.reduceEqDiff,reduceCtorEq,Nat.reduceAdd,Nat.reduceMul,Nat.reduceLeDiff,za0,za1,Int.reduceEq,Int.reduceLT,Int.reduceLE,Nat.reduceLT,tiA, f1, f5, yq3]
    refine ⟨by omega, ?_⟩
    refine za7 (fun m t H' => ∃ (k : Nat) (mt : List Bool), m = 2 - k ∧ k ≤ 2 ∧ t 19 = .int .i64 k ∧ t 18 = .int .i64 2 ∧ t 17 = .slice (some ⟨yq, 0, some 1⟩) 2 2 ∧ t 0 = .int .i64 i ∧ t 1 = .slice (some ⟨me, 0, some 1⟩) n n ∧ t 2 = .pointer (some ⟨le, 0, none⟩) ∧ t 3 = .pointer (some ⟨rc, 0, none⟩) ∧ t 4 = .pointer (some ⟨oc, 0, none⟩) ∧ t 5 = .pointer (some ⟨gc, 0, none⟩) ∧
      hiveK (hiveF tm G f) tm G i (List.range' 0 2) s = hiveK (hiveF tm G f) tm G i (List.range' k (2 - k)) ⟨s.ow, s.rm, mt⟩ ∧ mt.length = n ∧ unm mt < f + 1 ∧ StH b0 ri oi me B ⟨s.ow, s.rm, mt⟩ H' ∧ H.next ≤ H'.next) 2 ?_ ?_
    · refine ⟨0, s.mt, by omega, by omega, ?_⟩
      try simp (disch := first | omega | (simp only [L3] <;> omega)) only [Sall,evalOp,init,binA_s,binE,binI,unE,convE,okNil,builtE,gv,TD.isAgg,resV,↓reduceIte,Nat.reduceEqDiff,reduceCtorEq,Nat.reduceAdd,Nat.reduceMul,Nat.reduceLeDiff,za0,za1,Int.reduceEq,Int.reduceLT,Int.reduceLE,Nat.reduceLT,tiA, Int.natCast_zero]
      exact ⟨rfl, hok.ml, hun, hS⟩
    · rintro m t H' ⟨k, mt, hm, hk, h19, h18, h17, h0, h1, h2, h3, h4, h5, hEq, hml, hun', hS', hnx⟩
      rw [hEq]
      clear f1 f2 f3 f4 f5 f6
      obtain ⟨f1, f2, f3, f4, f5, f6⟩ := fx hS'
      try simp (disch := first | omega | (simp only [L3] <;> omega)) only [Sall,evalOp,init,binA_s,binE,binI,unE,convE,okNil,builtE,gv,TD.isAgg,resV,↓reduceIte,Nat.reduceEqDiff,reduceCtorEq,Nat.reduceAdd,Nat.reduceMul,Nat.reduceLeDiff,za0,za1,Int.reduceEq,Int.reduceLT,Int.reduceLE,Nat.reduceLT,tiA, h19, h18]
      refine za6 (fun h => ?_) (fun h => ?_)
      · rw [show 2 - k = (2 - (k + 1)) + 1 by omega, List.range'_succ]
        obtain ⟨b, hbd⟩ : ∃ b, b = tm i k := ⟨_, rfl⟩
        have hbn : b < n := by rw [hbd]; exact htm i k
        have hstep : hiveK (hiveF tm G f) tm G i (k :: List.range' (k + 1) (2 - (k + 1))) ⟨s.ow, s.rm, mt⟩ = (if mt.getD b false = true then hiveK (hiveF tm G f) tm G i (List.range' (k + 1) (2 - (k + 1))) ⟨s.ow, s.rm, mt⟩
          else if 0 < s.rm.getD b 0 then (true, ⟨s.ow.set i (s.ow.getD i [] ++ [(b : Int)]), s.rm.set b (s.rm.getD b 0 - 1), mt.set b true⟩)
          else if (hiveJ (hiveF tm G f) b i (List.range G) ⟨s.ow, s.rm, mt.set b true⟩).1 = true then hiveJ (hiveF tm G f) b i (List.range G) ⟨s.ow, s.rm, mt.set b true⟩
          else hiveK (hiveF tm G f) tm G i (List.range' (k + 1) (2 - (k + 1))) (hiveJ (hiveF tm G f) b i (List.range G) ⟨s.ow, s.rm, mt.set b true⟩).2) := by rw [hbd]; rfl
        rw [hstep]
        have g1 : (ints [(tm i 0 : Int), (tm i 1 : Int)])[k]? = some (.int .i64 b) := by
          have : k = 0 ∨ k = 1 := by omega
          rcases this with rfl | rfl <;> rw [hbd] <;> rfl
        have hbm : b < mt.length := by rw [hml]; exact hbn
        have m1 := bools_get? mt b hbm
        have hbs : (bools mt).set b (.bool true) = bools (mt.set b true) := bools_set _ _ _
        have s3 := hS'.mt
        dsimp only at s3
        obtain hmt | hmt : mt.getD b false = true ∨ mt.getD b false = false := by cases mt.getD b false <;> simp
        · rw [hmt] at m1
          rw [if_pos hmt]
          try simp (disch := first | omega | (simp only [L3] <;> omega)) only [Sall,evalOp,init,binA_s,binE,binI,unE,convE,okNil,builtE,gv,TD.isAgg,resV,↓reduceIte,Nat.reduceEqDiff,reduceCtorEq,Nat.reduceAdd,Nat.reduceMul,Nat.reduceLeDiff,za0,za1,Int.reduceEq,Int.reduceLT,Int.reduceLE,Nat.reduceLT,tiA, h19, h18, h17, h0, h1, h2, h3, h4, h5, f6, g1, s3, m1, w64]
          (repeat refine And.intro (by omega) ?_)
          exact ⟨2 - (k + 1), by omega, k + 1, mt, rfl, by omega, by omega, rfl, hml, hun', hS', hnx⟩
        · rw [hmt] at m1
          rw [if_neg (by rw [hmt]; simp)]
          have s1 := hS'.rm
          dsimp only at s1
          have q1 := ints_get? s.rm b (by rw [hok.rl]; exact hbn)
          have hru' := hru b
          have lrl := hok.rl
          have lol := hok.ol
          have nrm : ¬ ri = me := fun e => by subst e; rw [s1] at s3; cases s3
          have nom : ¬ oi = me := fun e => by
            subst e
            obtain ⟨vs, q, hO⟩ := hS'.ow
            have := hO.row
            rw [s3] at this; cases this
          have ncm : ¬ rc = me := by omega
          try simp (disch := first | omega | (simp only [L3] <;> omega)) only [Sall,evalOp,init,binA_s,binE,binI,unE,convE,okNil,builtE,gv,TD.isAgg,resV,↓reduceIte,Nat.reduceEqDiff,reduceCtorEq,Nat.reduceAdd,Nat.reduceMul,Nat.reduceLeDiff,za0,za1,Int.reduceEq,Int.reduceLT,Int.reduceLE,Nat.reduceLT,tiA, h19, h18, h17, h0, h1, h2, h3, h4, h5, f6, g1, s3, m1, hbs, zcS, hml, f2, ncm, nrm, s1, q1]
          (repeat refine And.intro (by omega) ?_)
          obtain ⟨H1, hH1⟩ : ∃ H1, H1 = H'.setCells me (bools (mt.set b true)) := ⟨_, rfl⟩
          have hS1 : StH b0 ri oi me B ⟨s.ow, s.rm, mt.set b true⟩ H1 := by
            obtain ⟨vs, q, hO⟩ := hS'.ow
            refine ⟨?_, ?_, ⟨vs, q, hO.keep (by rw [hH1]; exact Nat.le_refl _) fun j r hr ht => ?_⟩, fun j j1 j2 j3 => ?_, by rw [hH1]; exact hS'.nxt, by rw [hH1]; exact hS'.sc.set _ _⟩
            · rw [hH1, AH.setCells_row, if_neg nrm]; exact s1
            · rw [hH1, AH.setCells_row, if_pos rfl, s3]; rfl
            · rw [hH1, AH.setCells_row, if_neg (fun e => by subst e; rw [s3] at hr; cases hr; rcases ht with ⟨h, _⟩ | ⟨h, _⟩ <;> cases h)]; exact hr
            · rw [hH1, AH.setCells_row, if_neg ?_]
              · exact hS'.fix j j1 j2 j3
              · omega
          have hn1 : H1.next = H'.next := by rw [hH1]; rfl
          rw [← hH1]
          clear hH1
          obtain ⟨f1, f2, f3, f4, f5, f6⟩ := fx hS1
          by_cases hr : 0 < s.rm.getD b 0
          · rw [if_pos hr]
            have t1 := hS1.rm
            try simp (disch := first | omega | (simp only [L3] <;> omega)) only [Sall,evalOp,init,binA_s,binE,binI,unE,convE,okNil,builtE,gv,TD.isAgg,resV,↓reduceIte,Nat.reduceEqDiff,reduceCtorEq,Nat.reduceAdd,Nat.reduceMul,Nat.reduceLeDiff,za0,za1,Int.reduceEq,Int.reduceLT,Int.reduceLE,Nat.reduceLT,tiA, h19, h18, h17, h0, h1, h2, h3, h4, h5, f2, t1, q1, hr, decide_true, zaH, lrl, w64]
            (repeat refine And.intro (by omega) ?_)
            obtain ⟨H2, hH2⟩ : ∃ H2, H2 = H1.setCells ri (ints (s.rm.set b (s.rm.getD b 0 - 1))) := ⟨_, rfl⟩
            have hS2 : StH b0 ri oi me B ⟨s.ow, s.rm.set b (s.rm.getD b 0 - 1), mt.set b true⟩ H2 := by
              obtain ⟨vs, q, hO⟩ := hS1.ow
              refine ⟨?_, ?_, ⟨vs, q, hO.keep (by rw [hH2]; exact Nat.le_refl _) fun j r hr ht => ?_⟩, fun j j1 j2 j3 => ?_, by rw [hH2]; exact hS1.nxt, by rw [hH2]; exact hS1.sc.set _ _⟩
              · rw [hH2, AH.setCells_row, if_pos rfl, t1]; rfl
              · rw [hH2, AH.setCells_row, if_neg (fun e => nrm e.symm)]; exact hS1.mt
              · rw [hH2, AH.setCells_row, if_neg (by rintro rfl; rcases ht with ⟨_, h⟩ | ⟨_, h⟩ <;> omega)]; exact hr
              · rw [hH2, AH.setCells_row, if_neg j2]
                exact hS1.fix j j1 j2 j3
            have hn2 : H2.next = H1.next := by rw [hH2]; rfl
            rw [← hH2]
            clear hH2
            have nx2 := hS2.nxt
            clear f1 f2 f3 f4 f5 f6
            obtain ⟨f1, f2, f3, f4, f5, f6⟩ := fx hS2
            obtain ⟨vs, q, hO⟩ := hS2.ow
            have sc2 := hS2.sc
            obtain ⟨x, lo, hi', x1, x2, x3, x4, x5, x6, x7, x8⟩ := hO.fr hS2.nxt (g := i) (show i < s.ow.length by omega)
            dsimp only at x1 x2 x7 x8
            have o1 := hO.row
            have lvs : vs.length = G := by rw [hO.len]; exact lol
            have zz : zeros 1 [.int .i64 0] = [.int .i64 0] := rfl
            refine zc9 (fun j => j < b0) [0, 1, 2, 3, 4, 5, 6, 7, 8, 9, 10] (by kernel_rfl) (by kernel_rfl) (by kernel_rfl) ?_
            have oc1 : ∀ (ty : TypeId) (r : List Value), Go.Abs.Row.ok (Go.Abs.Row.mk ty true r) [x] = True := fun ty r => eq_true (.inl rfl)
            have ne8 : ¬ oi = H2.next := by omega
            have ne9 : ¬ oc = H2.next := by omega
            try simp (disch := first | omega | (simp only [L3] <;> omega)) only [Sall,evalOp,init,binA_s,binE,binI,unE,convE,okNil,builtE,gv,TD.isAgg,resV,↓reduceIte,Nat.reduceEqDiff,reduceCtorEq,Nat.reduceAdd,Nat.reduceMul,Nat.reduceLeDiff,za0,za1,Int.reduceEq,Int.reduceLT,Int.reduceLE,Nat.reduceLT,tiA, zaM, zaG, za8, loadOk, h0, h4, f3, o1, x1, zz, zaO, ne8, ne9, oc1]
            (repeat refine And.intro (by omega) ?_)
            refine ⟨.inr (.inr (LE.les (((Up.refl _ H2).push (Nat.le_refl _) _).le sc2))), ?_⟩
            obtain ⟨H3, e3⟩ : ∃ H3, H3 = H2.push ⟨2, true, [.int .i64 b]⟩ := ⟨_, rfl⟩
            have n3 : H3.next = H2.next + 1 := by rw [e3]; rfl
            have r3 : ∀ j, j < H2.next → H3.row j = H2.row j := fun j hj => by rw [e3, AH.push_row, if_neg (by omega)]
            have sc3 : Sc H3 := by rw [e3]; exact sc2.push _
            rw [← e3]
            clear e3
            refine zeQ (k := 1) (lo := lo) (hi := hi') (l := s.ow.getD i []) (m := [(b : Int)]) (x2.same fun j _ hj => r3 j (by omega)) rfl (by omega) rfl (by omega) (by decide) (by have := hlen i; omega) (by omega) sc3 ?_
            intro v' H4 n4 s4 sc4 f4'
            refine ⟨.inr (.inr ⟨by omega, fun j r hj hr => by rw [s4 j (by omega) (sc3 j r hr)]; exact hr⟩), ?_⟩
            have o4 : H4.row oi = some ⟨33, true, vs⟩ := by rw [s4 oi (by omega) (by omega), r3 oi (by omega), o1]
            have f4o := f4'.rd.one
            try simp (disch := first | omega | (simp only [L3] <;> omega)) only [Sall,evalOp,init,binA_s,binE,binI,unE,convE,okNil,builtE,gv,TD.isAgg,resV,↓reduceIte,Nat.reduceEqDiff,reduceCtorEq,Nat.reduceAdd,Nat.reduceMul,Nat.reduceLeDiff,za0,za1,Int.reduceEq,Int.reduceLT,Int.reduceLE,Nat.reduceLT,tiA, zaM, zaG, za8, loadOk, h0, h4, f3, o4, lvs, f4o]
            obtain ⟨p, p1, p2, rfl, p4⟩ := f4'.get (by omega)
            have hpe : p = H3.next := by omega
            subst hpe
            refine ⟨by omega, by omega, .inr (.inl (by kernel_rfl)), ?_, by omega⟩
            have K := hS2.put hO (g := i) (show i < s.ow.length by omega) ⟨l1, l2, hne, hme⟩ x3 x7 x8 (by omega) (fun j j1 j2 => by rw [s4 j j2 (by omega), r3 j j1]) sc4 (.inr (by omega)) (by omega) (by omega) p4 (by simp)
            rw [List.length_append] at K
            exact K
          · rw [if_neg hr]
            have t1 := hS1.rm
            have o1' := hS1.ow
            try simp (disch := first | omega | (simp only [L3] <;> omega)) only [Sall,evalOp,init,binA_s,binE,binI,unE,convE,okNil,builtE,gv,TD.isAgg,resV,↓reduceIte,Nat.reduceEqDiff,reduceCtorEq,Nat.reduceAdd,Nat.reduceMul,Nat.reduceLeDiff,za0,za1,Int.reduceEq,Int.reduceLT,Int.reduceLE,Nat.reduceLT,tiA, h19, h18, h17, h0, h1, h2, h3, h4, h5, f2, t1, q1, hr, decide_false, zaH, lrl, f3, w64]
            (repeat refine And.intro (by omega) ?_)
            have hok1 : HOk n G ⟨s.ow, s.rm, mt.set b true⟩ := ⟨lol, lrl, by simp [hml], hok.er, hok.rr⟩
            have hun1 : unm (mt.set b true) < f := by have := unm_set hbm hmt; omega
            have hmb1 : (mt.set b true).getD b false = true := zbG _ _ _ _ hbm
            have hml1 : (mt.set b true).length = n := by simp [hml]
            revert hS1 hok1 hun1 hmb1 hml1
            generalize mt.set b true = mt1
            intro hS1 hok1 hun1 hmb1 hml1
            have hrange : List.range G = List.range' 0 G := List.range_eq_range'
            rw [hrange]
            refine za7 (fun m t H2 => ∃ (g : Nat) (mt2 : List Bool), m = G - g ∧ g ≤ G ∧ t 53 = .int .i64 g ∧ t 52 = .int .i64 G ∧ t 51 = .slice (some ⟨oi, 0, some 1⟩) G G ∧ t 10 = .int .i64 b ∧ t 19 = .int .i64 k ∧ t 18 = .int .i64 2 ∧ t 17 = .slice (some ⟨yq, 0, some 1⟩) 2 2 ∧ t 0 = .int .i64 i ∧ t 1 = .slice (some ⟨me, 0, some 1⟩) n n ∧ t 2 = .pointer (some ⟨le, 0, none⟩) ∧ t 3 = .pointer (some ⟨rc, 0, none⟩) ∧ t 4 = .pointer (some ⟨oc, 0, none⟩) ∧ t 5 = .pointer (some ⟨gc, 0, none⟩) ∧
              hiveJ (hiveF tm G f) b i (List.range' 0 G) ⟨s.ow, s.rm, mt1⟩ = hiveJ (hiveF tm G f) b i (List.range' g (G - g)) ⟨s.ow, s.rm, mt2⟩ ∧ mt2.length = n ∧ unm mt2 < f ∧ mt2.getD b false = true ∧ StH b0 ri oi me B ⟨s.ow, s.rm, mt2⟩ H2 ∧ H.next ≤ H2.next) G ?_ ?_
            · refine ⟨0, mt1, by omega, by omega, ?_⟩
              try simp (disch := first | omega | (simp only [L3] <;> omega)) only [Sall,evalOp,init,binA_s,binE,binI,unE,convE,okNil,builtE,gv,TD.isAgg,resV,↓reduceIte,Nat.reduceEqDiff,reduceCtorEq,Nat.reduceAdd,Nat.reduceMul,Nat.reduceLeDiff,za0,za1,Int.reduceEq,Int.reduceLT,Int.reduceLE,Nat.reduceLT,tiA, Int.natCast_zero, h19, h18, h17, h0, h1, h2, h3, h4, h5]
              refine ⟨rfl, hml1, hun1, hmb1, hS1, by omega⟩
            · rintro m t H2 ⟨g, mt2, hm2, hg, h53, h52, h51, h10, h19, h18, h17, h0, h1, h2, h3, h4, h5, hJe, hml2, hun2, hmb2, hS2, hnx2⟩
              rw [hJe]
              clear f1 f2 f3 f4 f5 f6
              obtain ⟨f1, f2, f3, f4, f5, f6⟩ := fx hS2
              try simp (disch := first | omega | (simp only [L3] <;> omega)) only [Sall,evalOp,init,binA_s,binE,binI,unE,convE,okNil,builtE,gv,TD.isAgg,resV,↓reduceIte,Nat.reduceEqDiff,reduceCtorEq,Nat.reduceAdd,Nat.reduceMul,Nat.reduceLeDiff,za0,za1,Int.reduceEq,Int.reduceLT,Int.reduceLE,Nat.reduceLT,tiA, h53, h52]
              refine za6 (fun hh => ?_) (fun hh => ?_)
              · rw [show G - g = (G - (g + 1)) + 1 by omega, List.range'_succ]
                have hok2 : HOk n G ⟨s.ow, s.rm, mt2⟩ := ⟨lol, lrl, hml2, hok.er, hok.rr⟩
                obtain ⟨vs, q, hO⟩ := hS2.ow
                obtain ⟨x, lo, hi', x1, x2, x3, x4, x5, x6, x7, x8⟩ := hO.fr hS2.nxt (g := g) (show g < s.ow.length by omega)
                have o1 := hO.row
                have oc1 : ∀ (ty : TypeId) (r : List Value), Go.Abs.Row.ok (Go.Abs.Row.mk ty true r) [x] = True := fun ty r => eq_true (.inl rfl)
                have hlg := hlen g
                dsimp only at x2 x7 x8
                try simp (disch := first | omega | (simp only [L3] <;> omega)) only [Sall,evalOp,init,binA_s,binE,binI,unE,convE,okNil,builtE,gv,TD.isAgg,resV,↓reduceIte,Nat.reduceEqDiff,reduceCtorEq,Nat.reduceAdd,Nat.reduceMul,Nat.reduceLeDiff,za0,za1,Int.reduceEq,Int.reduceLT,Int.reduceLE,Nat.reduceLT,tiA, h53, h52, h51, h10, h19, h18, h17, h0, h1, h2, h3, h4, h5, o1, x1, oc1]
                (repeat refine And.intro (by omega) ?_)
                refine (zh7 x (s.ow.getD g []) b H2 x2.rd (by omega)).to ?_
                by_cases hbg : (b : Int) ∈ s.ow.getD g []
                · rw [idx_mem hbg]
                  by_cases hgi : g = i
                  · have e1 : ((g : Int) != (i : Int)) = false := by rw [hgi]; exact bne_self_eq_false _
                    have e2 : decide ((0 : Int) ≤ ((s.ow.getD g []).idxOf (b : Int) : Nat)) = true := decide_eq_true (by omega)
                    have hst : hiveJ (hiveF tm G f) b i (g :: List.range' (g + 1) (G - (g + 1))) ⟨s.ow, s.rm, mt2⟩ = hiveJ (hiveF tm G f) b i (List.range' (g + 1) (G - (g + 1))) ⟨s.ow, s.rm, mt2⟩ := by
                      conv => lhs; unfold hiveJ
                      rw [if_neg (fun h => h.2 hgi)]
                    rw [hst]
                    try simp (disch := first | omega | (simp only [L3] <;> omega)) only [Sall,evalOp,init,binA_s,binE,binI,unE,convE,okNil,builtE,gv,TD.isAgg,resV,↓reduceIte,Nat.reduceEqDiff,reduceCtorEq,Nat.reduceAdd,Nat.reduceMul,Nat.reduceLeDiff,za0,za1,Int.reduceEq,Int.reduceLT,Int.reduceLE,Nat.reduceLT,tiA, h53, h52, h51, h10, h19, h18, h17, h0, h1, h2, h3, h4, h5, e1, e2, w64]
                    exact ⟨G - (g + 1), by omega, g + 1, mt2, rfl, by omega, by omega, rfl, hml2, hun2, hmb2, hS2, hnx2⟩
                  · have e1 : ((g : Int) != (i : Int)) = true := by rw [bne_iff_ne]; omega
                    have e2 : decide ((0 : Int) ≤ ((s.ow.getD g []).idxOf (b : Int) : Nat)) = true := decide_eq_true (by omega)
                    have hst : hiveJ (hiveF tm G f) b i (g :: List.range' (g + 1) (G - (g + 1))) ⟨s.ow, s.rm, mt2⟩ = (if (hiveF tm G f ⟨s.ow, s.rm, mt2⟩ g).1 = true then (true, ⟨((hiveF tm G f ⟨s.ow, s.rm, mt2⟩ g).2.ow.set g (((hiveF tm G f ⟨s.ow, s.rm, mt2⟩ g).2.ow.getD g []).erase (b : Int))).set i ((hiveF tm G f ⟨s.ow, s.rm, mt2⟩ g).2.ow.getD i [] ++ [(b : Int)]), (hiveF tm G f ⟨s.ow, s.rm, mt2⟩ g).2.rm, (hiveF tm G f ⟨s.ow, s.rm, mt2⟩ g).2.mt⟩) else hiveJ (hiveF tm G f) b i (List.range' (g + 1) (G - (g + 1))) (hiveF tm G f ⟨s.ow, s.rm, mt2⟩ g).2) := by
                      conv => lhs; unfold hiveJ
                      rw [if_pos ⟨hbg, hgi⟩]
                    rw [hst]
                    try simp (disch := first | omega | (simp only [L3] <;> omega)) only [Sall,evalOp,init,binA_s,binE,binI,unE,convE,okNil,builtE,gv,TD.isAgg,resV,↓reduceIte,Nat.reduceEqDiff,reduceCtorEq,Nat.reduceAdd,Nat.reduceMul,Nat.reduceLeDiff,za0,za1,Int.reduceEq,Int.reduceLT,Int.reduceLE,Nat.reduceLT,tiA, h53, h52, h51, h10, h19, h18, h17, h0, h1, h2, h3, h4, h5, e1, e2, f4, List.mem_cons, List.not_mem_nil, or_false, forall_eq_or_imp, forall_eq, Array.size_empty]
                    have hR := zeG htm f ⟨s.ow, s.rm, mt2⟩ g hok2 (by omega) hun2
                    have hcall := ih ⟨s.ow, s.rm, mt2⟩ g me H2 hok2 hlen hru (by omega) hun2 hS2 hme
                    revert hR hcall
                    generalize hiveF tm G f ⟨s.ow, s.rm, mt2⟩ g = R
                    intro hR hcall
                    refine hcall.fin ?_
                    rintro H3 ⟨hS3, hn3⟩
                    obtain ⟨rb, s3'⟩ := R
                    obtain hrb | hrb : rb = true ∨ rb = false := by cases rb <;> simp
                    · subst hrb
                      obtain ⟨y1, y2, y3⟩ := hR.yes rfl
                      obtain ⟨ow3, rm3, mt3⟩ := s3'
                      have hbg3 : (b : Int) ∈ ow3.getD g [] := by
                        rw [← List.count_pos_iff]
                        have := hR.frame g b hmb2
                        dsimp only at this
                        rw [this, List.count_pos_iff]; exact hbg
                      have lol3 : ow3.length = G := hR.ok.ol
                      have len3 : (ow3.getD g []).length = (s.ow.getD g []).length + 1 := by have := y1 g; rw [if_pos rfl] at this; exact this
                      have len3i : (ow3.getD i []).length = (s.ow.getD i []).length := by have := y1 i; rw [if_neg (Ne.symm hgi)] at this; exact this
                      have lenb : 0 < (s.ow.getD g []).length := List.length_pos_of_mem hbg
                      have ler := List.length_erase_of_mem hbg3
                      clear y1 y2 y3 hR
                      clear f1 f2 f3 f4 f5 f6
                      obtain ⟨f1, f2, f3, f4, f5, f6⟩ := fx hS3
                      clear o1 x1 x2 x3 x4 x5 x6 x7 x8 hO oc1
                      obtain ⟨vs, q, hO⟩ := hS3.ow
                      have nx3 := hS3.nxt
                      have sc3 := hS3.sc
                      obtain ⟨x, lo, hi', x1, x2, x3, x4, x5, x6, x7, x8⟩ := hO.fr hS3.nxt (g := g) (show g < ow3.length by omega)
                      dsimp only at x1 x2 x7 x8
                      have o1 := hO.row
                      have lvs : vs.length = G := by rw [hO.len]; exact lol3
                      have oc1 : ∀ (ty : TypeId) (r : List Value), Go.Abs.Row.ok (Go.Abs.Row.mk ty true r) [x] = True := fun ty r => eq_true (.inl rfl)
                      try simp (disch := first | omega | (simp only [L3] <;> omega)) only [Sall,evalOp,init,binA_s,binE,binI,unE,convE,okNil,builtE,gv,TD.isAgg,resV,↓reduceIte,Nat.reduceEqDiff,reduceCtorEq,Nat.reduceAdd,Nat.reduceMul,Nat.reduceLeDiff,za0,za1,Int.reduceEq,Int.reduceLT,Int.reduceLE,Nat.reduceLT,tiA, h53, h52, h51, h10, h19, h18, h17, h0, h1, h2, h3, h4, h5]
                      refine zc9 (fun j => j < b0) [0, 1, 2, 3, 4, 5, 6, 7, 8, 9, 10, 12, 13, 14, 15, 16, 11, 17, 18, 19, 20, 21] (by kernel_rfl) (by kernel_rfl) (by kernel_rfl) ?_
                      try simp (disch := first | omega | (simp only [L3] <;> omega)) only [Sall,evalOp,init,binA_s,binE,binI,unE,convE,okNil,builtE,gv,TD.isAgg,resV,↓reduceIte,Nat.reduceEqDiff,reduceCtorEq,Nat.reduceAdd,Nat.reduceMul,Nat.reduceLeDiff,za0,za1,Int.reduceEq,Int.reduceLT,Int.reduceLE,Nat.reduceLT,tiA, zaM, zaG, za8, loadOk, h4, h10, f3, o1, x1, oc1]
                      (repeat refine And.intro (by omega) ?_)
                      refine (zh7 x (ow3.getD g []) b H3 x2.rd (by omega)).to ?_
                      rw [idx_mem hbg3]
                      have hidx := List.idxOf_lt_length_iff.2 hbg3
                      try simp (disch := first | omega | (simp only [L3] <;> omega)) only [Sall,evalOp,init,binA_s,binE,binI,unE,convE,okNil,builtE,gv,TD.isAgg,resV,↓reduceIte,Nat.reduceEqDiff,reduceCtorEq,Nat.reduceAdd,Nat.reduceMul,Nat.reduceLeDiff,za0,za1,Int.reduceEq,Int.reduceLT,Int.reduceLE,Nat.reduceLT,tiA, zaM, zaG, za8, loadOk, h4, h10, List.mem_cons, List.not_mem_nil, or_false, forall_eq_or_imp, forall_eq, Array.size_empty]
                      refine ⟨.inr (.inr (LES.refl _ _)), ?_⟩
                      refine (zh7 x (ow3.getD g []) b H3 x2.rd (by omega)).to ?_
                      rw [idx_mem hbg3]
                      try simp (disch := first | omega | (simp only [L3] <;> omega)) only [Sall,evalOp,init,binA_s,binE,binI,unE,convE,okNil,builtE,gv,TD.isAgg,resV,↓reduceIte,Nat.reduceEqDiff,reduceCtorEq,Nat.reduceAdd,Nat.reduceMul,Nat.reduceLeDiff,za0,za1,Int.reduceEq,Int.reduceLT,Int.reduceLE,Nat.reduceLT,tiA, zaM, zaG, za8, loadOk, h4, h10, w64, List.mem_cons, List.not_mem_nil, or_false, forall_eq_or_imp, forall_eq, Array.size_empty]
                      refine ⟨.inr (.inr (LES.refl _ _)), ?_⟩
                      refine (delete_c x (ow3.getD g []) ((ow3.getD g []).idxOf (b : Int)) lo hi' H3 x2 (by omega) hidx).sc.mono ?_
                      rintro u H4 ⟨⟨n4, s4, f4'⟩, sc4⟩
                      rw [← List.erase_eq_eraseIdx_of_idxOf rfl] at f4'
                      refine ⟨.inr (.inr ⟨by omega, fun j r hj hr => by rw [s4 j (by omega)]; exact hr⟩), ?_⟩
                      have o4 : H4.row oi = some ⟨33, true, vs⟩ := by rw [s4 oi (by omega), o1]
                      have f4o := f4'.rd.one
                      refine Holds.mp ?_
                      try simp (disch := first | omega | (simp only [L3] <;> omega)) only [Sall,evalOp,init,binA_s,binE,binI,unE,convE,okNil,builtE,gv,TD.isAgg,resV,↓reduceIte,Nat.reduceEqDiff,reduceCtorEq,Nat.reduceAdd,Nat.reduceMul,Nat.reduceLeDiff,za0,za1,Int.reduceEq,Int.reduceLT,Int.reduceLE,Nat.reduceLT,tiA, zaM, zaG, za8, loadOk, h4, h10, f3, o4, lvs, f4o]
                      obtain ⟨p, p1, p2, rfl, p4⟩ := f4'.get (by omega)
                      have hpq := x7 p p1 p2
                      refine ⟨by omega, by omega, .inr (.inl (by kernel_rfl)), ?_⟩
                      have K := hS3.put hO (g := g) (show g < ow3.length by omega) ⟨l1, l2, hne, hme⟩ x3 x7 x8 (by omega) (fun j j1 j2 => s4 j j2) sc4 (.inl ⟨hpq.1, hpq.2.1⟩) (by omega) (by omega) p4 (fun e => by have := congrArg List.length e; simp only [List.length_nil] at this; omega)
                      have n5 : (H4.setCells oi (vs.set g (.slice (some ⟨p, 0, some 1⟩) ((ow3.getD g []).erase (b : Int)).length ((ow3.getD g []).erase (b : Int)).length))).next = H4.next := rfl
                      revert K n5
                      generalize H4.setCells oi _ = H5
                      obtain ⟨ow5, e5⟩ : ∃ ow5, ow5 = ow3.set g ((ow3.getD g []).erase (b : Int)) := ⟨_, rfl⟩
                      dsimp only
                      rw [← e5]
                      have lol5 : ow5.length = G := by rw [e5]; simp [lol3]
                      have g5 : ow5.getD i [] = ow3.getD i [] := by rw [e5]; exact zb7 _ _ _ _ _ hgi
                      rw [← g5]
                      rw [← g5] at len3i
                      have hli := hlen i
                      clear e5 g5
                      clear o1 x1 x2 x3 x4 x5 x6 x7 x8 hO oc1 f4' f4o o4 p4 lvs hpq
                      intro hS5 n5
                      have nx2 := hS5.nxt
                      clear f1 f2 f3 f4 f5 f6
                      obtain ⟨f1, f2, f3, f4, f5, f6⟩ := fx hS5
                      obtain ⟨vs, q, hO⟩ := hS5.ow
                      have sc2 := hS5.sc
                      obtain ⟨x, lo, hi', x1, x2, x3, x4, x5, x6, x7, x8⟩ := hO.fr hS5.nxt (g := i) (show i < ow5.length by omega)
                      dsimp only at x1 x2 x7 x8
                      have o1 := hO.row
                      have lvs : vs.length = G := by rw [hO.len]; exact lol5
                      have zz : zeros 1 [.int .i64 0] = [.int .i64 0] := rfl
                      refine zc9 (fun j => j < b0) [0, 1, 2, 3, 4, 5, 6, 7, 8, 9, 10] (by kernel_rfl) (by kernel_rfl) (by kernel_rfl) ?_
                      have oc1 : ∀ (ty : TypeId) (r : List Value), Go.Abs.Row.ok (Go.Abs.Row.mk ty true r) [x] = True := fun ty r => eq_true (.inl rfl)
                      have ne8 : ¬ oi = H5.next := by omega
                      have ne9 : ¬ oc = H5.next := by omega
                      try simp (disch := first | omega | (simp only [L3] <;> omega)) only [Sall,evalOp,init,binA_s,binE,binI,unE,convE,okNil,builtE,gv,TD.isAgg,resV,↓reduceIte,Nat.reduceEqDiff,reduceCtorEq,Nat.reduceAdd,Nat.reduceMul,Nat.reduceLeDiff,za0,za1,Int.reduceEq,Int.reduceLT,Int.reduceLE,Nat.reduceLT,tiA, zaM, zaG, za8, loadOk, h0, h4, h10, f3, o1, x1, zz, zaO, ne8, ne9, oc1]
                      (repeat refine And.intro (by omega) ?_)
                      refine ⟨.inr (.inr (LE.les (((Up.refl _ H5).push (Nat.le_refl _) _).le sc2))), ?_⟩
                      obtain ⟨H7, e3⟩ : ∃ H7, H7 = H5.push ⟨2, true, [.int .i64 b]⟩ := ⟨_, rfl⟩
                      have n7 : H7.next = H5.next + 1 := by rw [e3]; rfl
                      have r7 : ∀ j, j < H5.next → H7.row j = H5.row j := fun j hj => by rw [e3, AH.push_row, if_neg (by omega)]
                      have sc7 : Sc H7 := by rw [e3]; exact sc2.push _
                      rw [← e3]
                      clear e3
                      refine zeQ (k := 1) (lo := lo) (hi := hi') (l := ow5.getD i []) (m := [(b : Int)]) (x2.same fun j _ hj => r7 j (by omega)) rfl (by omega) rfl (by omega) (by decide) (by omega) (by omega) sc7 ?_
                      intro v' H8 n8 s8 sc8 f8'
                      refine ⟨.inr (.inr ⟨by omega, fun j r hj hr => by rw [s8 j (by omega) (sc7 j r hr)]; exact hr⟩), ?_⟩
                      have o8 : H8.row oi = some ⟨33, true, vs⟩ := by rw [s8 oi (by omega) (by omega), r7 oi (by omega), o1]
                      have f8o := f8'.rd.one
                      try simp (disch := first | omega | (simp only [L3] <;> omega)) only [Sall,evalOp,init,binA_s,binE,binI,unE,convE,okNil,builtE,gv,TD.isAgg,resV,↓reduceIte,Nat.reduceEqDiff,reduceCtorEq,Nat.reduceAdd,Nat.reduceMul,Nat.reduceLeDiff,za0,za1,Int.reduceEq,Int.reduceLT,Int.reduceLE,Nat.reduceLT,tiA, zaM, zaG, za8, loadOk, h0, h4, h10, f3, o8, lvs, f8o]
                      obtain ⟨p, p1, p2, rfl, p8⟩ := f8'.get (by omega)
                      have hpe : p = H7.next := by omega
                      subst hpe
                      refine ⟨by omega, by omega, .inr (.inl (by kernel_rfl)), ?_, by omega⟩
                      have K := hS5.put hO (g := i) (show i < ow5.length by omega) ⟨l1, l2, hne, hme⟩ x3 x7 x8 (by omega) (fun j j1 j2 => by rw [s8 j j2 (by omega), r7 j j1]) sc8 (.inr (by omega)) (by omega) (by omega) p8 (by simp)
                      rw [List.length_append] at K
                      exact K
                    · subst hrb
                      obtain ⟨n1, n2, n3, n4⟩ := hR.no rfl
                      obtain ⟨ow3, rm3, mt3⟩ := s3'
                      dsimp only at n1 n2 hS3 ⊢
                      subst n1 n2
                      have hml3 : mt3.length = n := hR.ok.ml
                      have hun3 : unm mt3 < f := Nat.lt_of_le_of_lt (zdE mt2 mt3 (by rw [hml2, hml3]) hR.mono) hun2
                      try simp (disch := first | omega | (simp only [L3] <;> omega)) only [Sall,evalOp,init,binA_s,binE,binI,unE,convE,okNil,builtE,gv,TD.isAgg,resV,↓reduceIte,Nat.reduceEqDiff,reduceCtorEq,Nat.reduceAdd,Nat.reduceMul,Nat.reduceLeDiff,za0,za1,Int.reduceEq,Int.reduceLT,Int.reduceLE,Nat.reduceLT,tiA, h53, h52, h51, h10, h19, h18, h17, h0, h1, h2, h3, h4, h5, w64]
                      exact ⟨G - (g + 1), by omega, g + 1, mt3, rfl, by omega, by omega, rfl, hml3, hun3, hR.mono b hmb2, hS3, by omega⟩
                · rw [idx_not hbg]
                  have hst : hiveJ (hiveF tm G f) b i (g :: List.range' (g + 1) (G - (g + 1))) ⟨s.ow, s.rm, mt2⟩ = hiveJ (hiveF tm G f) b i (List.range' (g + 1) (G - (g + 1))) ⟨s.ow, s.rm, mt2⟩ := by
                    conv => lhs; unfold hiveJ
                    rw [if_neg (fun h => hbg h.1)]
                  rw [hst]
                  try simp (disch := first | omega | (simp only [L3] <;> omega)) only [Sall,evalOp,init,binA_s,binE,binI,unE,convE,okNil,builtE,gv,TD.isAgg,resV,↓reduceIte,Nat.reduceEqDiff,reduceCtorEq,Nat.reduceAdd,Nat.reduceMul,Nat.reduceLeDiff,za0,za1,Int.reduceEq,Int.reduceLT,Int.reduceLE,Nat.reduceLT,tiA, h53, h52, h51, h10, h19, h18, h17, h0, h1, h2, h3, h4, h5, decide_false, w64]
                  exact ⟨G - (g + 1), by omega, g + 1, mt2, rfl, by omega, by omega, rfl, hml2, hun2, hmb2, hS2, hnx2⟩
              · have hgG : g = G := by omega
                subst hgG
                rw [Nat.sub_self]
                try simp (disch := first | omega | (simp only [L3] <;> omega)) only [Sall,evalOp,init,binA_s,binE,binI,unE,convE,okNil,builtE,gv,TD.isAgg,resV,↓reduceIte,Nat.reduceEqDiff,reduceCtorEq,Nat.reduceAdd,Nat.reduceMul,Nat.reduceLeDiff,za0,za1,Int.reduceEq,Int.reduceLT,Int.reduceLE,Nat.reduceLT,tiA, h19, h18, h17, h0, h1, h2, h3, h4, h5, w64]
                exact ⟨2 - (k + 1), by omega, k + 1, mt2, rfl, by omega, by omega, rfl, hml2, by omega, hS2, hnx2⟩
      · have hk2 : k = 2 := by omega
        subst hk2
        try simp (disch := first | omega | (simp only [L3] <;> omega)) only [Sall,evalOp,init,binA_s,binE,binI,unE,convE,okNil,builtE,gv,TD.isAgg,resV,↓reduceIte,Nat.reduceEqDiff,reduceCtorEq,Nat.reduceAdd,Nat.reduceMul,Nat.reduceLeDiff,za0,za1,Int.reduceEq,Int.reduceLT,Int.reduceLE,Nat.reduceLT,tiA, true_and]
        exact ⟨rfl, hS', hnx⟩
end Go.Proofs.YtpienljnoaendaaGreat.A
end
