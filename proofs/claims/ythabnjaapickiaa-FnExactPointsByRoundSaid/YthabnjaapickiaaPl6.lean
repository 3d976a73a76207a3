/- Plain lists: the points of a team round by round are the sums of its points of each round. No program is named here. -/
import Derived.Test.YthabnjaapickiaaPl5
set_option linter.unusedSimpArgs false
namespace Go.Abs

/-- The points of a team in a round in which it meets another one. -/
def ownAt (r x : List Int) (a : Nat) : Int := if (a : Int) < r.getD a 0 then wonI (x.getD (pairsL r a).length 0) else 2 - wonI (x.getD (pairsL r (r.getD a 0).toNat).length 0)

/-- The events of the pairs of the first m teams. -/
def evUpto (i : Nat) (r x : List Int) (m : Nat) : List Ev := (List.range (pairsL r m).length).flatMap fun j => evPair i ((pairsL r m).getD j []) (wonI (x.getD j 0))
theorem evUpto_all (n i : Nat) (r x : List Int) : evRound n i r x (pairsL r n).length = evUpto i r x n := rfl
theorem evUpto_yes (i : Nat) (r x : List Int) (m : Nat) (h : (m : Int) < r.getD m 0) : evUpto i r x (m + 1) = evUpto i r x m ++ [(i, (m : Int), r.getD m 0, wonI (x.getD (pairsL r m).length 0)), (i, r.getD m 0, (m : Int), 2 - wonI (x.getD (pairsL r m).length 0))] := by
  unfold evUpto
  rw [pairsL_yes r m h, List.length_append, List.length_singleton, List.range_succ, List.flatMap_append]
  congr 1
  · rw [List.flatMap_def, List.flatMap_def]
    congr 1
    apply List.map_congr_left
    intro j hj
    rw [List.mem_range] at hj
    rw [List.getD_eq_getElem?_getD, List.getElem?_append_left hj, ← List.getD_eq_getElem?_getD]
  · simp only [List.flatMap_cons, List.flatMap_nil, List.append_nil]
    rw [List.getD_eq_getElem?_getD, List.getElem?_append_right (Nat.le_refl _), Nat.sub_self]
    rfl
theorem evUpto_no (i : Nat) (r x : List Int) (m : Nat) (h : ¬ (m : Int) < r.getD m 0) : evUpto i r x (m + 1) = evUpto i r x m := by
  unfold evUpto; rw [pairsL_no r m h]

theorem evUpto_filter {n : Nat} {r : List Int} (hr : ∀ a : Nat, a < n → 0 ≤ r.getD a 0 ∧ r.getD a 0 < n ∧ r.getD (r.getD a 0).toNat 0 = a) (i : Nat) (x : List Int) {a : Nat} (ha : a < n) : ∀ m, m ≤ n →
    (evUpto i r x m).filter (fun e => decide (e.2.1 = (a : Int))) = if (a < m ∧ (a : Int) < r.getD a 0) ∨ (r.getD a 0 < m ∧ r.getD a 0 < a) then [(i, (a : Int), r.getD a 0, ownAt r x a)] else []
  | 0, _ => by
    obtain ⟨h1, _, _⟩ := hr a ha
    rw [if_neg (by omega)]; rfl
  | m + 1, hm => by
    have ih := evUpto_filter hr i x ha m (by omega)
    obtain ⟨a1, a2, a3⟩ := hr a ha
    obtain ⟨m1, m2, m3⟩ := hr m (by omega)
    by_cases h : (m : Int) < r.getD m 0
    · rw [evUpto_yes i r x m h, List.filter_append, ih]
      by_cases c1 : a = m
      · subst c1
        have c2 : ¬ r.getD a 0 = (a : Int) := by omega
        rw [if_neg (by omega), if_pos (by omega)]
        have : ownAt r x a = wonI (x.getD (pairsL r a).length 0) := by unfold ownAt; rw [if_pos h]
        simp only [List.filter_cons, List.filter_nil, decide_true, c2, decide_false, if_true, List.nil_append, this]
        simp
      · by_cases c2 : r.getD m 0 = (a : Int)
        · have e1 : r.getD a 0 = (m : Int) := by rw [c2] at m3; simpa using m3
          have c3 : ¬ (m : Int) = (a : Int) := by omega
          rw [if_neg (by omega), if_pos (by omega)]
          have : ownAt r x a = 2 - wonI (x.getD (pairsL r m).length 0) := by unfold ownAt; rw [if_neg (by omega), e1]; simp
          simp only [List.filter_cons, List.filter_nil, c2, decide_true, c3, decide_false, if_true, List.nil_append, this, e1]
          simp
        · have c3 : ¬ (m : Int) = (a : Int) := by omega
          have e1 : ¬ r.getD a 0 = (m : Int) := fun e => c2 (by rw [e] at a3; simpa using a3)
          simp only [List.filter_cons, List.filter_nil, c2, c3, decide_false, Bool.false_eq_true, if_false, List.append_nil]
          congr 1
          simp only [eq_iff_iff]
          omega
    · rw [evUpto_no i r x m h, ih]
      congr 1
      simp only [eq_iff_iff]
      have e1 : r.getD a 0 = (m : Int) → (a : Int) = r.getD m 0 := fun e => by rw [e] at a3; simpa using a3.symm
      have e2 : a = m → r.getD a 0 = r.getD m 0 := fun e => by rw [e]
      constructor
      · rintro (⟨b1, b2⟩ | ⟨b1, b2⟩)
        · exact .inl ⟨by omega, b2⟩
        · exact .inr ⟨by omega, b2⟩
      · rintro (⟨b1, b2⟩ | ⟨b1, b2⟩)
        · refine .inl ⟨?_, b2⟩
          by_cases c : a = m
          · have := e2 c; omega
          · omega
        · refine .inr ⟨?_, b2⟩
          by_cases c : r.getD a 0 = (m : Int)
          · have := e1 c; omega
          · omega

theorem evRound_filter {n : Nat} {r : List Int} (hr : ∀ a : Nat, a < n → 0 ≤ r.getD a 0 ∧ r.getD a 0 < n ∧ r.getD (r.getD a 0).toNat 0 = a) (i : Nat) (x : List Int) {a : Nat} (ha : a < n) :
    (evRound n i r x (pairsL r n).length).filter (fun e => decide (e.2.1 = (a : Int))) = if r.getD a 0 = a then [] else [(i, (a : Int), r.getD a 0, ownAt r x a)] := by
  rw [evUpto_all, evUpto_filter hr i x ha n (Nat.le_refl _)]
  obtain ⟨a1, a2, a3⟩ := hr a ha
  by_cases c : r.getD a 0 = (a : Int)
  · rw [if_pos c, if_neg (by omega)]
  · rw [if_neg c, if_pos (by omega)]

theorem sums_filter (f : Int → Int → Int) (a : Nat) : ∀ (es : List Ev) (A : List Int), a < A.length → (∀ e ∈ es, 0 ≤ e.2.1) →
    (es.foldl (fun l e => addAt l e.2.1 (f e.2.2.1 e.2.2.2)) A).getD a 0 = (es.filter (fun e => decide (e.2.1 = (a : Int)))).foldl (fun z e => IntKind.i64.wrap (z + f e.2.2.1 e.2.2.2)) (A.getD a 0)
  | [], A, _, _ => rfl
  | e :: es, A, hA, he => by
    rw [List.foldl_cons, sums_filter f a es _ (by rw [addAt_length]; exact hA) (fun e h => he e (List.mem_cons_of_mem _ h))]
    have h0 := he e (List.mem_cons_self)
    by_cases c : e.2.1 = (a : Int)
    · rw [List.filter_cons, if_pos (by simpa using c), List.foldl_cons]
      congr 1
      unfold addAt
      rw [c, Int.toNat_natCast, List.getD_eq_getElem?_getD, List.getElem?_set_self hA]
      rfl
    · rw [List.filter_cons, if_neg (by simpa using c)]
      congr 1
      unfold addAt
      rw [List.getD_eq_getElem?_getD, List.getElem?_set_ne (by omega), ← List.getD_eq_getElem?_getD]

theorem evRound_nonneg {n : Nat} {r : List Int} (hr : ∀ a : Nat, a < n → 0 ≤ r.getD a 0 ∧ r.getD a 0 < n ∧ r.getD (r.getD a 0).toNat 0 = a) (i : Nat) (x : List Int) : ∀ e ∈ evRound n i r x (pairsL r n).length, 0 ≤ e.2.1 := by
  intro e he
  unfold evRound at he
  rw [List.mem_flatMap] at he
  obtain ⟨j, hj, he⟩ := he
  obtain ⟨a, ha, hlt, hp⟩ := pairsL_get r n j (by simpa using hj)
  rw [hp] at he
  unfold evPair at he
  obtain ⟨h1, _, _⟩ := hr a ha
  rcases List.mem_cons.1 he with rfl | he
  · show (0 : Int) ≤ (a : Int); omega
  · rw [List.mem_singleton] at he
    subst he
    exact h1

/-- The points of a team in round i, 0 where it is free. -/
def ownR (l : List Int) (ll : List (List Int)) (a i : Nat) : Int := if (rnd l i).getD a 0 = a then 0 else ownAt (rnd l i) (ll.getD i []) a

section
variable {n k : Nat} {l : List Int} {ll : List (List Int)}

theorem rnd_inv (hb : schedB n k l = true) {i : Nat} (hi : i < k) : ∀ a : Nat, a < n → 0 ≤ (rnd l i).getD a 0 ∧ (rnd l i).getD a 0 < n ∧ (rnd l i).getD ((rnd l i).getD a 0).toNat 0 = a := fun a ha => (roundB_at ((schedB_at hb).2.2 i hi) (by omega)).2

theorem pts_succ (hb : schedB n k l = true) {m a : Nat} (hm : m < k) (ha : a < n) : (sumsF n (fun _ o => o) (meets n l ll (m + 1))).getD a 0 = IntKind.i64.wrap (ownR l ll a m + (sumsF n (fun _ o => o) (meets n l ll m)).getD a 0) := by
  have hr := rnd_inv hb hm
  have e : sumsF n (fun _ o => o) (meets n l ll (m + 1)) = (evRound n m (rnd l m) (ll.getD m []) (pairsL (rnd l m) n).length).foldl (fun l e => addAt l e.2.1 e.2.2.2) (sumsF n (fun _ o => o) (meets n l ll m)) := by
    rw [meets_succ]; unfold sumsF; rw [List.foldl_append]
  rw [e, sums_filter (fun _ o => o) a _ _ (by rw [sumsF_length]; exact ha) (evRound_nonneg hr m _), evRound_filter hr m _ ha]
  unfold ownR
  by_cases c : (rnd l m).getD a 0 = (a : Int)
  · rw [if_pos c, if_pos c, Int.zero_add, List.foldl_nil, w64 (sumsF_range _ _ _ _)]
  · rw [if_neg c, if_neg c, List.foldl_cons, List.foldl_nil, Int.add_comm]

theorem byRd_succ (hb : schedB n k l = true) {m a R : Nat} (hm : m < k) (ha : a < n) : byRd a R (meets n l ll (m + 1)) = if (rnd l m).getD a 0 = a then byRd a R (meets n l ll m) else (byRd a R (meets n l ll m)).set (m + 1) (ownAt (rnd l m) (ll.getD m []) a) := by
  have hr := rnd_inv hb hm
  have e : byRd a R (meets n l ll (m + 1)) = (evRound n m (rnd l m) (ll.getD m []) (pairsL (rnd l m) n).length).foldl (fun l e => if e.2.1 = (a : Int) then l.set (e.1 + 1) e.2.2.2 else l) (byRd a R (meets n l ll m)) := by
    rw [meets_succ]; unfold byRd; rw [List.foldl_append]
  have g : ∀ (es : List Ev) (A : List Int), es.foldl (fun l e => if e.2.1 = (a : Int) then l.set (e.1 + 1) e.2.2.2 else l) A = (es.filter (fun e => decide (e.2.1 = (a : Int)))).foldl (fun l e => l.set (e.1 + 1) e.2.2.2) A := by
    intro es
    induction es with
    | nil => intro A; rfl
    | cons e es ih =>
      intro A
      rw [List.foldl_cons, List.filter_cons]
      by_cases c : e.2.1 = (a : Int)
      · rw [if_pos c, if_pos (by simpa using c), List.foldl_cons, ih]
      · rw [if_neg c, if_neg (by simpa using c), ih]
  rw [e, g, evRound_filter hr m _ ha]
  by_cases c : (rnd l m).getD a 0 = (a : Int)
  · rw [if_pos c, if_pos c]; rfl
  · rw [if_neg c, if_neg c]; rfl

theorem byRd_get (hb : schedB n k l = true) {a R : Nat} (ha : a < n) : ∀ m, m ≤ k → m ≤ R → ∀ j, j < R + 1 → (byRd a R (meets n l ll m)).getD j 0 = if 0 < j ∧ j ≤ m then ownR l ll a (j - 1) else 0
  | 0, _, _, j, hj => by
    rw [if_neg (by omega), meets_zero, byRd_nil]
    simp [List.getD_eq_getElem?_getD, List.getElem?_replicate, hj]
  | m + 1, hm, hR, j, hj => by
    have ih := byRd_get hb ha m (by omega) (by omega) j hj
    have hlen := byRd_length (a : Int) R (meets n l ll m)
    rw [byRd_succ hb (by omega) ha]
    by_cases c : (rnd l m).getD a 0 = (a : Int)
    · rw [if_pos c, ih]
      by_cases c2 : j = m + 1
      · subst c2
        rw [if_neg (by omega), if_pos (by omega)]
        unfold ownR
        rw [Nat.add_sub_cancel, if_pos c]
      · by_cases c3 : 0 < j ∧ j ≤ m
        · rw [if_pos c3, if_pos (by omega)]
        · rw [if_neg c3, if_neg (by omega)]
    · rw [if_neg c]
      by_cases c2 : j = m + 1
      · subst c2
        rw [if_pos (by omega), List.getD_eq_getElem?_getD, List.getElem?_set_self (by omega)]
        unfold ownR
        rw [Nat.add_sub_cancel, if_neg c]
        rfl
      · rw [List.getD_eq_getElem?_getD, List.getElem?_set_ne (by omega), ← List.getD_eq_getElem?_getD, ih]
        by_cases c3 : 0 < j ∧ j ≤ m
        · rw [if_pos c3, if_pos (by omega)]
        · rw [if_neg c3, if_neg (by omega)]

theorem pref_get (hb : schedB n k l = true) {a R : Nat} (ha : a < n) (hR : R ≤ k) : ∀ i, i ≤ R → ∀ j, j < R + 1 → (pref i (byRd a R (meets n l ll R))).getD j 0 = if j ≤ i then (sumsF n (fun _ o => o) (meets n l ll j)).getD a 0 else (byRd a R (meets n l ll R)).getD j 0
  | 0, _, j, hj => by
    show (byRd a R (meets n l ll R)).getD j 0 = _
    by_cases c : j ≤ 0
    · obtain rfl : j = 0 := by omega
      rw [if_pos (Nat.le_refl _), byRd_get hb ha R hR (Nat.le_refl _) 0 hj, if_neg (by omega), meets_zero, sumsF_nil]
      simp [List.getD_eq_getElem?_getD, List.getElem?_replicate, ha]
    · rw [if_neg c]
  | i + 1, hi, j, hj => by
    have ih := pref_get hb ha hR i (by omega)
    have hlen : (pref i (byRd a R (meets n l ll R))).length = R + 1 := by rw [pref_length, byRd_length]
    show ((pref i (byRd a R (meets n l ll R))).set (i + 1) _).getD j 0 = _
    by_cases c : j = i + 1
    · subst c
      rw [List.getD_eq_getElem?_getD, List.getElem?_set_self (by omega), if_pos (Nat.le_refl _), ih (i + 1) hj, if_neg (by omega), ih i (by omega), if_pos (Nat.le_refl _), byRd_get hb ha R hR (Nat.le_refl _) (i + 1) hj, if_pos (by omega), Nat.add_sub_cancel, pts_succ hb (by omega) ha]
      rfl
    · rw [List.getD_eq_getElem?_getD, List.getElem?_set_ne (by omega), ← List.getD_eq_getElem?_getD, ih j hj]
      by_cases c2 : j ≤ i
      · rw [if_pos c2, if_pos (by omega)]
      · rw [if_neg c2, if_neg (by omega)]

/-- What the program adds up is what the reference tells. -/
theorem pref_all (hb : schedB n k l = true) {a R : Nat} (ha : a < n) (hR : R ≤ k) : pref R (byRd a R (meets n l ll R)) = ptsBy n l ll a (R + 1) := by
  apply List.ext_getElem?
  intro j
  by_cases hj : j < R + 1
  · have h1 := pref_get (ll := ll) hb ha hR R (Nat.le_refl _) j hj
    rw [if_pos (by omega)] at h1
    have e1 : j < (pref R (byRd a R (meets n l ll R))).length := by rw [pref_length, byRd_length]; exact hj
    rw [List.getD_eq_getElem?_getD, List.getElem?_eq_getElem e1] at h1
    rw [List.getElem?_eq_getElem e1]
    unfold ptsBy
    rw [List.getElem?_map, List.getElem?_range hj]
    simpa using h1
  · rw [List.getElem?_eq_none (by rw [pref_length, byRd_length]; omega), List.getElem?_eq_none (by rw [ptsBy_length]; omega)]
end
end Go.Abs
