/- Plain lists: a ranking by insertion. No program is named here. -/
import Derived.Test.YtbmpkihggipciaaPl8
import Derived.Test.YtbmpkihggipciaaAbs9
set_option linter.unusedSimpArgs false
set_option linter.unusedVariables false
namespace Go.Abs

/-- a is ahead of b. -/
def ahd (p s t : List Int) (a b : Int) : Bool :=
  decide (p.getD b.toNat 0 < p.getD a.toNat 0) || (decide (p.getD a.toNat 0 = p.getD b.toNat 0) && (decide (s.getD b.toNat 0 < s.getD a.toNat 0) || (decide (s.getD a.toNat 0 = s.getD b.toNat 0) && decide (t.getD b.toNat 0 < t.getD a.toNat 0))))
def cmpI (x y : Int) : Int := if x < y then -1 else if y < x then 1 else 0
def orI (x y z : Int) : Int := if x ≠ 0 then x else if y ≠ 0 then y else z
def cmpR (p s t : List Int) (a b : Int) : Int := orI (cmpI (p.getD b.toNat 0) (p.getD a.toNat 0)) (cmpI (s.getD b.toNat 0) (s.getD a.toNat 0)) (cmpI (t.getD b.toNat 0) (t.getD a.toNat 0))
theorem cmpI_range (x y : Int) : -1 ≤ cmpI x y ∧ cmpI x y ≤ 1 := by unfold cmpI; split <;> (try split) <;> omega
theorem cmpR_range (p s t : List Int) (a b : Int) : -1 ≤ cmpR p s t a b ∧ cmpR p s t a b ≤ 1 := by
  unfold cmpR orI
  split
  · exact cmpI_range _ _
  · split <;> exact cmpI_range _ _
theorem cmpR_ahd (p s t : List Int) (a b : Int) : decide (cmpR p s t a b < 0) = ahd p s t a b := by
  unfold cmpR ahd
  generalize p.getD b.toNat 0 = p1
  generalize p.getD a.toNat 0 = p2
  generalize s.getD b.toNat 0 = s1
  generalize s.getD a.toNat 0 = s2
  generalize t.getD b.toNat 0 = t1
  generalize t.getD a.toNat 0 = t2
  rw [Bool.eq_iff_iff]
  simp only [decide_eq_true_eq, Bool.or_eq_true, Bool.and_eq_true]
  unfold orI cmpI
  repeat' split
  all_goals omega

def insAt (l : List Int) (j : Nat) (x : Int) : List Int := l.take j ++ x :: l.drop j
theorem insAt_length {l : List Int} {j : Nat} (hj : j ≤ l.length) (x : Int) : (insAt l j x).length = l.length + 1 := by
  unfold insAt; simp; omega
theorem insAt_set {l : List Int} {j : Nat} (hj : j ≤ l.length) (x y : Int) : (insAt l j y).set j x = insAt l j x := by
  unfold insAt
  have h : (l.take j).length = j := by simp; omega
  rw [List.set_append_right _ _ (by omega), h, Nat.sub_self, List.set_cons_zero]
theorem insAt_get {l : List Int} {j i : Nat} (hi : i < j) (hj : j ≤ l.length) (y : Int) : (insAt l j y).getD i 0 = l.getD i 0 := by
  unfold insAt
  have h : (l.take j).length = j := by simp; omega
  rw [List.getD_eq_getElem?_getD, List.getElem?_append_left (by omega), List.getElem?_take_of_lt hi, ← List.getD_eq_getElem?_getD]
theorem insAt_at {l : List Int} {j : Nat} (hj : j ≤ l.length) (y : Int) : (insAt l j y).getD j 0 = y := by
  unfold insAt
  have h : (l.take j).length = j := by simp; omega
  rw [List.getD_eq_getElem?_getD, List.getElem?_append_right (by omega), h, Nat.sub_self]
  rfl
theorem insAt_step {l : List Int} {j : Nat} (hj : j + 1 ≤ l.length) : insAt l (j + 1) (l.getD j 0) = insAt l j (l.getD j 0) := by
  unfold insAt
  have e1 : l.take (j + 1) = l.take j ++ [l.getD j 0] := by
    rw [List.take_add_one, List.getElem?_eq_getElem (by omega), List.getD_eq_getElem?_getD, List.getElem?_eq_getElem (by omega)]; rfl
  have e2 : l.drop j = l.getD j 0 :: l.drop (j + 1) := by
    rw [List.getD_eq_getElem?_getD, List.getElem?_eq_getElem (by omega)]
    exact List.drop_eq_getElem_cons (by omega)
  rw [e1, e2]; simp
theorem insAt_end (l : List Int) (x : Int) : insAt l l.length x = l ++ [x] := by unfold insAt; simp
/-- Where the new one comes to. -/
def bubAt (g : Int → Int → Bool) (l : List Int) (x : Int) : Nat → Nat
  | 0 => 0
  | j + 1 => if g x (l.getD j 0) = true then bubAt g l x j else j + 1
theorem bubAt_le (g : Int → Int → Bool) (l : List Int) (x : Int) : ∀ j, bubAt g l x j ≤ j
  | 0 => Nat.le_refl _
  | j + 1 => by unfold bubAt; split; exact Nat.le_succ_of_le (bubAt_le g l x j); exact Nat.le_refl _
theorem bubAt_yes {g : Int → Int → Bool} {l : List Int} {x : Int} {j : Nat} (h : g x (l.getD j 0) = true) : bubAt g l x (j + 1) = bubAt g l x j := by
  conv => lhs; unfold bubAt
  rw [if_pos h]
theorem bubAt_no {g : Int → Int → Bool} {l : List Int} {x : Int} {j : Nat} (h : g x (l.getD j 0) = false) : bubAt g l x (j + 1) = j + 1 := by
  conv => lhs; unfold bubAt
  rw [h, if_neg (by simp)]
theorem bubAt_zero (g : Int → Int → Bool) (l : List Int) (x : Int) : bubAt g l x 0 = 0 := rfl
def rankL (g : Int → Int → Bool) : Nat → List Int
  | 0 => []
  | i + 1 => insAt (rankL g i) (bubAt g (rankL g i) i i) i
theorem rankL_length (g : Int → Int → Bool) : ∀ i, (rankL g i).length = i
  | 0 => rfl
  | i + 1 => by
    show (insAt (rankL g i) (bubAt g (rankL g i) i i) i).length = i + 1
    rw [insAt_length (by rw [rankL_length g i]; exact bubAt_le _ _ _ _), rankL_length g i]
theorem rankL_succ (g : Int → Int → Bool) (i : Nat) : rankL g (i + 1) = insAt (rankL g i) (bubAt g (rankL g i) i i) i := rfl
theorem rankL_mem (g : Int → Int → Bool) : ∀ i x, x ∈ rankL g i → 0 ≤ x ∧ x < (i : Int)
  | 0, x, h => by simp [rankL] at h
  | i + 1, x, h => by
    rw [rankL_succ] at h
    unfold insAt at h
    rcases List.mem_append.1 h with h | h
    · have := rankL_mem g i x (List.mem_of_mem_take h); omega
    · rcases List.mem_cons.1 h with h | h
      · omega
      · have := rankL_mem g i x (List.mem_of_mem_drop h); omega
theorem rankL_get (g : Int → Int → Bool) (i j : Nat) (h : j < i) : 0 ≤ (rankL g i).getD j 0 ∧ (rankL g i).getD j 0 < (i : Int) :=
  rankL_mem g i _ (by rw [List.getD_eq_getElem?_getD, List.getElem?_eq_getElem (by rw [rankL_length]; exact h)]; exact List.getElem_mem _)
theorem seqL_cons (a : Int) (n : Nat) : seqL a (n + 1) = a :: seqL (a + 1) n := by
  unfold seqL
  rw [List.range_succ_eq_map, List.map_cons, List.map_map]
  congr 1
  · show a + ((0 : Nat) : Int) = a
    omega
  · apply List.map_congr_left
    intro i _
    show a + ((i + 1 : Nat) : Int) = a + 1 + (i : Int)
    omega
theorem rank_next (g : Int → Int → Bool) (i n : Nat) (h : i < n) : rankL g i ++ seqL i (n - i) = insAt (rankL g i) i i ++ seqL ((i + 1 : Nat) : Int) (n - (i + 1)) := by
  have hl := rankL_length g i
  have e : insAt (rankL g i) i i = rankL g i ++ [(i : Int)] := by
    have := insAt_end (rankL g i) (i : Int)
    rw [hl] at this
    exact this
  rw [e, show n - i = (n - (i + 1)) + 1 by omega, seqL_cons]
  rw [show ((i + 1 : Nat) : Int) = (i : Int) + 1 by omega]
  simp
theorem rank_first (g : Int → Int → Bool) (n : Nat) (h : 0 < n) : seqL 0 n = rankL g 1 ++ seqL ((1 : Nat) : Int) (n - 1) := by
  rw [show n = (n - 1) + 1 by omega, seqL_cons]
  rfl
end Go.Abs
