/- Plain lists: sorted lists, orders of the numbers below another, steps. No program is named here. -/
import Derived.Test.YtbmpkihggipciaaAbs9
import Derived.Test.YtbmpkihggipciaaPl8
set_option linter.unusedSimpArgs false
set_option linter.unusedVariables false
namespace Go.Abs

def sortedL (zs : List Int) : List Int := zs.mergeSort fun x y => decide (x ≤ y)
theorem sortedL_length (zs : List Int) : (sortedL zs).length = zs.length := by simp [sortedL]
theorem sortedL_perm (zs : List Int) : (sortedL zs).Perm zs := List.mergeSort_perm _ _
theorem sortedL_sorted (zs : List Int) : (sortedL zs).Pairwise (fun x y => x ≤ y) := by
  have h := List.pairwise_mergeSort (le := fun x y : Int => decide (x ≤ y)) (fun a b c h1 h2 => by simp at *; omega) (fun a b => by simp; omega) zs
  exact h.imp (by simp)

theorem sorted_unique : ∀ {a b : List Int}, a.Perm b → a.Pairwise (fun x y => x ≤ y) → b.Pairwise (fun x y => x ≤ y) → a = b
  | [], b, h, _, _ => by rw [List.nil_perm] at h; exact h.symm
  | x :: a, [], h, _, _ => by rw [List.perm_nil] at h; exact h
  | x :: a, y :: b, h, ha, hb => by
    have hxy : x = y := by
      have h1 : x ∈ y :: b := h.subset (List.mem_cons_self)
      have h2 : y ∈ x :: a := h.symm.subset (List.mem_cons_self)
      have ha' : ∀ z ∈ a, x ≤ z := fun z hz => List.rel_of_pairwise_cons ha hz
      have hb' : ∀ z ∈ b, y ≤ z := fun z hz => List.rel_of_pairwise_cons hb hz
      rcases List.mem_cons.1 h1 with e | e
      · exact e
      · rcases List.mem_cons.1 h2 with e2 | e2
        · exact e2.symm
        · have := ha' _ e2; have := hb' _ e; omega
    subst hxy
    rw [sorted_unique ((List.perm_cons x).1 h) ha.of_cons hb.of_cons]

theorem seqL_pair (a : Int) (n : Nat) : (seqL a n).Pairwise (fun x y => x < y) := by
  unfold seqL
  rw [List.pairwise_map]
  exact List.pairwise_lt_range.imp (by intro x y h; omega)
theorem seqL_sorted (a : Int) (n : Nat) : (seqL a n).Pairwise (fun x y => x ≤ y) := (seqL_pair a n).imp (by intro x y h; omega)
theorem seqL_nodup (a : Int) (n : Nat) : (seqL a n).Nodup := (seqL_pair a n).imp (by intro x y h; omega)
theorem mem_seqL_iff (a : Int) (n : Nat) (x : Int) : x ∈ seqL a n ↔ a ≤ x ∧ x < a + n := by
  unfold seqL
  rw [List.mem_map]
  constructor
  · rintro ⟨i, hi, rfl⟩
    have : i < n := by simpa using hi
    constructor <;> omega
  · rintro ⟨h1, h2⟩
    exact ⟨(x - a).toNat, by simp; omega, by omega⟩

theorem sortedL_eq {y z : List Int} (h : y.Perm z) (hz : z.Pairwise (fun x y => x ≤ y)) : sortedL y = z :=
  sorted_unique ((sortedL_perm y).trans h) (sortedL_sorted y) hz
theorem sortedL_seq (a : Int) (n : Nat) (y : List Int) : sortedL y = seqL a n ↔ y.Perm (seqL a n) :=
  ⟨fun h => h ▸ (sortedL_perm y).symm, fun h => sortedL_eq h (seqL_sorted a n)⟩

/-- As many different ones among others: all of them. -/
theorem perm_of_nodup {α : Type} [DecidableEq α] : ∀ (y z : List α), y.Nodup → (∀ x ∈ y, x ∈ z) → z.length ≤ y.length → y.Perm z
  | [], z, _, _, h => by
    have : z = [] := List.eq_nil_of_length_eq_zero (by simpa using h)
    rw [this]
  | a :: y, z, hn, hs, h => by
    have ha : a ∈ z := hs a (List.mem_cons_self)
    have hn' := List.nodup_cons.1 hn
    have hp := List.perm_cons_erase ha
    have hl := List.length_erase_of_mem ha
    have hz : 0 < z.length := List.length_pos_of_mem ha
    have ih := perm_of_nodup y (z.erase a) hn'.2 (fun x hx => (List.mem_erase_of_ne (by rintro rfl; exact hn'.1 hx)).2 (hs x (List.mem_cons_of_mem _ hx))) (by rw [hl]; simp at h; omega)
    exact (ih.cons a).trans hp.symm

def ordB (n : Nat) (y : List Int) : Bool := decide (y.length = n) && decide (sortedL y = seqL 0 n)
theorem ordB_iff (n : Nat) (y : List Int) : ordB n y = true ↔ y.length = n ∧ (∀ x ∈ y, 0 ≤ x ∧ x < n) ∧ y.Nodup := by
  unfold ordB
  rw [Bool.and_eq_true, decide_eq_true_iff, decide_eq_true_iff, sortedL_seq]
  constructor
  · rintro ⟨h1, h2⟩
    refine ⟨h1, fun x hx => ?_, (h2.nodup_iff).2 (seqL_nodup 0 n)⟩
    have := (mem_seqL_iff 0 n x).1 (h2.subset hx)
    omega
  · rintro ⟨h1, h2, h3⟩
    exact ⟨h1, perm_of_nodup y _ h3 (fun x hx => (mem_seqL_iff 0 n x).2 (by have := h2 x hx; omega)) (by rw [seqL_length]; omega)⟩

theorem take_snoc {α : Type} (y : List α) (d : α) (i : Nat) (hi : i < y.length) : y.take (i + 1) = y.take i ++ [y.getD i d] := by
  rw [List.take_add_one, List.getElem?_eq_getElem hi, List.getD_eq_getElem?_getD, List.getElem?_eq_getElem hi]
  rfl
theorem nodup_snoc {α : Type} [DecidableEq α] {y : List α} {x : α} : (y ++ [x]).Nodup ↔ y.Nodup ∧ x ∉ y := by
  rw [List.nodup_append]
  constructor
  · rintro ⟨h1, _, h2⟩
    exact ⟨h1, fun h => h2 x h x (by simp) rfl⟩
  · rintro ⟨h1, h2⟩
    refine ⟨h1, by simp, fun a ha b hb e => ?_⟩
    rw [List.mem_singleton] at hb
    subst hb; subst e; exact h2 ha
theorem nodup_take {α : Type} {y : List α} (h : y.Nodup) (i : Nat) : (y.take i).Nodup := h.sublist (List.take_sublist _ _)

/-- What is known of the numbers that have been looked at. -/
def goodTo (n : Nat) (y : List Int) (i : Nat) : Prop := (∀ x ∈ y.take i, 0 ≤ x ∧ x < n) ∧ (y.take i).Nodup
theorem goodTo_zero (n : Nat) (y : List Int) : goodTo n y 0 := ⟨by simp, by simp⟩
theorem goodTo_succ {n : Nat} {y : List Int} {i : Nat} (hi : i < y.length) (h : goodTo n y i) (h1 : 0 ≤ y.getD i 0 ∧ y.getD i 0 < n) (h2 : (y.take i).contains (y.getD i 0) = false) : goodTo n y (i + 1) := by
  unfold goodTo
  rw [take_snoc y 0 i hi]
  refine ⟨fun x hx => ?_, nodup_snoc.2 ⟨h.2, fun hm => ?_⟩⟩
  · rcases List.mem_append.1 hx with hx | hx
    · exact h.1 x hx
    · rw [List.mem_singleton] at hx; rw [hx]; exact h1
  · rw [List.contains_iff_mem.2 hm] at h2; cases h2
theorem goodTo_all {n : Nat} {y : List Int} (h : goodTo n y y.length) : ordB n y = decide (y.length = n) := by
  unfold goodTo at h
  rw [List.take_length] at h
  by_cases e : y.length = n
  · rw [decide_eq_true e, ordB_iff]; exact ⟨e, h.1, h.2⟩
  · unfold ordB; rw [decide_eq_false e]; rfl
theorem ordB_bad {n : Nat} {y : List Int} {i : Nat} (hi : i < y.length) (h : ¬ (0 ≤ y.getD i 0 ∧ y.getD i 0 < n) ∨ (y.take i).contains (y.getD i 0) = true) : ordB n y = false := by
  rw [Bool.eq_false_iff]
  intro ho
  obtain ⟨_, h1, h2⟩ := (ordB_iff n y).1 ho
  rcases h with h | h
  · exact h (h1 _ (by rw [List.getD_eq_getElem?_getD, List.getElem?_eq_getElem hi]; exact List.getElem_mem _))
  · have h3 := nodup_take h2 (i + 1)
    rw [take_snoc y 0 i hi] at h3
    exact (nodup_snoc.1 h3).2 (List.contains_iff_mem.1 h)
theorem ordB_sorted_bad {n : Nat} {y : List Int} {i : Nat} (hi : i < y.length) (h : (sortedL y).getD i 0 ≠ (i : Int)) : ordB n y = false := by
  rw [Bool.eq_false_iff]
  intro ho
  unfold ordB at ho
  rw [Bool.and_eq_true, decide_eq_true_iff, decide_eq_true_iff] at ho
  rw [ho.2, seqL_getD 0 n i (by omega)] at h
  omega
theorem ordB_sorted_all {n : Nat} {y : List Int} (h : ∀ i, i < y.length → (sortedL y).getD i 0 = (i : Int)) : ordB n y = decide (y.length = n) := by
  by_cases e : y.length = n
  · unfold ordB
    rw [decide_eq_true e, Bool.true_and, decide_eq_true_iff]
    apply List.ext_getElem?
    intro i
    by_cases hi : i < y.length
    · have h1 := h i hi
      have h2 := seqL_getD 0 n i (by omega)
      rw [List.getElem?_eq_getElem (by rw [sortedL_length]; exact hi), List.getElem?_eq_getElem (by rw [seqL_length]; omega)]
      rw [List.getD_eq_getElem?_getD, List.getElem?_eq_getElem (by rw [sortedL_length]; exact hi)] at h1
      rw [List.getD_eq_getElem?_getD, List.getElem?_eq_getElem (by rw [seqL_length]; omega)] at h2
      simp only [Option.getD_some] at h1 h2
      rw [h1, h2]
      congr 1; omega
    · rw [List.getElem?_eq_none (by rw [sortedL_length]; omega), List.getElem?_eq_none (by rw [seqL_length]; omega)]
  · unfold ordB; rw [decide_eq_false e]; rfl

/-- Which numbers have been marked. -/
def metL (n : Nat) (y : List Int) : List Bool := (List.range n).map fun (j : Nat) => y.contains (j : Int)
theorem metL_length (n : Nat) (y : List Int) : (metL n y).length = n := by simp [metL]
theorem metL_nil (n : Nat) : metL n [] = List.replicate n false := by
  unfold metL
  exact List.eq_replicate_iff.2 ⟨by simp, by intro b hb; obtain ⟨a, _, rfl⟩ := List.mem_map.1 hb; rfl⟩
theorem metL_getD (n : Nat) (y : List Int) (x : Int) (h : 0 ≤ x ∧ x < n) : (metL n y).getD x.toNat false = y.contains x := by
  unfold metL
  rw [List.getD_eq_getElem?_getD, List.getElem?_map, List.getElem?_range (by omega)]
  simp only [Option.map_some, Option.getD_some]
  rw [show ((x.toNat : Nat) : Int) = x by omega]
theorem contains_snoc (y : List Int) (x z : Int) : (y ++ [x]).contains z = (y.contains z || z == x) := by
  rw [Bool.eq_iff_iff, Bool.or_eq_true, List.contains_iff_mem, List.contains_iff_mem, List.mem_append, List.mem_singleton, beq_iff_eq]
theorem metL_set (n : Nat) (y : List Int) (x : Int) (h : 0 ≤ x ∧ x < n) : (metL n y).set x.toNat true = metL n (y ++ [x]) := by
  apply List.ext_getElem?
  intro j
  rw [List.getElem?_set, metL_length]
  unfold metL
  rw [List.getElem?_map, List.getElem?_map]
  by_cases hj : j < n
  · rw [List.getElem?_range hj]
    simp only [Option.map_some]
    rw [contains_snoc]
    by_cases e : x.toNat = j
    · rw [if_pos e, if_pos (by omega)]
      have : ((j : Int) == x) = true := by rw [beq_iff_eq]; omega
      rw [this, Bool.or_true]
    · rw [if_neg e]
      have : ((j : Int) == x) = false := by rw [beq_eq_false_iff_ne]; omega
      rw [this, Bool.or_false]
  · have e : ¬ x.toNat = j := by omega
    rw [if_neg e, List.getElem?_eq_none (by simpa using hj)]
    rfl

/-! ### Steps -/
def stpI (n : Nat) (a b : Int) : Int := (b - a) % (n : Int)
def stpL (n : Nat) (y : List Int) : List Int := (List.range (y.length - 1)).map fun i => stpI n (y.getD i 0) (y.getD (i + 1) 0)
theorem stpL_length (n : Nat) (y : List Int) : (stpL n y).length = y.length - 1 := by simp [stpL]
theorem stpI_range {n : Nat} (hn : 0 < n) (a b : Int) : 0 ≤ stpI n a b ∧ stpI n a b < n :=
  ⟨Int.emod_nonneg _ (by omega), Int.emod_lt_of_pos _ (by omega)⟩
theorem stpI_impl {n : Nat} {a b : Int} (ha : 0 ≤ a ∧ a < n) (hb : 0 ≤ b ∧ b < n) : Int.tmod (b - a + n) n = stpI n a b := by
  unfold stpI
  rw [Int.tmod_eq_emod_of_nonneg (by omega), Int.add_emod_right]
theorem stpI_spec {n : Nat} (hn : 0 < n) (a b : Int) : Int.tmod (Int.tmod (b - a) n + n) n = stpI n a b := by
  have h1 : -(n : Int) < Int.tmod (b - a) n := by
    have := Int.lt_tmod_of_pos (b - a) (show (0 : Int) < n by omega)
    omega
  unfold stpI
  rw [Int.tmod_eq_emod_of_nonneg (by omega), Int.add_emod_right, Int.tmod_eq_emod]
  split
  · simp
  · rw [Int.natAbs_natCast, Int.sub_emod, Int.emod_emod_of_dvd _ (Int.dvd_refl _), Int.emod_self, Int.sub_zero, Int.emod_emod_of_dvd _ (Int.dvd_refl _)]
theorem stpI_ne {n : Nat} {a b : Int} (ha : 0 ≤ a ∧ a < n) (hb : 0 ≤ b ∧ b < n) (h : a ≠ b) : stpI n a b ≠ 0 := by
  unfold stpI
  intro e
  obtain ⟨k, hk⟩ := Int.dvd_of_emod_eq_zero e
  have h1 : -(n : Int) < n * k := by omega
  have h2 : (n : Int) * k < n := by omega
  have hn : (0 : Int) < n := by omega
  have hk0 : k = 0 := by
    rcases Int.lt_trichotomy k 0 with h3 | h3 | h3
    · have : (n : Int) * k ≤ n * (-1) := Int.mul_le_mul_of_nonneg_left (by omega) (by omega)
      omega
    · exact h3
    · have : (n : Int) * 1 ≤ n * k := Int.mul_le_mul_of_nonneg_left (by omega) (by omega)
      omega
  rw [hk0] at hk
  omega
def stpB (n : Nat) (y : List Int) : Bool := decide (stpL n y).Nodup
/-- Numbers that are different, and none is 0. -/
def diffB (s : List Int) : Bool := !s.contains 0 && decide s.Nodup
theorem diffB_steps {n : Nat} {y : List Int} (h1 : ∀ x ∈ y, 0 ≤ x ∧ x < n) (h2 : y.Nodup) : diffB (stpL n y) = stpB n y := by
  unfold diffB stpB
  have : (stpL n y).contains 0 = false := by
    rw [Bool.eq_false_iff]
    intro h
    rw [List.contains_iff_mem] at h
    unfold stpL at h
    obtain ⟨i, hi, e⟩ := List.mem_map.1 h
    have hi' : i < y.length - 1 := by simpa using hi
    have hm : ∀ j, j < y.length → y.getD j 0 ∈ y := fun j hj => by rw [List.getD_eq_getElem?_getD, List.getElem?_eq_getElem hj]; exact List.getElem_mem _
    refine stpI_ne (h1 _ (hm i (by omega))) (h1 _ (hm (i + 1) (by omega))) (fun e2 => ?_) e
    rw [List.getD_eq_getElem?_getD, List.getD_eq_getElem?_getD, List.getElem?_eq_getElem (by omega), List.getElem?_eq_getElem (by omega)] at e2
    simp only [Option.getD_some] at e2
    have := (List.getElem_inj h2).1 e2
    omega
  rw [this]; rfl
theorem stpL_take (n : Nat) (y : List Int) (i : Nat) (hi : i + 1 < y.length) : (stpL n y).take (i + 1) = (stpL n y).take i ++ [stpI n (y.getD i 0) (y.getD (i + 1) 0)] := by
  rw [take_snoc _ 0 i (by rw [stpL_length]; omega)]
  congr 2
  unfold stpL
  rw [List.getD_eq_getElem?_getD, List.getElem?_map, List.getElem?_range (by omega)]
  rfl
theorem stpB_bad {n : Nat} {y : List Int} {i : Nat} (hi : i + 1 < y.length) (h : ((stpL n y).take i).contains (stpI n (y.getD i 0) (y.getD (i + 1) 0)) = true) : stpB n y = false := by
  unfold stpB
  rw [decide_eq_false_iff_not]
  intro hn
  have h3 := nodup_take hn (i + 1)
  rw [stpL_take n y i hi] at h3
  exact (nodup_snoc.1 h3).2 (List.contains_iff_mem.1 h)
theorem stpL_snoc (n : Nat) (y : List Int) (x : Int) (hy : 0 < y.length) : stpL n (y ++ [x]) = stpL n y ++ [stpI n (y.getD (y.length - 1) 0) x] := by
  have hl : (y ++ [x]).length - 1 = (y.length - 1) + 1 := by rw [List.length_append, List.length_singleton]; omega
  unfold stpL
  rw [hl, List.range_succ, List.map_append]
  congr 1
  · apply List.map_congr_left
    intro i hi
    have hi' : i < y.length - 1 := by simpa using hi
    rw [List.getD_eq_getElem?_getD, List.getD_eq_getElem?_getD, List.getElem?_append_left (by omega), List.getElem?_append_left (by omega)]
    rw [List.getD_eq_getElem?_getD, List.getD_eq_getElem?_getD]
  · rw [List.map_singleton]
    congr 2
    · rw [List.getD_eq_getElem?_getD, List.getD_eq_getElem?_getD, List.getElem?_append_left (by omega)]
    · rw [List.getD_eq_getElem?_getD, List.getElem?_append_right (by omega), show y.length - 1 + 1 - y.length = 0 by omega]
      rfl
theorem stpB_snoc {n : Nat} {y : List Int} {x : Int} (hy : 0 < y.length) (h : stpB n y = false) : stpB n (y ++ [x]) = false := by
  unfold stpB at *
  rw [decide_eq_false_iff_not] at *
  rw [stpL_snoc n y x hy]
  exact fun hn => h (nodup_snoc.1 hn).1
theorem stpB_none {n : Nat} {nums : List Int} : ∀ (f : Nat) {y : List Int}, 0 < y.length → stpB n y = false → (ordN nums f y).filter (stpB n) = []
  | 0, y, _, h => by simp [ordN, h]
  | f + 1, y, hy, h => by
    have e : ordN nums (f + 1) y = nums.flatMap fun x => if y.contains x = true then [] else ordN nums f (y ++ [x]) := rfl
    rw [e, List.filter_flatMap]
    rw [List.flatMap_eq_nil_iff]
    intro x _
    split
    · rfl
    · exact stpB_none f (by simp) (stpB_snoc hy h)
/-- How many orders have different steps. -/
def cntS (n f : Nat) (y : List Int) : Nat := ((ordN (seqL 0 n) f y).filter (stpB n)).length
/-- Of those whose next number is one of the first c. -/
def cntP (n f : Nat) (y : List Int) (c : Nat) : Nat := ((ordP (seqL 0 n) f y c).filter (stpB n)).length
theorem cntP_zero (n f : Nat) (y : List Int) : cntP n f y 0 = 0 := rfl
theorem cntP_all (n f : Nat) (y : List Int) : cntP n f y n = cntS n (f + 1) y := by
  have := ordP_all (seqL 0 n) f y
  rw [seqL_length] at this
  unfold cntP cntS
  rw [this]
theorem cntP_succ (n f : Nat) (y : List Int) (c : Nat) (hc : c < n) (hy : 0 < y.length) : cntP n f y (c + 1) = cntP n f y c + (if y.contains (c : Int) = false ∧ stpB n (y ++ [(c : Int)]) = true then cntS n f (y ++ [(c : Int)]) else 0) := by
  unfold cntP
  rw [ordP_succ _ _ _ _ (by rw [seqL_length]; exact hc), List.filter_append, List.length_append, seqL_getD 0 n c hc, Int.zero_add]
  congr 1
  cases h1 : y.contains (c : Int) with
  | true => simp
  | false =>
    cases h2 : stpB n (y ++ [(c : Int)]) with
    | true => rw [if_neg (by simp), if_pos ⟨rfl, rfl⟩]; rfl
    | false => rw [if_neg (by simp), if_neg (by simp), stpB_none f (by simp) h2]; rfl
theorem cntS_zero (n : Nat) (y : List Int) (h : stpB n y = true) : cntS n 0 y = 1 := by simp [cntS, ordN, h]
end Go.Abs
