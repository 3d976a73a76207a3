/- Plain lists: rounds in which teams meet by digits. No program is named here. -/
import Derived.Test.YtbmpkihggipciaaPl4
import Derived.Test.YtbmpkihggipciaaPl7
import Derived.Test.YtbmpkihggipciaaPl8
set_option linter.unusedSimpArgs false
set_option linter.unusedVariables false
namespace Go.Abs

def xorI (a b : Int) : Int := IntKind.i64.wrap ((BitVec.ofInt IntKind.i64.bits a ^^^ BitVec.ofInt IntKind.i64.bits b).toNat : Int)
/-- The first c teams of the round of x. -/
def digS (x : Int) (c : Nat) : List Int := (List.range 14).map fun (a : Nat) => if a < c then xorI a x else 0
theorem digS_length (x : Int) (c : Nat) : (digS x c).length = 14 := by simp [digS]
theorem digS_zero (x : Int) : digS x 0 = List.replicate 14 0 := by
  unfold digS
  exact List.eq_replicate_iff.2 ⟨by simp, by intro b hb; obtain ⟨a, _, rfl⟩ := List.mem_map.1 hb; rfl⟩
theorem digS_succ (x : Int) (c : Nat) (hc : c < 14) : (digS x c).set c (xorI c x) = digS x (c + 1) := by
  apply List.ext_getElem?
  intro j
  rw [List.getElem?_set, digS_length]
  by_cases e : c = j
  · subst e
    rw [if_pos rfl, if_pos hc]
    unfold digS
    rw [List.getElem?_map, List.getElem?_range hc]
    simp
  · rw [if_neg e]
    unfold digS
    rw [List.getElem?_map, List.getElem?_map]
    by_cases hj : j < 14
    · rw [List.getElem?_range hj]
      simp only [Option.map_some]
      by_cases h1 : j < c
      · rw [if_pos h1, if_pos (by omega)]
      · rw [if_neg h1, if_neg (by omega)]
    · rw [List.getElem?_eq_none (by simpa using hj)]; rfl
/-- All rounds of an order. -/
def digL (n : Nat) (order : List Int) : List Int := order.flatMap fun x => digS x n
theorem digL_length (n : Nat) (order : List Int) : (digL n order).length = order.length * 14 := by
  unfold digL
  induction order with
  | nil => rfl
  | cons x l ih => rw [List.flatMap_cons, List.length_append, digS_length, ih, List.length_cons]; omega
theorem digL_snoc (n : Nat) (order : List Int) (x : Int) : digL n (order ++ [x]) = digL n order ++ digS x n := by simp [digL]
theorem rnd_digL (n : Nat) : ∀ (order : List Int) (i : Nat), i < order.length → rnd (digL n order) i = digS (order.getD i 0) n
  | [], i, h => by simp at h
  | x :: l, 0, _ => by
    unfold rnd digL
    rw [List.flatMap_cons, Nat.zero_mul, List.drop_zero, List.take_append_of_le_length (by simp [digS_length]), List.take_of_length_le (by simp [digS_length])]
    rfl
  | x :: l, i + 1, h => by
    have ih := rnd_digL n l i (by simpa using h)
    unfold rnd at ih ⊢
    unfold digL at ih ⊢
    rw [List.flatMap_cons, show (i + 1) * 14 = 14 + i * 14 by omega, ← List.drop_drop, List.drop_left' (digS_length _ _)]
    exact ih
theorem digS_ok : ∀ n ∈ [2, 4, 8], ∀ x : Nat, x < n → roundB (n : Int) (digS (x : Int) n) = true := by decide +kernel
theorem digL_ok {n : Nat} (hn : n ∈ [2, 4, 8]) {order : List Int} (ho : ∀ x ∈ order, 0 ≤ x ∧ x < n) (hl : order.length ≤ 40) : schedB n order.length (digL n order) = true := by
  unfold schedB
  have h2 : (2 : Int) ≤ n ∧ (n : Int) ≤ 14 := by simp only [List.mem_cons, List.not_mem_nil, or_false] at hn; omega
  rw [decide_eq_true h2, decide_eq_true hl, Bool.true_and, Bool.true_and]
  refine all_true_of fun i hi => ?_
  rw [rnd_digL n order i hi]
  have hm : order.getD i 0 ∈ order := by rw [List.getD_eq_getElem?_getD, List.getElem?_eq_getElem hi]; exact List.getElem_mem _
  obtain ⟨h3, h4⟩ := ho _ hm
  obtain ⟨x, hx⟩ : ∃ x : Nat, order.getD i 0 = x := ⟨(order.getD i 0).toNat, by omega⟩
  rw [hx] at h4 ⊢
  exact digS_ok n hn x (by omega)

/-- Is the digit round robin of an order balanced? -/
def balD (n : Nat) (order : List Int) : Bool := balB (carM n order.length (digL n order) order.length)

/-- Orders of numbers that are one greater. -/
def up1 (y : List Int) : List Int := y.map (· + 1)
theorem contains_up1 (y : List Int) (x : Int) : (up1 y).contains (x + 1) = y.contains x := by
  rw [Bool.eq_iff_iff, List.contains_iff_mem, List.contains_iff_mem]
  unfold up1
  rw [List.mem_map]
  constructor
  · rintro ⟨z, hz, e⟩
    have : z = x := by omega
    rw [← this]; exact hz
  · intro h; exact ⟨x, h, rfl⟩
theorem ordN_up1 (nums : List Int) : ∀ (f : Nat) (y : List Int), ordN (up1 nums) f (up1 y) = (ordN nums f y).map up1
  | 0, y => rfl
  | f + 1, y => by
    have h1 : ordN (up1 nums) (f + 1) (up1 y) = (up1 nums).flatMap fun x => if (up1 y).contains x = true then [] else ordN (up1 nums) f (up1 y ++ [x]) := rfl
    have h2 : ordN nums (f + 1) y = nums.flatMap fun x => if y.contains x = true then [] else ordN nums f (y ++ [x]) := rfl
    rw [h1, h2, List.map_flatMap]
    conv => lhs; unfold up1
    rw [List.flatMap_map]
    rw [List.flatMap_def, List.flatMap_def]
    congr 1
    apply List.map_congr_left
    intro x _
    show (if (up1 y).contains (x + 1) = true then [] else ordN (up1 nums) f (up1 y ++ [x + 1])) = _
    rw [contains_up1]
    split
    · rfl
    · have : up1 y ++ [x + 1] = up1 (y ++ [x]) := by simp [up1]
      rw [this, ordN_up1 nums f]
theorem seqL_up1 (m : Nat) : seqL 1 m = up1 (seqL 0 m) := by
  unfold seqL up1
  rw [List.map_map]
  apply List.map_congr_left
  intro i _
  show (1 : Int) + i = 0 + i + 1
  omega
/-- The first balanced order, if there is one. -/
def firstD (n : Nat) : Option (List Int) := (ordN (seqL 1 (n - 1)) (n - 1) []).find? (balD n)

theorem ordN_mem {nums : List Int} : ∀ (f : Nat) (y z : List Int), z ∈ ordN nums f y → z.length = y.length + f ∧ ∀ x ∈ z, x ∈ y ∨ x ∈ nums
  | 0, y, z, h => by
    simp only [ordN, List.mem_singleton] at h
    subst h
    exact ⟨rfl, fun x hx => .inl hx⟩
  | f + 1, y, z, h => by
    simp only [ordN, List.mem_flatMap] at h
    obtain ⟨x, hx, h⟩ := h
    split at h
    · simp at h
    · obtain ⟨h1, h2⟩ := ordN_mem f (y ++ [x]) z h
      refine ⟨by rw [h1]; simp; omega, fun w hw => ?_⟩
      rcases h2 w hw with h3 | h3
      · rcases List.mem_append.1 h3 with h4 | h4
        · exact .inl h4
        · rw [List.mem_singleton] at h4; rw [h4]; exact .inr hx
      · exact .inr h3
theorem mem_seqL {a : Int} {m : Nat} {x : Int} (h : x ∈ seqL a m) : a ≤ x ∧ x < a + m := by
  unfold seqL at h
  obtain ⟨i, hi, rfl⟩ := List.mem_map.1 h
  have : i < m := by simpa using hi
  constructor <;> omega
/-- All the orders with numbers from 1 on. -/
def digOrders (m : Nat) : List (List Int) := ordN (seqL 1 m) m []
theorem digOrders_map (m : Nat) : digOrders m = (ordN (seqL 0 m) m []).map up1 := by
  unfold digOrders
  rw [seqL_up1]
  exact ordN_up1 _ _ []
/-- What FirstDigitOrder answers. -/
def isDig (n : Int) : Bool := decide (n = 2 ∨ n = 4 ∨ n = 8)
def fdR (n : Int) : List Int := if isDig n = true then ((digOrders (n.toNat - 1)).find? (balD n.toNat)).getD [] else []
def fdC (n : Int) : Int := if isDig n = true then (if ((digOrders (n.toNat - 1)).find? (balD n.toNat)).isSome = true then 0 else 4) else 2
theorem find_first {p : List Int → Bool} {L1 L2 : List (List Int)} {z : List Int} (h : ∀ w ∈ L1, p w = false) (hz : p z = true) : (L1 ++ z :: L2).find? p = some z := by
  rw [List.find?_append, List.find?_eq_none.2 (fun w hw => by simp [h w hw]), List.find?_cons, hz]; rfl
theorem fdR_length (n : Int) : (fdR n).length ≤ 7 := by
  unfold fdR
  split
  · rename_i h
    have h := of_decide_eq_true h
    cases hf : (digOrders (n.toNat - 1)).find? (balD n.toNat) with
    | none => simp
    | some z =>
      have h1 := List.mem_of_find?_eq_some hf
      have h2 := (ordN_mem _ _ _ h1).1
      show z.length ≤ 7
      rw [h2]
      simp only [List.length_nil]
      omega
  · simp

theorem find_up {p : List Int → Bool} {M : List (List Int)} {i : Nat} (hi : i < M.length) (h : p (up1 (M.getD i [])) = true) (hb : ∀ j, j < i → p (up1 (M.getD j [])) = false) : (M.map up1).find? p = some (up1 (M.getD i [])) := by
  have e : M = M.take i ++ M.getD i [] :: M.drop (i + 1) := by
    rw [List.getD_eq_getElem?_getD, List.getElem?_eq_getElem hi]
    simp
  have e2 : M.map up1 = (M.take i).map up1 ++ up1 (M.getD i []) :: (M.drop (i + 1)).map up1 := by
    conv => lhs; rw [e]
    rw [List.map_append, List.map_cons]
  rw [e2]
  refine find_first (fun w hw => ?_) h
  obtain ⟨y, hy, rfl⟩ := List.mem_map.1 hw
  obtain ⟨j, hj, rfl⟩ := List.mem_iff_getElem.1 hy
  have hj2 : j < i := by rw [List.length_take] at hj; omega
  have h3 := hb j hj2
  rw [List.getD_eq_getElem?_getD, List.getElem?_eq_getElem (by omega)] at h3
  rw [List.getElem_take]
  exact h3
theorem find_up_none {p : List Int → Bool} {M : List (List Int)} (hb : ∀ j, j < M.length → p (up1 (M.getD j [])) = false) : (M.map up1).find? p = none := by
  rw [List.find?_eq_none]
  intro w hw
  obtain ⟨y, hy, rfl⟩ := List.mem_map.1 hw
  obtain ⟨j, hj, rfl⟩ := List.mem_iff_getElem.1 hy
  have h3 := hb j hj
  rw [List.getD_eq_getElem?_getD, List.getElem?_eq_getElem hj] at h3
  simp only [Option.getD_some] at h3
  simp [h3]
theorem up1_snoc (y : List Int) (k : Nat) (hk : k < y.length) : up1 (y.take (k + 1)) = up1 (y.take k) ++ [y.getD k 0 + 1] := by
  unfold up1
  rw [List.take_add_one, List.getElem?_eq_getElem hk, List.map_append, List.getD_eq_getElem?_getD, List.getElem?_eq_getElem hk]
  rfl
theorem up1_length (y : List Int) : (up1 y).length = y.length := by simp [up1]
end Go.Abs
