/- Plain lists: rounds and schedules that are right. No program is named here. -/
import Derived.Test.YtbmpkihggipciaaAbs9
set_option linter.unusedSimpArgs false
set_option linter.unusedVariables false
namespace Go.Abs

def okAt (n : Int) (r : List Int) (a : Nat) : Bool := if n ≤ a then r.getD a 0 == 0 else decide (0 ≤ r.getD a 0 ∧ r.getD a 0 ≤ n - 1) && r.getD (r.getD a 0).toNat 0 == a
def roundB (n : Int) (r : List Int) : Bool := decide (2 ≤ n ∧ n ≤ 14) && (List.range 14).all (okAt n r)
/-- Round i of rounds that lie one behind the other. -/
def rnd (l : List Int) (i : Nat) : List Int := (l.drop (i * 14)).take 14
def schedB (n : Int) (k : Nat) (l : List Int) : Bool := decide (2 ≤ n ∧ n ≤ 14) && decide (k ≤ 40) && (List.range k).all fun i => roundB n (rnd l i)

theorem rnd_length (l : List Int) (i k : Nat) (h : l.length = k * 14) (hi : i < k) : (rnd l i).length = 14 := by
  unfold rnd; rw [List.length_take, List.length_drop]; omega

theorem all_false_of {n i : Nat} {p : Nat → Bool} (hi : i < n) (h : p i = false) : (List.range n).all p = false := by
  rw [List.all_eq_false]; exact ⟨i, by simpa using hi, by simp [h]⟩
theorem all_true_of {n : Nat} {p : Nat → Bool} (h : ∀ x, x < n → p x = true) : (List.range n).all p = true := by
  rw [List.all_eq_true]; intro x hx; exact h x (by simpa using hx)
theorem any_true_of {n i : Nat} {p : Nat → Bool} (hi : i < n) (h : p i = true) : (List.range n).any p = true := by
  rw [List.any_eq_true]; exact ⟨i, by simpa using hi, h⟩
theorem any_false_of {n : Nat} {p : Nat → Bool} (h : ∀ x, x < n → p x = false) : (List.range n).any p = false := by
  rw [List.any_eq_false]; intro x hx; simp [h x (by simpa using hx)]

theorem roundB_bad {n : Int} {r : List Int} {a : Nat} (ha : a < 14) (h : okAt n r a = false) : roundB n r = false := by
  unfold roundB; rw [all_false_of ha h, Bool.and_false]
theorem roundB_good {n : Int} {r : List Int} (hn : 2 ≤ n ∧ n ≤ 14) (h : ∀ x, x < 14 → okAt n r x = true) : roundB n r = true := by
  unfold roundB; rw [all_true_of h, Bool.and_true]; simp [hn]
theorem roundB_range {n : Int} {r : List Int} (hn : ¬ (2 ≤ n ∧ n ≤ 14)) : roundB n r = false := by
  unfold roundB; simp only [hn, decide_false, Bool.false_and]

def firstI (p : Nat → Bool) (k : Nat) : Int := match (List.range k).find? p with | some i => (i : Int) | none => -1
theorem find_at {p : Nat → Bool} {k a : Nat} (ha : a < k) (h : p a = true) (hb : ∀ x, x < a → p x = false) : (List.range k).find? p = some a := by
  rw [List.find?_range_eq_some]
  refine ⟨h, by simpa using ha, fun x hx => by simp [hb x hx]⟩
theorem firstI_at {p : Nat → Bool} {k a : Nat} (ha : a < k) (h : p a = true) (hb : ∀ x, x < a → p x = false) : firstI p k = a := by
  unfold firstI; rw [find_at ha h hb]
theorem firstI_none {p : Nat → Bool} {k : Nat} (hb : ∀ x, x < k → p x = false) : firstI p k = -1 := by
  unfold firstI
  rw [List.find?_eq_none.2 (by intro x hx; simp [hb x (by simpa using hx)])]
theorem firstI_any (p : Nat → Bool) (k : Nat) : decide (0 ≤ firstI p k) = (List.range k).any p := by
  unfold firstI
  cases h : (List.range k).find? p with
  | none => rw [List.find?_eq_none] at h; rw [List.any_eq_false.2 h]; rfl
  | some i =>
    have h1 := List.find?_some h
    have h2 := List.mem_of_find?_eq_some h
    rw [List.any_eq_true.2 ⟨i, h2, h1⟩]
    simp
theorem schedB_any (n : Int) (k : Nat) (l : List Int) : schedB n k l = (decide (2 ≤ n ∧ n ≤ 14) && decide (k ≤ 40) && !((List.range k).any fun i => !roundB n (rnd l i))) := by
  unfold schedB; congr 1; rw [List.not_any_eq_all_not]; simp
end Go.Abs
