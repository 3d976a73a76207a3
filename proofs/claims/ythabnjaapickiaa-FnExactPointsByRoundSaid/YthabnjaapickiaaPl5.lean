/- Plain lists: points of two teams from their meetings; points by rounds. No program is named here. -/
import Derived.Test.YthabnjaapickiaaPl4
set_option linter.unusedSimpArgs false
set_option linter.unusedVariables false
namespace Go.Abs

/-- What a meeting adds to the points of a and of b from their meetings. -/
def btwStep (a b : Int) (s : Int × Int) (e : Ev) : Int × Int :=
  if e.2.1 = a ∧ e.2.2.1 = b then (IntKind.i64.wrap (s.1 + e.2.2.2), s.2) else if e.2.1 = b ∧ e.2.2.1 = a then (s.1, IntKind.i64.wrap (s.2 + e.2.2.2)) else s
def btw (a b : Int) (es : List Ev) : Int × Int := es.foldl (btwStep a b) (0, 0)
theorem btw_nil (a b : Int) : btw a b [] = (0, 0) := rfl
theorem btw_append (a b : Int) (es : List Ev) (e : Ev) : btw a b (es ++ [e]) = btwStep a b (btw a b es) e := by simp [btw]
theorem btw_pair {a b : Int} (hab : a ≠ b) (es : List Ev) (i : Nat) (p r o : Int) :
    btw a b ((es ++ [(i, p, r, o)]) ++ [(i, r, p, 2 - o)]) = if p = a ∧ r = b then (IntKind.i64.wrap ((btw a b es).1 + o), IntKind.i64.wrap ((btw a b es).2 + (2 - o))) else if p = b ∧ r = a then (IntKind.i64.wrap ((btw a b es).1 + (2 - o)), IntKind.i64.wrap ((btw a b es).2 + o)) else btw a b es := by
  rw [btw_append, btw_append]
  unfold btwStep
  by_cases h1 : p = a ∧ r = b
  · obtain ⟨rfl, rfl⟩ := h1
    simp [hab, Ne.symm hab]
  · by_cases h2 : p = b ∧ r = a
    · obtain ⟨rfl, rfl⟩ := h2
      simp [hab, Ne.symm hab]
    · simp only [h1, h2, if_false]
      rw [if_neg (by rintro ⟨rfl, rfl⟩; exact h2 ⟨rfl, rfl⟩), if_neg (by rintro ⟨rfl, rfl⟩; exact h1 ⟨rfl, rfl⟩)]

/-- The points of a team in each round, one place further. -/
def byRd (a : Int) (R : Nat) (es : List Ev) : List Int := es.foldl (fun l e => if e.2.1 = a then l.set (e.1 + 1) e.2.2.2 else l) (List.replicate (R + 1) 0)
theorem byRd_nil (a : Int) (R : Nat) : byRd a R [] = List.replicate (R + 1) 0 := rfl
theorem byRd_append (a : Int) (R : Nat) (es : List Ev) (e : Ev) : byRd a R (es ++ [e]) = if e.2.1 = a then (byRd a R es).set (e.1 + 1) e.2.2.2 else byRd a R es := by simp [byRd]
theorem byRd_length (a : Int) (R : Nat) (es : List Ev) : (byRd a R es).length = R + 1 := by
  unfold byRd
  have : ∀ (es : List Ev) (l : List Int), (es.foldl (fun l e => if e.2.1 = a then l.set (e.1 + 1) e.2.2.2 else l) l).length = l.length := by
    intro es
    induction es with
    | nil => intro l; rfl
    | cons e es ih => intro l; rw [List.foldl_cons, ih]; split <;> simp
  rw [this, List.length_replicate]
/-- Each number with the one before it added, the first i. -/
def pref : Nat → List Int → List Int
  | 0, l => l
  | i + 1, l => (pref i l).set (i + 1) (IntKind.i64.wrap ((pref i l).getD (i + 1) 0 + (pref i l).getD i 0))
theorem pref_length (i : Nat) (l : List Int) : (pref i l).length = l.length := by
  induction i with
  | zero => rfl
  | succ i ih => simp [pref, ih]
/-- The points of a team after each number of rounds. -/
def ptsBy (n : Nat) (l : List Int) (ll : List (List Int)) (a : Nat) (m : Nat) : List Int := (List.range m).map fun i => (sumsF n (fun _ o => o) (meets n l ll i)).getD a 0
theorem ptsBy_length (n : Nat) (l : List Int) (ll : List (List Int)) (a m : Nat) : (ptsBy n l ll a m).length = m := by simp [ptsBy]
theorem ptsBy_succ (n : Nat) (l : List Int) (ll : List (List Int)) (a m : Nat) : ptsBy n l ll a (m + 1) = ptsBy n l ll a m ++ [(sumsF n (fun _ o => o) (meets n l ll m)).getD a 0] := by simp [ptsBy, List.range_succ]
end Go.Abs
