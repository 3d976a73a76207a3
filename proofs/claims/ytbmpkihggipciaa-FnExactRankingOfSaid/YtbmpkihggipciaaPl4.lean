/- Plain lists: the meetings of a schedule with results, one after the other; sums over them. No program is named here. -/
import Derived.Test.YtbmpkihggipciaaPl3
set_option linter.unusedSimpArgs false
set_option linter.unusedVariables false
namespace Go.Abs

/-- The points of the first team of a pair. -/
def wonI (v : Int) : Int := if v = 1 then 2 else if v = 2 then 0 else 1
/-- A meeting as one of its teams sees it: round, own number, the other one's, own points. -/
abbrev Ev := Nat × Int × Int × Int
def evPair (i : Nat) (p : List Int) (o : Int) : List Ev := [(i, p.getD 0 0, p.getD 1 0, o), (i, p.getD 1 0, p.getD 0 0, 2 - o)]
/-- The first k pairs of a round. -/
def evRound (n i : Nat) (r x : List Int) (k : Nat) : List Ev := (List.range k).flatMap fun j => evPair i ((pairsL r n).getD j []) (wonI (x.getD j 0))
theorem evRound_zero (n i : Nat) (r x : List Int) : evRound n i r x 0 = [] := rfl
theorem evRound_succ (n i : Nat) (r x : List Int) (k : Nat) : evRound n i r x (k + 1) = evRound n i r x k ++ evPair i ((pairsL r n).getD k []) (wonI (x.getD k 0)) := by
  simp [evRound, List.range_succ]
/-- The first m rounds. -/
def meets (n : Nat) (l : List Int) (ll : List (List Int)) (m : Nat) : List Ev := (List.range m).flatMap fun i => evRound n i (rnd l i) (ll.getD i []) (pairsL (rnd l i) n).length
theorem meets_zero (n : Nat) (l : List Int) (ll : List (List Int)) : meets n l ll 0 = [] := rfl
theorem meets_succ (n : Nat) (l : List Int) (ll : List (List Int)) (m : Nat) : meets n l ll (m + 1) = meets n l ll m ++ evRound n m (rnd l m) (ll.getD m []) (pairsL (rnd l m) n).length := by
  simp [meets, List.range_succ]

/-- A pair of a round that is right. -/
theorem pairsL_get (r : List Int) (n k : Nat) (h : k < (pairsL r n).length) : ∃ a : Nat, a < n ∧ (a : Int) < r.getD a 0 ∧ (pairsL r n).getD k [] = [(a : Int), r.getD a 0] := by
  unfold pairsL at h ⊢
  rw [List.length_map] at h
  have e : (List.map (fun (a : Nat) => [(a : Int), r.getD a 0]) ((List.range n).filter fun (a : Nat) => decide ((a : Int) < r.getD a 0))).getD k [] = [((((List.range n).filter fun (a : Nat) => decide ((a : Int) < r.getD a 0))[k] : Nat) : Int), r.getD (((List.range n).filter fun (a : Nat) => decide ((a : Int) < r.getD a 0))[k]) 0] := by
    rw [List.getD_eq_getElem?_getD, List.getElem?_map, List.getElem?_eq_getElem h]; rfl
  have hm := List.getElem_mem h
  generalize ((List.range n).filter fun (a : Nat) => decide ((a : Int) < r.getD a 0))[k] = a at e hm
  obtain ⟨h1, h2⟩ := List.mem_filter.1 hm
  exact ⟨a, by simpa using h1, of_decide_eq_true h2, e⟩
theorem roundB_at {n : Int} {r : List Int} (h : roundB n r = true) {a : Nat} (ha : (a : Int) < n) : (2 ≤ n ∧ n ≤ 14) ∧ 0 ≤ r.getD a 0 ∧ r.getD a 0 < n ∧ r.getD (r.getD a 0).toNat 0 = a := by
  unfold roundB at h
  rw [Bool.and_eq_true] at h
  have h1 := of_decide_eq_true h.1
  have h2 := (List.all_eq_true.1 h.2) a (by simp; omega)
  unfold okAt at h2
  rw [if_neg (by omega), Bool.and_eq_true] at h2
  have h3 := of_decide_eq_true h2.1
  exact ⟨h1, h3.1, by omega, by simpa using h2.2⟩
theorem schedB_at {n : Int} {k : Nat} {l : List Int} (h : schedB n k l = true) : (2 ≤ n ∧ n ≤ 14) ∧ k ≤ 40 ∧ ∀ i, i < k → roundB n (rnd l i) = true := by
  unfold schedB at h
  rw [Bool.and_eq_true, Bool.and_eq_true] at h
  exact ⟨of_decide_eq_true h.1.1, of_decide_eq_true h.1.2, fun i hi => (List.all_eq_true.1 h.2) i (by simpa using hi)⟩
theorem resB_at {n k : Nat} {l : List Int} {ll : List (List Int)} (h : resB n k l ll = true) : ll.length ≤ k ∧ ∀ i, i < ll.length → (ll.getD i []).length = (pairsL (rnd l i) n).length ∧ ∀ j, j < (ll.getD i []).length → 0 ≤ (ll.getD i []).getD j 0 ∧ (ll.getD i []).getD j 0 ≤ 2 := by
  unfold resB at h
  rw [Bool.and_eq_true] at h
  refine ⟨of_decide_eq_true h.1, fun i hi => ?_⟩
  have h2 := (List.all_eq_true.1 h.2) i (by simpa using hi)
  unfold resAt at h2
  rw [Bool.and_eq_true] at h2
  exact ⟨by simpa using h2.1, fun j hj => of_decide_eq_true ((List.all_eq_true.1 h2.2) j (by simpa using hj))⟩
theorem wonI_range (v : Int) : 0 ≤ wonI v ∧ wonI v ≤ 2 := by
  unfold wonI
  split
  · omega
  · split <;> omega

/-- To one number something is added. -/
def addAt (l : List Int) (a z : Int) : List Int := l.set a.toNat (IntKind.i64.wrap (l.getD a.toNat 0 + z))
theorem addAt_length (l : List Int) (a z : Int) : (addAt l a z).length = l.length := by simp [addAt]
def sumsF (n : Nat) (f : Int → Int → Int) (es : List Ev) : List Int := es.foldl (fun l e => addAt l e.2.1 (f e.2.2.1 e.2.2.2)) (List.replicate n 0)
theorem sumsF_nil (n : Nat) (f : Int → Int → Int) : sumsF n f [] = List.replicate n 0 := rfl
theorem sumsF_append (n : Nat) (f : Int → Int → Int) (es : List Ev) (e : Ev) : sumsF n f (es ++ [e]) = addAt (sumsF n f es) e.2.1 (f e.2.2.1 e.2.2.2) := by simp [sumsF]
theorem sumsF_length (n : Nat) (f : Int → Int → Int) (es : List Ev) : (sumsF n f es).length = n := by
  unfold sumsF
  have : ∀ (es : List Ev) (l : List Int), (es.foldl (fun l e => addAt l e.2.1 (f e.2.2.1 e.2.2.2)) l).length = l.length := by
    intro es
    induction es with
    | nil => intro l; rfl
    | cons e es ih => intro l; rw [List.foldl_cons, ih, addAt_length]
  rw [this, List.length_replicate]

theorem wrap_range (n : Int) : -9223372036854775808 ≤ IntKind.i64.wrap n ∧ IntKind.i64.wrap n ≤ 9223372036854775807 := by
  unfold IntKind.wrap
  simp only [IntKind.bits, IntKind.signed]
  simp only [Bool.true_and, decide_eq_true_eq, Nat.reduceSub, Int.reducePow]
  split
  · rename_i hh; have hh' : (9223372036854775808 : Int) ≤ n % 18446744073709551616 := of_decide_eq_true hh; omega
  · rename_i hh; have hh' : ¬ (9223372036854775808 : Int) ≤ n % 18446744073709551616 := fun k => hh (decide_eq_true k); omega
theorem set_range {l : List Int} {k : Nat} {z : Int} (hl : ∀ j, -9223372036854775808 ≤ l.getD j 0 ∧ l.getD j 0 ≤ 9223372036854775807) (hz : -9223372036854775808 ≤ z ∧ z ≤ 9223372036854775807) : ∀ j, -9223372036854775808 ≤ (l.set k z).getD j 0 ∧ (l.set k z).getD j 0 ≤ 9223372036854775807 := by
  intro j
  rw [List.getD_eq_getElem?_getD, List.getElem?_set]
  by_cases h : k = j
  · rw [if_pos h]
    split
    · simpa using hz
    · simp
  · rw [if_neg h, ← List.getD_eq_getElem?_getD]; exact hl j
theorem sumsF_range (n : Nat) (f : Int → Int → Int) (es : List Ev) : ∀ j, -9223372036854775808 ≤ (sumsF n f es).getD j 0 ∧ (sumsF n f es).getD j 0 ≤ 9223372036854775807 := by
  unfold sumsF
  have : ∀ (es : List Ev) (l : List Int), (∀ j, -9223372036854775808 ≤ l.getD j 0 ∧ l.getD j 0 ≤ 9223372036854775807) → ∀ j, -9223372036854775808 ≤ (es.foldl (fun l e => addAt l e.2.1 (f e.2.2.1 e.2.2.2)) l).getD j 0 ∧ (es.foldl (fun l e => addAt l e.2.1 (f e.2.2.1 e.2.2.2)) l).getD j 0 ≤ 9223372036854775807 := by
    intro es
    induction es with
    | nil => intro l h; exact h
    | cons e es ih => intro l h; rw [List.foldl_cons]; exact ih _ (set_range h (wrap_range _))
  refine this es _ fun j => ?_
  rw [List.getD_eq_getElem?_getD, List.getElem?_replicate]
  split <;> simp
theorem sumsF_congr {n : Nat} {f g : Int → Int → Int} (h : ∀ a b, f a b = g a b) (es : List Ev) : sumsF n f es = sumsF n g es := by
  have : f = g := by funext a b; exact h a b
  rw [this]
end Go.Abs
