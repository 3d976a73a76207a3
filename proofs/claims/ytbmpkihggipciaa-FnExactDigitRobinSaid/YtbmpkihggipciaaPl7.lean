/- Plain lists: square matrices; how often teams meet; the carry over matrix, its cost and balance. No program is named here. -/
import Derived.Test.YtbmpkihggipciaaPl4
set_option linter.unusedSimpArgs false
set_option linter.unusedVariables false
namespace Go.Abs

def zeroM (n : Nat) : List (List Int) := List.replicate n (List.replicate n 0)
def incR (row : List Int) (b : Int) : List Int := row.set b.toNat (IntKind.i64.wrap (row.getD b.toNat 0 + 1))
theorem incR_length (row : List Int) (b : Int) : (incR row b).length = row.length := by simp [incR]
def incM (M : List (List Int)) (a b : Int) : List (List Int) := M.set a.toNat (incR (M.getD a.toNat []) b)
def SqM (n : Nat) (M : List (List Int)) : Prop := M.length = n ∧ ∀ j, j < n → (M.getD j []).length = n
theorem zeroM_sq (n : Nat) : SqM n (zeroM n) := ⟨by simp [zeroM], fun j hj => by simp [zeroM, List.getD_eq_getElem?_getD, List.getElem?_replicate, hj]⟩
theorem SqM.inc {n : Nat} {M : List (List Int)} (h : SqM n M) {a b : Int} (ha : a.toNat < n) : SqM n (incM M a b) := by
  refine ⟨by simp [incM, h.1], fun j hj => ?_⟩
  unfold incM
  by_cases e : j = a.toNat
  · subst e
    rw [List.getD_eq_getElem?_getD, List.getElem?_set_self (by rw [h.1]; exact ha)]
    show (incR _ b).length = n
    rw [incR_length, h.2 _ ha]
  · rw [List.getD_eq_getElem?_getD, List.getElem?_set_ne (by omega), ← List.getD_eq_getElem?_getD, h.2 _ hj]
theorem SqM.mem {n : Nat} {M : List (List Int)} (h : SqM n M) : ∀ y ∈ M, y.length = n := by
  intro y hy
  obtain ⟨j, hj, rfl⟩ := List.mem_iff_getElem.1 hy
  have := h.2 j (by rw [← h.1]; exact hj)
  rw [List.getD_eq_getElem?_getD, List.getElem?_eq_getElem hj] at this
  exact this
theorem SqM.tot {n : Nat} {M : List (List Int)} (h : SqM n M) : Abs.tot M = n * n := by
  have h1 := h.1
  have h2 := h.mem
  clear h
  have : ∀ (M : List (List Int)), (∀ y ∈ M, y.length = n) → Abs.tot M = M.length * n := by
    intro M
    induction M with
    | nil => intro _; simp [Abs.tot]
    | cons x M ih =>
      intro h
      have e : Abs.tot (x :: M) = x.length + Abs.tot M := by simp [Abs.tot]
      rw [e, ih fun y hy => h y (List.mem_cons_of_mem _ hy), h x List.mem_cons_self, List.length_cons, Nat.succ_mul, Nat.add_comm]
  rw [this M h2, h1]

theorem foldl_range_succ {α : Type} (f : α → Nat → α) (s : α) (n : Nat) : (List.range (n + 1)).foldl f s = f ((List.range n).foldl f s) n := by
  rw [List.range_succ, List.foldl_append]; rfl

/-! How often teams meet. -/
def rowStep (l : List Int) (a : Nat) (row : List Int) (i : Nat) : List Int := if (rnd l i).getD a 0 = a then row else incR row ((rnd l i).getD a 0)
def rowM (n : Nat) (l : List Int) (a i : Nat) : List Int := (List.range i).foldl (rowStep l a) (List.replicate n 0)
theorem rowM_zero (n : Nat) (l : List Int) (a : Nat) : rowM n l a 0 = List.replicate n 0 := rfl
theorem rowM_succ (n : Nat) (l : List Int) (a i : Nat) : rowM n l a (i + 1) = rowStep l a (rowM n l a i) i := foldl_range_succ _ _ _
theorem rowM_length (n : Nat) (l : List Int) (a i : Nat) : (rowM n l a i).length = n := by
  induction i with
  | zero => simp [rowM]
  | succ i ih => rw [rowM_succ]; unfold rowStep; split <;> simp [incR_length, ih]
/-- The matrix while round i is looked at, teams below c having been looked at. -/
def midM (n : Nat) (l : List Int) (i c : Nat) : List (List Int) := (List.range n).map fun a => rowM n l a (if a < c then i + 1 else i)
def meetM (n : Nat) (l : List Int) (k : Nat) : List (List Int) := (List.range n).map fun a => rowM n l a k
theorem midM_zero (n : Nat) (l : List Int) (i : Nat) : midM n l i 0 = meetM n l i := by
  unfold midM meetM; apply List.map_congr_left; intro a _; rw [if_neg (by omega)]
theorem midM_all (n : Nat) (l : List Int) (i : Nat) : midM n l i n = meetM n l (i + 1) := by
  unfold midM meetM; apply List.map_congr_left; intro a ha; rw [if_pos (by simpa using ha)]
theorem meetM_zero (n : Nat) (l : List Int) : meetM n l 0 = zeroM n := by
  unfold meetM zeroM
  exact List.eq_replicate_iff.2 ⟨by simp, by intro b hb; obtain ⟨a, _, rfl⟩ := List.mem_map.1 hb; rfl⟩
theorem midM_sq (n : Nat) (l : List Int) (i c : Nat) : SqM n (midM n l i c) := ⟨by simp [midM], fun j hj => by simp [midM, List.getD_eq_getElem?_getD, hj, rowM_length]⟩
theorem meetM_sq (n : Nat) (l : List Int) (k : Nat) : SqM n (meetM n l k) := by rw [← midM_zero]; exact midM_sq _ _ _ _
theorem midM_getD (n : Nat) (l : List Int) (i c a : Nat) (h : a < n) : (midM n l i c).getD a [] = rowM n l a (if a < c then i + 1 else i) := by simp [midM, List.getD_eq_getElem?_getD, h]
theorem midM_same {n : Nat} {l : List Int} {i c : Nat} (hc : c < n) (h : (rnd l i).getD c 0 = c) : midM n l i (c + 1) = midM n l i c := by
  unfold midM
  apply List.map_congr_left
  intro a _
  by_cases e : a = c
  · subst e
    rw [if_pos (by omega), if_neg (by omega), rowM_succ]
    unfold rowStep
    rw [if_pos h]
  · by_cases e2 : a < c
    · rw [if_pos (by omega), if_pos e2]
    · rw [if_neg (by omega), if_neg e2]
theorem midM_inc {n : Nat} {l : List Int} {i c : Nat} (hc : c < n) (h : ¬ (rnd l i).getD c 0 = c) : midM n l i (c + 1) = incM (midM n l i c) c ((rnd l i).getD c 0) := by
  unfold incM
  rw [Int.toNat_natCast, midM_getD _ _ _ _ _ hc, if_neg (by omega)]
  apply List.ext_getElem?
  intro j
  rw [List.getElem?_set]
  by_cases e : c = j
  · subst e
    rw [if_pos rfl, if_pos (by rw [(midM_sq n l i c).1]; exact hc)]
    unfold midM
    rw [List.getElem?_map, List.getElem?_range hc]
    simp only [Option.map_some]
    rw [if_pos (by omega), rowM_succ]
    unfold rowStep
    rw [if_neg h]
  · rw [if_neg e]
    unfold midM
    rw [List.getElem?_map, List.getElem?_map]
    by_cases hj : j < n
    · rw [List.getElem?_range hj]
      simp only [Option.map_some]
      by_cases e2 : j < c
      · rw [if_pos (by omega), if_pos e2]
      · rw [if_neg (by omega), if_neg e2]
    · rw [List.getElem?_eq_none (by simpa using hj)]; rfl

/-! The carry over matrix. -/
def carT (n k : Nat) (l : List Int) (i t : Nat) (M : List (List Int)) : List (List Int) := (List.range t).foldl (fun M x => incM M ((rnd l i).getD x 0) ((rnd l ((i + 1) % k)).getD x 0)) M
def carM (n k : Nat) (l : List Int) (i : Nat) : List (List Int) := (List.range i).foldl (fun M i => carT n k l i n M) (zeroM n)
theorem carT_zero (n k : Nat) (l : List Int) (i : Nat) (M : List (List Int)) : carT n k l i 0 M = M := rfl
theorem carT_succ (n k : Nat) (l : List Int) (i t : Nat) (M : List (List Int)) : carT n k l i (t + 1) M = incM (carT n k l i t M) ((rnd l i).getD t 0) ((rnd l ((i + 1) % k)).getD t 0) := foldl_range_succ _ _ _
theorem carM_zero (n k : Nat) (l : List Int) : carM n k l 0 = zeroM n := rfl
theorem carM_succ (n k : Nat) (l : List Int) (i : Nat) : carM n k l (i + 1) = carT n k l i n (carM n k l i) := foldl_range_succ _ _ _
theorem carT_sq {n k : Nat} {l : List Int} {i : Nat} {M : List (List Int)} (h : SqM n M) (hr : ∀ x, x < n → ((rnd l i).getD x 0).toNat < n) : ∀ t, t ≤ n → SqM n (carT n k l i t M)
  | 0, _ => h
  | t + 1, ht => by rw [carT_succ]; exact (carT_sq h hr t (by omega)).inc (hr t (by omega))
theorem carM_sq {n k : Nat} {l : List Int} (hr : ∀ i, i < k → ∀ x, x < n → ((rnd l i).getD x 0).toNat < n) : ∀ i, i ≤ k → SqM n (carM n k l i)
  | 0, _ => zeroM_sq n
  | i + 1, hi => by rw [carM_succ]; exact carT_sq (carM_sq hr i (by omega)) (hr i (by omega)) n (Nat.le_refl _)

/-! Cost and balance. -/
def sqStep (s x : Int) : Int := IntKind.i64.wrap (s + IntKind.i64.wrap (x * x))
def costR (row : List Int) (s : Int) (j : Nat) : Int := (List.range j).foldl (fun s j => sqStep s (row.getD j 0)) s
def costM (M : List (List Int)) (i : Nat) : Int := (List.range i).foldl (fun s i => costR (M.getD i []) s (M.getD i []).length) 0
theorem costR_zero (row : List Int) (s : Int) : costR row s 0 = s := rfl
theorem costR_succ (row : List Int) (s : Int) (j : Nat) : costR row s (j + 1) = sqStep (costR row s j) (row.getD j 0) := foldl_range_succ _ _ _
theorem costM_zero (M : List (List Int)) : costM M 0 = 0 := rfl
theorem costM_succ (M : List (List Int)) (i : Nat) : costM M (i + 1) = costR (M.getD i []) (costM M i) (M.getD i []).length := foldl_range_succ _ _ _

/-- Off the diagonal all numbers are 1. -/
def balAt (M : List (List Int)) (i j : Nat) : Bool := decide (i = j) || (M.getD i []).getD j 0 == 1
def balB (M : List (List Int)) : Bool := (List.range M.length).all fun i => (List.range (M.getD i []).length).all fun j => balAt M i j
theorem balB_bad {M : List (List Int)} {i j : Nat} (hi : i < M.length) (hj : j < (M.getD i []).length) (h : balAt M i j = false) : balB M = false := by
  unfold balB
  exact all_false_of hi (all_false_of hj h)
theorem balB_good {M : List (List Int)} (h : ∀ i, i < M.length → ∀ j, j < (M.getD i []).length → balAt M i j = true) : balB M = true := by
  unfold balB
  exact all_true_of fun i hi => all_true_of fun j hj => h i hi j hj
/-- Is it a round robin? -/
def robinB (n k : Nat) (l : List Int) : Bool := decide (k = n - 1 + n % 2) && balB (meetM n l k)
/-- The code of what has to be a round robin of an even number of teams. -/
def codeC (q : Int) (k : Nat) (l : List Int) : Int := if schedB q k l = true then (if (decide (q.toNat % 2 = 1) || !robinB q.toNat k l) = true then 5 else 0) else 1
theorem rnd_toNat {n k : Nat} {l : List Int} (hb : schedB n k l = true) : ∀ i, i < k → ∀ x, x < n → ((rnd l i).getD x 0).toNat < n := by
  intro i hi x hx
  have h := (roundB_at ((schedB_at hb).2.2 i hi) (a := x) (by omega)).2
  omega
end Go.Abs
