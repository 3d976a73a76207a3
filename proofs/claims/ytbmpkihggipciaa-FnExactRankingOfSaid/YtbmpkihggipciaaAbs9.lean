/- The small logic, ninth text: slices of integers (k cells an element) that are read, and fresh ones. No program is named here. -/
import Derived.Test.YtbmpkihggipciaaAbs8
set_option linter.unusedSimpArgs false
set_option linter.unusedVariables false
namespace Go.Abs
open Go Go.RowKit

/-- A slice of n elements, k integers each, reads l. -/
def Rd (k : Nat) (H : AH) (v : Value) (n : Nat) (l : List Int) : Prop :=
  l.length = n * k ∧ ((n = 0 ∧ ∃ a c, v = .slice a 0 c ∧ (a = none → c = 0)) ∨ ∃ i o u c r, v = .slice (some ⟨i, o, u⟩) n c ∧ H.row i = some r ∧ o + n * k ≤ r.cells.length ∧ seg r.cells o (n * k) = ints l)

/-- A slice that is all of its row, which lies in [lo, hi). -/
def Fr (k : Nat) (ty : TypeId) (lo hi : Nat) (H : AH) (v : Value) (n : Nat) (l : List Int) : Prop :=
  l.length = n * k ∧ ((n = 0 ∧ v = .slice none 0 0) ∨ ∃ i, lo ≤ i ∧ i < hi ∧ v = .slice (some ⟨i, 0, some k⟩) n n ∧ H.row i = some ⟨ty, true, ints l⟩)

theorem Fr.rd {k ty lo hi n : Nat} {H : AH} {v : Value} {l : List Int} (h : Fr k ty lo hi H v n l) : Rd k H v n l := by
  refine ⟨h.1, ?_⟩
  rcases h.2 with h2 | ⟨i, h1, h2, rfl, hr⟩
  · exact .inl ⟨h2.1, none, 0, h2.2, fun _ => rfl⟩
  · exact .inr ⟨i, 0, some k, n, _, rfl, hr, by rw [ints_length, h.1]; omega, seg_all _ _ (by rw [ints_length, h.1])⟩

theorem Fr.same {k ty lo hi n : Nat} {H H' : AH} {v : Value} {l : List Int} (h : Fr k ty lo hi H v n l) (hs : ∀ i, lo ≤ i → i < hi → H'.row i = H.row i) : Fr k ty lo hi H' v n l := by
  refine ⟨h.1, ?_⟩
  rcases h.2 with h2 | ⟨i, h1, h2, hv, hr⟩
  · exact .inl h2
  · exact .inr ⟨i, h1, h2, hv, by rw [hs i h1 h2]; exact hr⟩
theorem Fr.wide {k ty lo hi lo' hi' n : Nat} {H : AH} {v : Value} {l : List Int} (h : Fr k ty lo hi H v n l) (h1 : lo' ≤ lo) (h2 : hi ≤ hi') : Fr k ty lo' hi' H v n l := by
  refine ⟨h.1, ?_⟩
  rcases h.2 with h3 | ⟨i, h3, h4, hv, hr⟩
  · exact .inl h3
  · exact .inr ⟨i, by omega, by omega, hv, hr⟩

theorem Rd.same {k n : Nat} {H H' : AH} {v : Value} {l : List Int} (h : Rd k H v n l) (hs : ∀ i r, H.row i = some r → H'.row i = some r) : Rd k H' v n l := by
  refine ⟨h.1, ?_⟩
  rcases h.2 with h2 | ⟨i, o, u, c, r, hv, hr, h3⟩
  · exact .inl h2
  · exact .inr ⟨i, o, u, c, r, hv, hs _ _ hr, h3⟩

theorem Rd.len {k n : Nat} {H : AH} {v : Value} {l : List Int} (h : Rd k H v n l) (H' : AH) : asSl v (.val (.int .i64 0) H') (fun _ _ _ n _ => .val (.int .i64 (n : Int)) H') = .val (.int .i64 (n : Int)) H' := by
  rcases h.2 with ⟨rfl, a, c, rfl, _⟩ | ⟨i, o, u, c, r, rfl, hr, h3⟩
  · cases a <;> rfl
  · rfl

theorem Rd.get {k n : Nat} {H : AH} {v : Value} {l : List Int} (h : Rd k H v n l) (hn : 0 < n) :
    ∃ i o u c r, v = .slice (some ⟨i, o, u⟩) n c ∧ H.row i = some r ∧ o + n * k ≤ r.cells.length ∧ (∀ j, j < n * k → r.cells[o + j]? = some (.int .i64 (l.getD j 0))) ∧
      (∀ j m, j + m ≤ n * k → seg r.cells (o + j) m = ints ((l.drop j).take m)) := by
  rcases h.2 with ⟨rfl, _⟩ | ⟨i, o, u, c, r, rfl, hr, h3, h4⟩
  · omega
  · have key : ∀ j, j < n * k → r.cells[o + j]? = (ints l)[j]? := by
      intro j hj
      rw [← h4]; simp [seg, hj]
    refine ⟨i, o, u, c, r, rfl, hr, h3, fun j hj => ?_, fun j m hjm => ?_⟩
    · rw [key j hj, ints_get? l j (by rw [h.1]; exact hj)]
    · rw [← ints_seg, ← h4]
      apply List.ext_getElem?
      intro x
      simp only [seg, List.getElem?_take, List.getElem?_drop]
      by_cases hx : x < m
      · rw [if_pos hx, if_pos hx, if_pos (by omega)]
        congr 1; omega
      · rw [if_neg hx, if_neg hx]

theorem Rd.one {k n : Nat} {H : AH} {v : Value} {l : List Int} (h : Rd k H v n l) : v.oneCell' = true := by
  rcases h.2 with ⟨_, a, c, rfl, _⟩ | ⟨i, o, u, c, r, rfl, _⟩ <;> rfl
theorem Fr.get {k ty lo hi n : Nat} {H : AH} {v : Value} {l : List Int} (h : Fr k ty lo hi H v n l) (hn : 0 < n) :
    ∃ i, lo ≤ i ∧ i < hi ∧ v = .slice (some ⟨i, 0, some k⟩) n n ∧ H.row i = some ⟨ty, true, ints l⟩ := by
  rcases h.2 with ⟨h3, _⟩ | h3
  · omega
  · exact h3
theorem Fr.set {k ty lo hi n i : Nat} {H : AH} {l l' : List Int} (h : Fr k ty lo hi H (.slice (some ⟨i, 0, some k⟩) n n) n l) (hr : H.row i = some ⟨ty, true, ints l⟩) (h1 : lo ≤ i) (h2 : i < hi) (hl : l'.length = l.length) :
    Fr k ty lo hi (H.setCells i (ints l')) (.slice (some ⟨i, 0, some k⟩) n n) n l' :=
  ⟨by rw [hl]; exact h.1, .inr ⟨i, h1, h2, rfl, by rw [AH.setCells_row, if_pos rfl, hr]; rfl⟩⟩

/-- Numbers one behind the other. -/
def seqL (a : Int) (n : Nat) : List Int := (List.range n).map fun (i : Nat) => a + i
theorem seqL_length (a : Int) (n : Nat) : (seqL a n).length = n := by simp [seqL]
theorem seqL_getD (a : Int) (n i : Nat) (h : i < n) : (seqL a n).getD i 0 = a + i := by simp [seqL, h]

/-- The first m cells marked. -/
def markL (a : Int) (l : List Int) (m : Nat) : List Int := seqL a m ++ l.drop m
theorem markL_length (a : Int) (l : List Int) (m : Nat) (h : m ≤ l.length) : (markL a l m).length = l.length := by simp [markL, seqL_length]; omega
theorem markL_zero (a : Int) (l : List Int) : markL a l 0 = l := by simp [markL, seqL]
theorem markL_all (a : Int) (l : List Int) : markL a l l.length = seqL a l.length := by simp [markL]
theorem markL_set (a : Int) (l : List Int) (m : Nat) (h : m < l.length) : (markL a l m).set m (a + m) = markL a l (m + 1) := by
  apply List.ext_getElem?
  intro i
  simp only [markL, seqL, List.getElem?_set, List.length_append, List.length_map, List.length_range, List.length_drop, List.getElem?_append, List.getElem?_map, List.getElem?_range, List.getElem?_drop]
  by_cases h1 : i = m
  · subst h1; simp [List.getElem?_range]; omega
  · by_cases h2 : i < m
    · have : ¬ m = i := by omega
      simp [h1, h2, this, List.getElem?_range, show i < m + 1 by omega]
    · have : ¬ m = i := by omega
      have h3 : ¬ i < m + 1 := by omega
      simp only [this, h2, h3, if_false]
      congr 1; omega

theorem zeros_one (z : List Value) : zeros 1 z = z := by simp [zeros]
theorem zeros_zero (z : List Value) : zeros 0 z = [] := by simp [zeros]

theorem AH.setCells_setCells (H : AH) (i : Nat) (a b : List Value) : (H.setCells i a).setCells i b = H.setCells i b := by
  unfold AH.setCells
  simp only [AH.mk.injEq, true_and]
  funext j
  by_cases h : j = i
  · subst h; simp only [if_true]; cases H.row j <;> rfl
  · simp only [h, if_false]

/-- An append to a fresh slice gives a fresh slice. -/
theorem appE_fr {P : Program} {E : TI} {k ty lo hi n c : Nat} {H : AH} {v : Value} {l m : List Int} {K : Value → AH → Prop} (h : Fr k ty lo hi H v n l) (hk : E.size = k) (hk0 : 0 < k) (hm : m.length = c * k) (hc : 0 < c) (hb : E.bytes ≤ 32768) (hn : n + c ≤ 4294967296) (hhi : hi ≤ H.next)
    (hK : ∀ v' H', H'.next = H.next + 1 → (∀ i, ¬(lo ≤ i ∧ i < hi) → i < H.next → H'.row i = H.row i) → Fr k ty H.next (H.next + 1) H' v' (n + c) (l ++ m) → K v' H') :
    runOut P H (appE E ty v (ints m) c H) K := by
  subst hk
  have hl := h.1
  unfold appE
  rw [if_neg (by omega)]
  rcases h.2 with ⟨rfl, rfl⟩ | ⟨i, h1, h2, rfl, hr⟩
  · simp only [asSl_nil, runOut_need, runOut_val]
    have : l = [] := List.eq_nil_of_length_eq_zero (by omega)
    subst this
    refine ⟨⟨by omega, hb⟩, hK _ _ rfl (fun i _ hi => by rw [AH.push_row, if_neg (by omega)]) ⟨by simp [hm], .inr ⟨H.next, by omega, by omega, by simp, by rw [AH.push_row, if_pos rfl]; rfl⟩⟩⟩
  · simp only [asSl_some, hr, bindO_some, runOut_need, Nat.zero_add, ints_length, hl]
    refine ⟨⟨by omega, hb, Nat.le_refl _, .inl rfl⟩, ?_⟩
    rw [if_neg (by rw [Nat.add_mul]; have := Nat.mul_pos hc hk0; omega)]
    simp only [runOut_need, runOut_val]
    refine ⟨⟨trivial, trivial, hk0, trivial, trivial⟩, hK _ _ rfl (fun j hj hj2 => ?_) ⟨by simp [hm, hl, Nat.add_mul], .inr ⟨H.next, by omega, by omega, rfl, ?_⟩⟩⟩
    · rw [AH.push_row, if_neg (by rw [AH.drop_next]; omega), AH.drop_row, if_neg (by omega)]
    · rw [AH.push_row, AH.drop_next, if_pos rfl, seg_all _ _ (by rw [ints_length, hl]), ints_append]

theorem push_setCells (H : AH) (ty : TypeId) (rw : Bool) (cs ds : List Value) : (H.push ⟨ty, rw, cs⟩).setCells H.next ds = H.push ⟨ty, rw, ds⟩ := by
  unfold AH.setCells AH.push
  simp only [AH.mk.injEq, true_and]
  funext j
  by_cases h : j = H.next
  · subst h; simp
  · simp only [h, if_false]

theorem zeros_ints (n k : Nat) : zeros n (ints (List.replicate k 0)) = ints (List.replicate (n * k) 0) := by
  unfold zeros
  induction n with
  | zero => simp [ints]
  | succ n ih =>
    rw [List.replicate_succ, List.flatten_cons, ih, ints_append, List.replicate_append_replicate, Nat.succ_mul, Nat.add_comm]

/-- The first a elements of k cells copied. -/
def copyL (k : Nat) (l : List Int) (n a : Nat) : List Int := l.take (a * k) ++ List.replicate ((n - a) * k) 0
theorem copyL_length (k : Nat) (l : List Int) (n a : Nat) (hl : l.length = n * k) (ha : a ≤ n) : (copyL k l n a).length = n * k := by
  unfold copyL
  rw [List.length_append, List.length_take, List.length_replicate, hl, Nat.min_eq_left (Nat.mul_le_mul_right _ ha), ← Nat.add_mul]
  congr 1; omega
theorem copyL_zero (k : Nat) (l : List Int) (n : Nat) : copyL k l n 0 = List.replicate (n * k) 0 := by simp [copyL]
theorem copyL_all (k : Nat) (l : List Int) (n : Nat) (hl : l.length = n * k) : copyL k l n n = l := by simp [copyL, ← hl]
theorem copyL_step (k : Nat) (l : List Int) (n a : Nat) (hl : l.length = n * k) (ha : a < n) : splice (ints (copyL k l n a)) (a * k) (ints ((l.drop (a * k)).take k)) = ints (copyL k l n (a + 1)) := by
  have h1 : a * k + k ≤ n * k := by
    have := Nat.mul_le_mul_right k (show a + 1 ≤ n by omega)
    rwa [Nat.succ_mul] at this
  rw [ints_splice]
  congr 1
  have e1 : ((l.drop (a * k)).take k).length = k := by rw [List.length_take, List.length_drop]; omega
  have e2 : (l.take (a * k)).length = a * k := by rw [List.length_take]; omega
  unfold copyL
  rw [e1]
  have t1 : (l.take (a * k) ++ List.replicate ((n - a) * k) 0).take (a * k) = l.take (a * k) := by rw [List.take_append_of_le_length (by omega), List.take_of_length_le (by omega)]
  have t2 : (l.take (a * k) ++ List.replicate ((n - a) * k) (0 : Int)).drop (a * k + k) = List.replicate ((n - (a + 1)) * k) 0 := by
    rw [List.drop_append, e2, List.drop_of_length_le (by omega), List.nil_append, List.drop_replicate]
    congr 1
    have : (n - a) * k = (n - (a + 1)) * k + k := by rw [show n - a = (n - (a + 1)) + 1 by omega, Nat.succ_mul]
    omega
  rw [t1, t2, Nat.succ_mul, List.take_add]
theorem copyL_set (l : List Int) (n a : Nat) (hl : l.length = n) (ha : a < n) : (copyL 1 l n a).set a (l.getD a 0) = copyL 1 l n (a + 1) := by
  have h := copyL_step 1 l n a (by omega) ha
  simp only [Nat.mul_one] at h
  have e : (l.drop a).take 1 = [l.getD a 0] := by
    rw [List.drop_eq_getElem_cons (by omega), List.take_succ_cons, List.take_zero]
    simp [show a < l.length by omega]
  rw [e] at h
  rw [ints_splice, ints_inj] at h
  rw [← h]
  have hc := copyL_length 1 l n a (by omega) (by omega)
  rw [List.set_eq_take_append_cons_drop, if_pos (by omega)]
  simp
end Go.Abs
