/- Plain lists: rounds in another order, the least cost. No program is named here. -/
import Derived.Test.YtbmpkihggipciaaPl9
import Derived.Test.YtbmpkihggipciaaPl10
set_option linter.unusedSimpArgs false
set_option linter.unusedVariables false
namespace Go.Abs

def reoL (l : List Int) (y : List Int) : List Int := y.flatMap fun x => rnd l x.toNat
theorem reoL_snoc (l y : List Int) (x : Int) : reoL l (y ++ [x]) = reoL l y ++ rnd l x.toNat := by simp [reoL]
theorem rnd_len {l : List Int} {k i : Nat} (hl : l.length = k * 14) (hi : i < k) : (rnd l i).length = 14 := rnd_length l i k hl hi
theorem reoL_length {l : List Int} {k : Nat} (hl : l.length = k * 14) : ∀ {y : List Int}, (∀ x ∈ y, 0 ≤ x ∧ x < (k : Int)) → (reoL l y).length = y.length * 14
  | [], _ => rfl
  | x :: y, h => by
    have ih := reoL_length hl (y := y) fun z hz => h z (List.mem_cons_of_mem _ hz)
    have hx := h x List.mem_cons_self
    unfold reoL at ih ⊢
    rw [List.flatMap_cons, List.length_append, rnd_len hl (show x.toNat < k by omega), ih, List.length_cons]
    omega
theorem rnd_app0 {a b : List Int} (h : a.length = 14) : rnd (a ++ b) 0 = a := by
  unfold rnd
  rw [Nat.zero_mul, List.drop_zero, List.take_append_of_le_length (by omega), List.take_of_length_le (by omega)]
theorem rnd_app1 {a b : List Int} (h : a.length = 14) (i : Nat) : rnd (a ++ b) (i + 1) = rnd b i := by
  unfold rnd
  rw [show (i + 1) * 14 = 14 + i * 14 by omega, ← List.drop_drop, List.drop_left' h]
theorem rnd_reoL {l : List Int} {k : Nat} (hl : l.length = k * 14) : ∀ {y : List Int}, (∀ x ∈ y, 0 ≤ x ∧ x < (k : Int)) → ∀ (i : Nat), i < y.length → rnd (reoL l y) i = rnd l (y.getD i 0).toNat
  | [], _, i, h => by simp at h
  | x :: y, hy, i, h => by
    have hx := hy x List.mem_cons_self
    have h14 := rnd_len hl (show x.toNat < k by omega)
    have e : reoL l (x :: y) = rnd l x.toNat ++ reoL l y := by unfold reoL; rw [List.flatMap_cons]
    rw [e]
    cases i with
    | zero => rw [rnd_app0 h14]; rfl
    | succ i =>
      rw [rnd_app1 h14, rnd_reoL hl (fun z hz => hy z (List.mem_cons_of_mem _ hz)) i (by simpa using h)]
      rfl
theorem reoL_ok {n : Int} {k : Nat} {l : List Int} (hb : schedB n k l = true) (hl : l.length = k * 14) {y : List Int} (hy : ∀ x ∈ y, 0 ≤ x ∧ x < (k : Int)) (hyl : y.length ≤ 40) : schedB n y.length (reoL l y) = true := by
  obtain ⟨hn, _, hr⟩ := schedB_at hb
  unfold schedB
  rw [decide_eq_true hn, decide_eq_true hyl, Bool.true_and, Bool.true_and]
  refine all_true_of fun i hi => ?_
  rw [rnd_reoL hl hy i hi]
  have hm : y.getD i 0 ∈ y := by rw [List.getD_eq_getElem?_getD, List.getElem?_eq_getElem hi]; exact List.getElem_mem _
  have := hy _ hm
  exact hr _ (by omega)
/-- The cost of the rounds in another order; the least one so far, and its order. -/
def costO (n : Nat) (l y : List Int) : Int := costM (carM n y.length (reoL l y) y.length) n
def boStep (n : Nat) (l : List Int) (s : List Int × Int) (z : List Int) : List Int × Int := if s.2 < 0 ∨ costO n l z < s.2 then (z, costO n l z) else s
def boFold (n : Nat) (l : List Int) (zs : List (List Int)) : List Int × Int := zs.foldl (boStep n l) ([], -1)
theorem boFold_snoc (n : Nat) (l : List Int) (zs : List (List Int)) (z : List Int) : boFold n l (zs ++ [z]) = boStep n l (boFold n l zs) z := by simp [boFold]
theorem boFold_nil (n : Nat) (l : List Int) : boFold n l [] = ([], -1) := rfl
theorem foldl_mem {α β : Type} (f : α × β → α → α × β) (hf : ∀ s z, (f s z).1 = z ∨ (f s z).1 = s.1) : ∀ (zs : List α) (s : α × β), (zs.foldl f s).1 = s.1 ∨ (zs.foldl f s).1 ∈ zs
  | [], s => .inl rfl
  | z :: zs, s => by
    rw [List.foldl_cons]
    rcases foldl_mem f hf zs (f s z) with h | h
    · rcases hf s z with h2 | h2
      · right; rw [h, h2]; exact List.mem_cons_self
      · left; rw [h, h2]
    · right; exact List.mem_cons_of_mem _ h
theorem boFold_cons (n : Nat) (l : List Int) (z : List Int) (zs : List (List Int)) : boFold n l (z :: zs) = zs.foldl (boStep n l) (z, costO n l z) := by
  unfold boFold
  rw [List.foldl_cons]
  unfold boStep
  rw [if_pos (.inl (by show (-1 : Int) < 0; omega))]
theorem boFold_mem (n : Nat) (l : List Int) (zs : List (List Int)) (h : zs ≠ []) : (boFold n l zs).1 ∈ zs := by
  cases zs with
  | nil => exact absurd rfl h
  | cons z zs =>
    rw [boFold_cons]
    rcases foldl_mem (boStep n l) (fun s z => by unfold boStep; split <;> simp) zs (z, costO n l z) with h1 | h1
    · rw [h1]; exact List.mem_cons_self
    · exact List.mem_cons_of_mem _ h1
/-- What BestOrder answers. -/
def boL (k : Nat) : List (List Int) := ordN (seqL 0 k) (k - 1) [0]
theorem boL_ne (k : Nat) (hk : 1 ≤ k) : boL k ≠ [] := by
  have key : ∀ (f : Nat) (y : List Int), f + y.length = k → (∀ x ∈ y, 0 ≤ x ∧ x < (k : Int)) → y.Nodup → ordN (seqL 0 k) f y ≠ [] := by
    intro f
    induction f with
    | zero => intro y _ _ _; simp [ordN]
    | succ f ih =>
      intro y hl hin hnd hcon
      have e : ordN (seqL 0 k) (f + 1) y = (seqL 0 k).flatMap fun x => if y.contains x = true then [] else ordN (seqL 0 k) f (y ++ [x]) := rfl
      rw [e, List.flatMap_eq_nil_iff] at hcon
      have hex : ∃ x ∈ seqL 0 k, y.contains x = false := by
        by_cases h : ∃ x ∈ seqL 0 k, y.contains x = false
        · exact h
        · exfalso
          have hsub : ∀ x ∈ seqL 0 k, x ∈ y := fun x hx => by
            by_cases hc : y.contains x = true
            · exact List.contains_iff_mem.1 hc
            · exact absurd ⟨x, hx, by simpa using hc⟩ h
          have hp := perm_of_nodup y (seqL 0 k) hnd (fun x hx => (mem_seqL_iff 0 k x).2 (by have := hin x hx; omega))
          have h2 : (seqL 0 k).length ≤ y.length := by
            by_cases hle : (seqL 0 k).length ≤ y.length
            · exact hle
            · have h3 := perm_of_nodup (seqL 0 k) y (seqL_nodup 0 k) hsub (by omega)
              have := h3.length_eq
              omega
          rw [seqL_length] at h2
          omega
      obtain ⟨x, hx, hc⟩ := hex
      have h1 := hcon x hx
      rw [hc, if_neg (by simp)] at h1
      refine ih (y ++ [x]) (by rw [List.length_append, List.length_singleton]; omega) (fun z hz => ?_) (nodup_snoc.2 ⟨hnd, fun hm => by rw [List.contains_iff_mem.2 hm] at hc; cases hc⟩) h1
      rcases List.mem_append.1 hz with h5 | h5
      · exact hin z h5
      · rw [List.mem_singleton] at h5; rw [h5]; have := (mem_seqL_iff 0 k x).1 hx; omega
  exact key (k - 1) [0] (by simp; omega) (by simp; omega) (by simp)
def boC (q : Int) (k : Nat) (l : List Int) : Int := if codeC q k l = 0 then (if 7 < k then 3 else 0) else codeC q k l
def boR (q : Int) (k : Nat) (l : List Int) : List Int := if boC q k l = 0 then (boFold q.toNat l (boL k)).1 else []
def boN (q : Int) (k : Nat) (l : List Int) : Int := if boC q k l = 0 then (boFold q.toNat l (boL k)).2 else 0
theorem boL_mem {k : Nat} (hk : 1 ≤ k) {z : List Int} (hz : z ∈ boL k) : z.length = k ∧ ∀ x ∈ z, 0 ≤ x ∧ x < (k : Int) := by
  obtain ⟨h1, h2⟩ := ordN_mem _ _ _ hz
  refine ⟨by rw [h1]; simp; omega, fun x hx => ?_⟩
  rcases h2 x hx with h3 | h3
  · rw [List.mem_singleton] at h3; omega
  · have := (mem_seqL_iff 0 k x).1 h3; omega
theorem boL_len (k : Nat) (hk : k ≤ 7) : (boL k).length ≤ 16777216 := by
  refine Nat.le_trans (seq_len_le _ _ _) ?_
  rw [seqL_length]
  exact Nat.le_trans (Nat.pow_le_pow_left (show k ≤ 8 by omega) _) (Nat.le_trans (Nat.pow_le_pow_right (by omega) (show k - 1 ≤ 8 by omega)) (by decide))
theorem codeC_rounds {q : Int} {k : Nat} {l : List Int} (h : codeC q k l = 0) : schedB q k l = true ∧ 1 ≤ k := by
  unfold codeC at h
  by_cases hb : schedB q k l = true
  · refine ⟨hb, ?_⟩
    obtain ⟨h2, _, _⟩ := schedB_at hb
    rw [if_pos hb] at h
    by_cases h3 : (decide (q.toNat % 2 = 1) || !robinB q.toNat k l) = true
    · rw [if_pos h3] at h; omega
    · have h4 : robinB q.toNat k l = true := by
        cases hr : robinB q.toNat k l with
        | true => rfl
        | false => rw [hr] at h3; simp at h3
      unfold robinB at h4
      have := of_decide_eq_true (Bool.and_eq_true_iff.1 h4).1
      omega
  · rw [if_neg hb] at h; omega
theorem boR_length (q : Int) (k : Nat) (l : List Int) : (boR q k l).length ≤ 7 := by
  unfold boR
  split
  · rename_i h
    have h0 : codeC q k l = 0 ∧ ¬ 7 < k := by
      unfold boC at h
      by_cases hc : codeC q k l = 0
      · rw [if_pos hc] at h
        by_cases h7 : 7 < k
        · rw [if_pos h7] at h; omega
        · exact ⟨hc, h7⟩
      · rw [if_neg hc] at h; exact absurd h hc
    have hk := (codeC_rounds h0.1).2
    have := (boL_mem hk (boFold_mem q.toNat l _ (boL_ne k hk))).1
    omega
  · simp
end Go.Abs
