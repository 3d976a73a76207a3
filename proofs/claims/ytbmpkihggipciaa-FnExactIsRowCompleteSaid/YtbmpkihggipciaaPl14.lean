/- Plain lists: neighbours in the rows of a square, counted in a matrix. No program is named here. -/
import Derived.Test.YtbmpkihggipciaaPl7
import Derived.Test.YtbmpkihggipciaaPl12
import Derived.Test.YtbmpkihggipciaaPl13
set_option linter.unusedSimpArgs false
set_option linter.unusedVariables false
namespace Go.Abs

/-- Pairs of numbers below m as numbers. -/
def ixN (m a b : Nat) : Int := ((a * m + b : Nat) : Int)
theorem ix_inj {m a b c d : Nat} (hb : b < m) (hd : d < m) (h : ixN m a b = ixN m c d) : a = c ∧ b = d := by
  have h0 : a * m + b = c * m + d := by unfold ixN at h; omega
  have h1 : (a * m + b) / m = (c * m + d) / m := by rw [h0]
  rw [Nat.mul_comm a, Nat.mul_comm c, Nat.mul_add_div (by omega), Nat.mul_add_div (by omega), Nat.div_eq_of_lt hb, Nat.div_eq_of_lt hd] at h1
  have e : a = c := by omega
  subst e
  exact ⟨rfl, by omega⟩
theorem ix_lt {m a b : Nat} (ha : a < m) (hb : b < m) : 0 ≤ ixN m a b ∧ ixN m a b < ((m * m : Nat) : Int) := by
  have h : a * m + b < m * m := by
    have h1 : (a + 1) * m ≤ m * m := Nat.mul_le_mul_right m ha
    rw [Nat.succ_mul] at h1
    omega
  unfold ixN
  omega
/-- How often pairs are among others. -/
def cntMx (m : Nat) (I : List Int) : List (List Int) := (List.range m).map fun a => (List.range m).map fun b => ((I.count (ixN m a b) : Nat) : Int)
theorem cntMx_sq (m : Nat) (I : List Int) : SqM m (cntMx m I) := by
  refine ⟨by simp [cntMx], fun j hj => ?_⟩
  unfold cntMx
  rw [List.getD_eq_getElem?_getD, List.getElem?_map, List.getElem?_range hj]
  simp
theorem cntMx_nil (m : Nat) : cntMx m [] = zeroM m := by
  unfold cntMx zeroM
  refine List.eq_replicate_iff.2 ⟨by simp, fun r hr => ?_⟩
  obtain ⟨a, _, rfl⟩ := List.mem_map.1 hr
  exact List.eq_replicate_iff.2 ⟨by simp, by intro b hb; obtain ⟨c, _, rfl⟩ := List.mem_map.1 hb; rfl⟩
theorem cntMx_row (m : Nat) (I : List Int) (a : Nat) (ha : a < m) : (cntMx m I).getD a [] = (List.range m).map fun b => ((I.count (ixN m a b) : Nat) : Int) := by
  unfold cntMx
  rw [List.getD_eq_getElem?_getD, List.getElem?_map, List.getElem?_range ha]
  rfl
theorem cntMx_at (m : Nat) (I : List Int) (a b : Nat) (ha : a < m) (hb : b < m) : ((cntMx m I).getD a []).getD b 0 = ((I.count (ixN m a b) : Nat) : Int) := by
  rw [cntMx_row m I a ha, List.getD_eq_getElem?_getD, List.getElem?_map, List.getElem?_range hb]
  rfl
theorem cntMx_inc (m : Nat) (I : List Int) (x y : Nat) (hx : x < m) (hy : y < m) (hI : I.length ≤ 1000000) : incM (cntMx m I) x y = cntMx m (I ++ [ixN m x y]) := by
  have hsq := cntMx_sq m I
  unfold incM
  rw [Int.toNat_natCast]
  apply List.ext_getElem?
  intro a
  rw [List.getElem?_set, hsq.1]
  by_cases ha : a < m
  · have e1 : (cntMx m (I ++ [ixN m x y]))[a]? = some ((List.range m).map fun b => (((I ++ [ixN m x y]).count (ixN m a b) : Nat) : Int)) := by
      unfold cntMx; rw [List.getElem?_map, List.getElem?_range ha]; rfl
    have e2 : (cntMx m I)[a]? = some ((List.range m).map fun b => ((I.count (ixN m a b) : Nat) : Int)) := by
      unfold cntMx; rw [List.getElem?_map, List.getElem?_range ha]; rfl
    rw [e1]
    by_cases e : x = a
    · subst e
      rw [if_pos rfl, if_pos hx, cntMx_row m I x hx]
      congr 1
      unfold incR
      rw [Int.toNat_natCast]
      apply List.ext_getElem?
      intro b
      rw [List.getElem?_set, List.length_map, List.length_range, List.getElem?_map, List.getElem?_map]
      by_cases hb : b < m
      · rw [List.getElem?_range hb]
        simp only [Option.map_some]
        rw [List.count_append, List.count_singleton]
        by_cases e3 : y = b
        · subst e3
          rw [if_pos rfl, if_pos hy, List.getD_eq_getElem?_getD, List.getElem?_map, List.getElem?_range hy]
          simp only [Option.map_some, Option.getD_some, beq_self_eq_true, if_true]
          have hc := List.count_le_length (a := ixN m x y) (l := I)
          have w : IntKind.i64.wrap (((I.count (ixN m x y) : Nat) : Int) + 1) = ((I.count (ixN m x y) : Nat) : Int) + 1 := w64 (by omega)
          rw [w]; congr 1
        · rw [if_neg e3]
          have : (ixN m x y == ixN m x b) = false := by
            rw [beq_eq_false_iff_ne]; intro h; exact e3 (ix_inj hy hb h).2
          rw [this]; simp
      · rw [if_neg (by omega), List.getElem?_eq_none (by simpa using hb)]; rfl
    · rw [if_neg e, e2]
      congr 1
      apply List.map_congr_left
      intro b hb
      have hb' : b < m := by simpa using hb
      rw [List.count_append, List.count_singleton]
      have : (ixN m x y == ixN m a b) = false := by
        rw [beq_eq_false_iff_ne]; intro h; exact e (ix_inj hy hb' h).1
      rw [this]; simp
  · rw [if_neg (by omega), List.getElem?_eq_none (by rw [hsq.1]; omega), List.getElem?_eq_none (by rw [(cntMx_sq m _).1]; omega)]

/-- All pairs of different numbers. -/
def offD (m : Nat) : List Int := (List.range m).flatMap fun a => ((List.range m).filter fun b => decide (b ≠ a)).map fun b => ixN m a b
theorem offD_length : ∀ m, m < 15 → (offD m).length = m * (m - 1) := by decide +kernel
theorem offD_mem {m a b : Nat} (ha : a < m) (hb : b < m) (h : a ≠ b) : ixN m a b ∈ offD m := by
  unfold offD
  rw [List.mem_flatMap]
  exact ⟨a, by simpa using ha, List.mem_map.2 ⟨b, List.mem_filter.2 ⟨by simpa using hb, by simpa using fun e => h e.symm⟩, rfl⟩⟩
theorem bal_nodup {m : Nat} (hm : m < 15) {I : List Int} (hl : I.length = m * (m - 1)) (hI : ∀ x ∈ I, ∃ a b, a < m ∧ b < m ∧ a ≠ b ∧ x = ixN m a b) : balB (cntMx m I) = decide I.Nodup := by
  have hsq := cntMx_sq m I
  by_cases h : I.Nodup
  · rw [decide_eq_true h]
    have hp : I.Perm (offD m) := perm_of_nodup I (offD m) h (fun x hx => by obtain ⟨a, b, h1, h2, h3, rfl⟩ := hI x hx; exact offD_mem h1 h2 h3) (by rw [offD_length m hm, hl]; exact Nat.le_refl _)
    refine balB_good fun i hi j hj => ?_
    rw [hsq.1] at hi
    rw [hsq.2 i hi] at hj
    unfold balAt
    by_cases e : i = j
    · rw [decide_eq_true e]; rfl
    · rw [decide_eq_false e, Bool.false_or, cntMx_at m I i j hi hj, h.count, if_pos (hp.symm.subset (offD_mem hi hj e))]
      rfl
  · rw [decide_eq_false h, Bool.eq_false_iff]
    intro hb
    refine h (List.nodup_iff_count.2 fun x => ?_)
    by_cases hx : x ∈ I
    · obtain ⟨a, b, h1, h2, h3, rfl⟩ := hI x hx
      have hb2 : balAt (cntMx m I) a b = true := by
        by_cases e : balAt (cntMx m I) a b = true
        · exact e
        · rw [balB_bad (by rw [hsq.1]; exact h1) (by rw [hsq.2 a h1]; exact h2) (by simpa using e)] at hb
          cases hb
      unfold balAt at hb2
      rw [decide_eq_false h3, Bool.false_or, cntMx_at m I a b h1 h2, beq_iff_eq] at hb2
      omega
    · rw [List.count_eq_zero_of_not_mem hx]; omega

/-! ### Neighbours -/
def nbE (m : Nat) (r : List Int) (k : Nat) : Int := ixN m (r.getD k 0).toNat (r.getD (k + 1) 0).toNat
def nbR (m : Nat) (r : List Int) (c : Nat) : List Int := (List.range c).map (nbE m r)
/-- The neighbours of the first i rows, and the first c of the next one. -/
def nbP (m : Nat) (ll : List (List Int)) (i c : Nat) : List Int := ((List.range i).flatMap fun i => nbR m (ll.getD i []) (m - 1)) ++ nbR m (ll.getD i []) c
theorem nbP_succ (m : Nat) (ll : List (List Int)) (i c : Nat) : nbP m ll i (c + 1) = nbP m ll i c ++ [nbE m (ll.getD i []) c] := by
  unfold nbP nbR
  rw [List.range_succ, List.map_append, List.append_assoc]; rfl
theorem nbP_next (m : Nat) (ll : List (List Int)) (i : Nat) : nbP m ll i (m - 1) = nbP m ll (i + 1) 0 := by
  unfold nbP
  rw [List.range_succ, List.flatMap_append]
  simp [nbR]
theorem nbP_zero (m : Nat) (ll : List (List Int)) : nbP m ll 0 0 = [] := rfl
theorem nbP_length (m : Nat) (ll : List (List Int)) (i c : Nat) : (nbP m ll i c).length = i * (m - 1) + c := by
  unfold nbP
  rw [List.length_append]
  have h1 : ∀ r c, (nbR m r c).length = c := fun r c => by simp [nbR]
  rw [h1]
  congr 1
  induction i with
  | zero => simp
  | succ i ih => rw [List.range_succ, List.flatMap_append, List.length_append, ih, Nat.succ_mul]; simp [h1]
theorem getD_nodup {r : List Int} (h : r.Nodup) {i j : Nat} (hi : i < r.length) (hj : j < r.length) (e : r.getD i 0 = r.getD j 0) : i = j := by
  rw [List.getD_eq_getElem?_getD, List.getD_eq_getElem?_getD, List.getElem?_eq_getElem hi, List.getElem?_eq_getElem hj] at e
  simp only [Option.getD_some] at e
  exact (List.getElem_inj h).1 e
def nbA (m : Nat) (ll : List (List Int)) : List Int := nbP m ll m 0
theorem nbA_mem {m : Nat} {ll : List (List Int)} (hin : ∀ i, i < m → (ll.getD i []).length = m ∧ ∀ j, j < m → 0 ≤ (ll.getD i []).getD j 0 ∧ (ll.getD i []).getD j 0 < m) (hlat : latB m ll = true) {x : Int} (hx : x ∈ nbA m ll) : ∃ a b, a < m ∧ b < m ∧ a ≠ b ∧ x = ixN m a b := by
  unfold nbA nbP at hx
  have e0 : nbR m (ll.getD m []) 0 = [] := rfl
  rw [e0, List.append_nil, List.mem_flatMap] at hx
  obtain ⟨i, hi, hx⟩ := hx
  have hi' : i < m := by simpa using hi
  unfold nbR at hx
  obtain ⟨k, hk, rfl⟩ := List.mem_map.1 hx
  have hk' : k < m - 1 := by simpa using hk
  obtain ⟨hl, hr⟩ := hin i hi'
  have h1 := hr k (by omega)
  have h2 := hr (k + 1) (by omega)
  refine ⟨_, _, ?_, ?_, ?_, rfl⟩
  · omega
  · omega
  · intro e
    have ho : ordB m (ll.getD i []) = true := by
      unfold latB at hlat
      have := List.all_eq_true.1 hlat i hi
      unfold latAt at this
      exact (Bool.and_eq_true_iff.1 this).1
    have hnd := ((ordB_iff m _).1 ho).2.2
    have e2 : (ll.getD i []).getD k 0 = (ll.getD i []).getD (k + 1) 0 := by omega
    have := getD_nodup hnd (show k < _ by omega) (show k + 1 < _ by omega) e2
    omega
theorem nbA_length (m : Nat) (ll : List (List Int)) : (nbA m ll).length = m * (m - 1) := by
  unfold nbA; rw [nbP_length, Nat.add_zero]
/-- What IsRowComplete answers. -/
def ircC (n : Int) (ll : List (List Int)) : Int := if haveB n ll = true then (if latB n.toNat ll = true then 0 else 4) else 2
def ircB (n : Int) (ll : List (List Int)) : Bool := haveB n ll && latB n.toNat ll && decide (nbA n.toNat ll).Nodup
theorem nbP_pre (m : Nat) (ll : List (List Int)) (i c : Nat) (hi : i < m) (hc : c < m - 1) : ∃ L, nbA m ll = nbP m ll i (c + 1) ++ L := by
  have h1 : ∀ d, ∃ L, nbP m ll i (c + 1 + d) = nbP m ll i (c + 1) ++ L := by
    intro d
    induction d with
    | zero => exact ⟨[], by simp⟩
    | succ d ih =>
      obtain ⟨L, hL⟩ := ih
      exact ⟨L ++ [nbE m (ll.getD i []) (c + 1 + d)], by rw [← Nat.add_assoc, nbP_succ, hL, List.append_assoc]⟩
  have h2 : ∀ d, ∃ L, nbP m ll (i + 1 + d) 0 = nbP m ll (i + 1) 0 ++ L := by
    intro d
    induction d with
    | zero => exact ⟨[], by simp⟩
    | succ d ih =>
      obtain ⟨L, hL⟩ := ih
      refine ⟨L ++ nbR m (ll.getD (i + 1 + d) []) (m - 1), ?_⟩
      rw [← Nat.add_assoc, ← nbP_next]
      have : nbP m ll (i + 1 + d) (m - 1) = nbP m ll (i + 1 + d) 0 ++ nbR m (ll.getD (i + 1 + d) []) (m - 1) := by
        unfold nbP; simp [nbR]
      rw [this, hL, List.append_assoc]
  obtain ⟨L1, hL1⟩ := h1 (m - 1 - (c + 1))
  obtain ⟨L2, hL2⟩ := h2 (m - (i + 1))
  rw [show c + 1 + (m - 1 - (c + 1)) = m - 1 by omega, nbP_next] at hL1
  rw [show i + 1 + (m - (i + 1)) = m by omega] at hL2
  exact ⟨L1 ++ L2, by unfold nbA; rw [hL2, hL1, List.append_assoc]⟩
theorem nb_bad {m : Nat} {ll : List (List Int)} {i c : Nat} (hi : i < m) (hc : c < m - 1) (h : (nbP m ll i c).contains (nbE m (ll.getD i []) c) = true) : decide (nbA m ll).Nodup = false := by
  obtain ⟨L, hL⟩ := nbP_pre m ll i c hi hc
  rw [decide_eq_false_iff_not, hL, nbP_succ]
  intro hn
  have h1 := (List.nodup_append.1 hn).1
  exact (nodup_snoc.1 h1).2 (List.contains_iff_mem.1 h)
end Go.Abs
