/- The small logic, seventeenth text: slices of slices of which only the outer row is ours alone. No program is named here. -/
import Derived.Test.YtbmpkihggipciaaAbs16
set_option linter.unusedSimpArgs false
set_option linter.unusedVariables false
namespace Go.Abs
open Go Go.RowKit

/-- x reads y out of rows in [lo, hi) other than i. -/
def Pt (lo hi i : Nat) (H : AH) (x : Value) (y : List Int) : Prop := ∀ H', (∀ z r, lo ≤ z → z < hi → ¬ z = i → H.row z = some r → H'.row z = some r) → Rd 1 H' x y.length y

def FrV (ty lo hi : Nat) (H : AH) (v : Value) (ll : List (List Int)) : Prop :=
  (ll = [] ∧ v = .slice none 0 0) ∨ ∃ i vs, lo ≤ i ∧ i < hi ∧ v = .slice (some ⟨i, 0, some 1⟩) ll.length ll.length ∧ H.row i = some ⟨ty, true, vs⟩ ∧ vs.length = ll.length ∧ ∀ j, j < ll.length → ∃ x, vs[j]? = some x ∧ Pt lo hi i H x (ll.getD j [])

theorem FrV.same {ty lo hi : Nat} {H H' : AH} {v : Value} {ll : List (List Int)} (h : FrV ty lo hi H v ll) (hs : ∀ i, lo ≤ i → i < hi → H'.row i = H.row i) : FrV ty lo hi H' v ll := by
  rcases h with h | ⟨i, vs, h1, h2, hv, hr, hl, hj⟩
  · exact .inl h
  · refine .inr ⟨i, vs, h1, h2, hv, by rw [hs i h1 h2]; exact hr, hl, fun j hjl => ?_⟩
    obtain ⟨x, hx, hp⟩ := hj j hjl
    exact ⟨x, hx, fun H2 h2 => hp H2 fun z r z1 z2 z3 hz => h2 z r z1 z2 z3 (by rw [hs z z1 z2]; exact hz)⟩
theorem FrV.wide {ty lo hi lo' hi' : Nat} {H : AH} {v : Value} {ll : List (List Int)} (h : FrV ty lo hi H v ll) (a : lo' ≤ lo) (c : hi ≤ hi') : FrV ty lo' hi' H v ll := by
  rcases h with h | ⟨i, vs, h1, h2, hv, hr, hl, hj⟩
  · exact .inl h
  · refine .inr ⟨i, vs, by omega, by omega, hv, hr, hl, fun j hjl => ?_⟩
    obtain ⟨x, hx, hp⟩ := hj j hjl
    exact ⟨x, hx, fun H2 h2 => hp H2 fun z r z1 z2 z3 hz => h2 z r (by omega) (by omega) z3 hz⟩
theorem FrV.rd {ty lo hi : Nat} {H : AH} {v : Value} {ll : List (List Int)} (h : FrV ty lo hi H v ll) : Rd2 1 H v ll := by
  rcases h with ⟨h1, h2⟩ | ⟨i, vs, h1, h2, rfl, hr, hl, hj⟩
  · exact .inl ⟨h1, none, 0, h2, fun _ => rfl⟩
  · refine .inr ⟨i, 0, some 1, _, _, rfl, hr, fun j hjl => ?_⟩
    obtain ⟨x, hx, hp⟩ := hj j hjl
    exact ⟨x, _, by simpa using hx, hp H fun _ _ _ _ _ h => h⟩
theorem Fr2.frV {ty ty' lo hi : Nat} {H : AH} {v : Value} {ll : List (List Int)} (h : Fr2 1 ty ty' lo hi H v ll) : FrV ty lo hi H v ll := by
  rcases h with h | ⟨i, vs, b, h1, h2, rfl, hr, hl, g0, gn, gi, gm, hh⟩
  · exact .inl h
  · refine .inr ⟨i, vs, h1, h2, rfl, hr, hl, fun j hjl => ?_⟩
    obtain ⟨x, m, hx, hf⟩ := hh j hjl
    have m1 := mono_of_step gm (Nat.zero_le j)
    have m2 := mono_of_step gm (show j + 1 ≤ ll.length from hjl)
    refine ⟨x, hx, fun H2 h2 => ?_⟩
    have hm := hf.lenK1
    refine hm ▸ Fr.rd (ty := ty') (lo := b j) (hi := b (j + 1)) ⟨hf.1, ?_⟩
    rcases hf.2 with h3 | ⟨q, q1, q2, q3, q4⟩
    · exact .inl h3
    · exact .inr ⟨q, q1, q2, q3, h2 q _ (by omega) (by omega) (by omega) q4⟩

theorem seg_whole (l : List Value) (n : Nat) (h : l.length = n) : seg l 0 n = l := seg_all _ _ h.symm

/-- Slices of slices, one appended to the other. -/
theorem appE_frV {P : Program} {E : TI} {ty lo hi lo' hi' : Nat} {H : AH} {v x : Value} {ll ll' : List (List Int)} {K : Value → AH → Prop} (h : FrV ty lo hi H v ll) (hx : FrV ty lo' hi' H x ll') (hE : E.size = 1) (hb : E.bytes ≤ 32768) (hn : ll.length + ll'.length ≤ 4294967296) (hlo : lo ≤ hi) (hhi : hi ≤ lo') (hhi' : hi' ≤ H.next) (hhN : hi ≤ H.next)
    (hK : ∀ v' H', H.next ≤ H'.next → (∀ i, ¬(lo ≤ i ∧ i < hi) → i < H.next → H'.row i = H.row i) → FrV ty lo H'.next H' v' (ll ++ ll') → K v' H') :
    runOut P H (slCells H E.size x fun xs m => appE E ty v xs m H) K := by
  have none0 : ll' = [] → runOut P H (appE E ty v [] 0 H) K := by
    intro e0
    rw [e0] at hK
    clear hx
    unfold appE
    rw [if_pos rfl]
    refine Holds.mp ?_
    rcases h with ⟨rfl, rfl⟩ | ⟨i, vs, h1, h2, rfl, hr, hl, hj⟩ <;> rw [holds_def]
    · simp only [asSl_nil, runOut_val]
      exact hK _ _ (Nat.le_refl _) (fun _ _ _ => rfl) (.inl ⟨rfl, rfl⟩)
    · simp only [asSl_some, runOut_need, runOut_val]
      refine ⟨(fun h => by cases h), hK _ _ (Nat.le_refl _) (fun _ _ _ => rfl) ?_⟩
      rw [List.append_nil]
      exact FrV.wide (lo := lo) (hi := hi) (.inr ⟨i, vs, h1, h2, rfl, hr, hl, hj⟩) (Nat.le_refl _) hhN
  refine Holds.mp ?_
  rcases hx with ⟨e0, rfl⟩ | ⟨i', vs', q1, q2, rfl, qr, ql, qj⟩ <;> rw [holds_def]
  · unfold slCells
    simp only [asSl_nil]
    exact none0 e0
  · unfold slCells
    simp only [asSl_some, qr, bindO_some, runOut_need, hE, Nat.mul_one, Nat.zero_add]
    refine ⟨⟨by omega, .inl rfl⟩, ?_⟩
    rw [seg_whole _ _ ql]
    by_cases h0 : ll'.length = 0
    · have e0 : ll' = [] := List.eq_nil_of_length_eq_zero h0
      have ev : vs' = [] := List.eq_nil_of_length_eq_zero (by omega)
      rw [ev, h0]
      exact none0 e0
    · have inner : ∀ (H2 : AH), H.next < H2.next → (∀ z r, lo' ≤ z → z < hi' → ¬ z = i' → H.row z = some r → H2.row z = some r) → ∀ j, j < ll'.length → ∃ y, vs'[j]? = some y ∧ Pt lo H2.next H.next H2 y (ll'.getD j []) := by
        intro H2 hn2 hs2 j hj
        obtain ⟨y, hy, hp⟩ := qj j hj
        exact ⟨y, hy, fun H3 h3 => hp H3 fun z r z1 z2 z3 hz => h3 z r (by omega) (by omega) (by omega) (hs2 z r z1 z2 z3 hz)⟩
      unfold appE
      rw [if_neg h0]
      refine Holds.mp ?_
      rcases h with ⟨rfl, rfl⟩ | ⟨i, vs, h1, h2, rfl, hr, hl, hj⟩ <;> rw [holds_def]
      · simp only [asSl_nil, runOut_need, runOut_val, hE]
        simp only [List.length_nil, Nat.zero_add] at hn
        refine ⟨⟨hn, hb⟩, hK _ _ (Nat.le_succ _) (fun i _ hi => by rw [AH.push_row, if_neg (by omega)]) ?_⟩
        refine .inr ⟨H.next, vs', by omega, by rw [AH.push_next]; omega, rfl, by rw [AH.push_row, if_pos rfl], ql, ?_⟩
        exact inner _ (by rw [AH.push_next]; omega) fun z r z1 z2 _ hz => by rw [AH.push_row, if_neg (by omega)]; exact hz
      · simp only [asSl_some, hr, bindO_some, runOut_need, Nat.zero_add, hE, Nat.mul_one]
        refine ⟨⟨hn, hb, by omega, .inl rfl⟩, ?_⟩
        rw [if_neg (by omega)]
        simp only [runOut_need, runOut_val]
        rw [seg_whole _ _ hl]
        refine ⟨by simp, hK _ _ (by rw [AH.push_next, AH.drop_next]; omega) (fun z hz hz2 => ?_) (.inr ⟨H.next, vs ++ vs', by omega, by rw [AH.push_next, AH.drop_next]; omega, ?_, ?_, ?_, fun j hjl => ?_⟩)⟩
        · rw [AH.push_row, if_neg (by rw [AH.drop_next]; omega), AH.drop_row, if_neg (by omega)]
        · rw [List.length_append]
        · rw [AH.push_row, AH.drop_next, if_pos rfl]
        · rw [List.length_append, List.length_append, hl, ql]
        · rw [List.length_append] at hjl
          have old : ∀ z r, z < H.next → ¬ z = i → H.row z = some r → ((H.drop i).push ⟨ty, true, vs ++ vs'⟩).row z = some r := fun z r z1 z2 hz => by
            rw [AH.push_row, if_neg (by rw [AH.drop_next]; omega), AH.drop_row, if_neg z2]; exact hz
          by_cases c : j < ll.length
          · obtain ⟨y, hy, hp⟩ := hj j c
            refine ⟨y, by rw [List.getElem?_append_left (by omega), hy], ?_⟩
            have e1 : (ll ++ ll').getD j [] = ll.getD j [] := by simp [List.getD_eq_getElem?_getD, List.getElem?_append_left c]
            rw [e1]
            exact fun H3 h3 => hp H3 fun z r z1 z2 z3 hz => h3 z r z1 (by rw [AH.push_next, AH.drop_next]; omega) (by omega) (old z r (by omega) z3 hz)
          · obtain ⟨y, hy, hp⟩ := inner ((H.drop i).push ⟨ty, true, vs ++ vs'⟩) (by rw [AH.push_next, AH.drop_next]; omega) (fun z r z1 z2 z3 hz => old z r (by omega) (by omega) hz) (j - ll.length) (by omega)
            refine ⟨y, by rw [List.getElem?_append_right (by omega), hl]; exact hy, ?_⟩
            have e1 : (ll ++ ll').getD j [] = ll'.getD (j - ll.length) [] := by simp [List.getD_eq_getElem?_getD, List.getElem?_append_right (show ll.length ≤ j by omega)]
            rw [e1]
            exact hp

theorem cells_of_one {v : Value} (h : v.oneCell' = true) : v.cells = #[v] := by
  cases v <;> first | rfl | (simp [Value.oneCell'] at h)
theorem noTuple_of_one {v : Value} (h : v.oneCell' = true) : noTuple v = true := by
  cases v <;> first | rfl | (simp [Value.oneCell'] at h)
end Go.Abs
