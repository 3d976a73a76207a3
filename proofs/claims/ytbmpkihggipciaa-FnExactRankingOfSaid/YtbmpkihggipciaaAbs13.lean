/- The small logic, thirteenth text: lists of lists of integers among a law's arguments. No program is named here. -/
import Derived.Test.YtbmpkihggipciaaAbs12
set_option linter.unusedSimpArgs false
set_option linter.unusedVariables false
namespace Go.Abs
open Go Go.RowKit

theorem given_cell {w : World} {b j : Nat} {u : Value} (h : w.cell? ⟨b, j, none⟩ = some u) : b < w.heap.size ∧ (given w).row b = some ⟨0, false, absRow w b⟩ ∧ (absRow w b)[j]? = some (absV w.heap.size u) := by
  have h1 := h
  unfold World.cell? at h1
  split at h1
  · rename_i cs t fr he
    have hb : b < w.heap.size := (Array.getElem?_eq_some_iff.1 he).1
    have hk : bsz w b = some cs.size := by simp [bsz, he]
    have h2 : cs[j]? = some u := by simpa using h1
    have h3 : j < cs.size := (Array.getElem?_eq_some_iff.1 h2).1
    refine ⟨hb, by simp [given, hb], ?_⟩
    simp only [absRow, hk, List.getElem?_map]
    rw [List.getElem?_range h3]
    simp only [Option.map_some, h]
  · cases h1

section
variable {H : Type} {enc : TypeId × Value → H} {P : Program} {w : World} {base : Nat} {spare : Nat → Bool} {held : Bool}

theorem trod_elem {e : TypeId} (hi : P.underlying e = some (.int .i64)) (hc : P.cellsOf e = 1) {a : Addr} {m : Nat} {y : DataW H × List MemPlace}
    (h : (w.cells? base a (P.cellsOf e)).bind (DataW.trod enc P w base spare held m e) = some y) : ∃ z, w.cell? a = some (.int .i64 z) := by
  rw [hc, Option.bind_eq_some_iff] at h
  obtain ⟨cs, h1, h2⟩ := h
  obtain ⟨z, rfl, _⟩ := DataW.trod_int hi h2
  obtain ⟨_, _, hcc⟩ := World.cells?_some h1
  have h3 := hcc 0 (by omega)
  have e : a.add 0 = a := by obtain ⟨b, o, s⟩ := a; rfl
  rw [e] at h3
  exact ⟨z, h3⟩

/-- A cell of the given memory that is a slice of integers. -/
theorem trod_inner {e i : TypeId} {fuel : Nat} {u : Value} {y : DataW H × List MemPlace} (he : P.underlying e = some (.slice i)) (hi : P.underlying i = some (.int .i64)) (hci : P.cellsOf i = 1) (hw : 0 < w.heap.size)
    (h : DataW.trod enc P w base spare held fuel e [u] = some y) : ∃ m l, Rd 1 (given w) (absV w.heap.size u) m l ∧ l.length ≤ maxLen := by
  rcases DataW.trod_slice he h with ⟨h0, _⟩ | ⟨a, len, cap, elems, rest, m, _, hcs, _, _, hl, hcap, hlen, hel, _, _⟩
  · simp only [List.cons.injEq, and_true] at h0
    subst h0
    exact ⟨0, [], ⟨by simp, .inl ⟨rfl, none, 0, rfl, fun _ => rfl⟩⟩, by simp⟩
  · simp only [List.cons.injEq, and_true] at hcs
    subst hcs
    by_cases h0 : len = 0
    · subst h0
      refine ⟨0, [], ⟨by simp, .inl ⟨rfl, some ⟨0, 1, some 0⟩, cap, ?_, fun h => by cases h⟩⟩, by simp⟩
      have : scal (.slice (some a) 0 cap) = false := rfl
      unfold absV
      rw [if_neg (by rw [this]; simp)]
      simp only [hw, if_true]
    · have each : ∀ j, j < len → ∃ z, w.cell? (a.add j) = some (.int .i64 z) := by
        intro j hj
        have h1 := hel j hj
        rw [List.getElem?_eq_getElem (by omega), hci, Nat.mul_one, ← hci] at h1
        exact trod_elem hi hci h1
      obtain ⟨b, o, s⟩ := a
      have hs : s = none := by
        obtain ⟨z, hz⟩ := each 0 (by omega)
        unfold World.cell? at hz
        split at hz
        · split at hz
          · cases hz
          · rename_i hh
            cases s with
            | none => rfl
            | some z => exact absurd rfl hh
        · cases hz
      subst hs
      have each2 : ∀ j, j < len → ∃ z, w.cell? ⟨b, o + j, none⟩ = some (.int .i64 z) := fun j hj => by
        obtain ⟨z, hz⟩ := each j hj
        exact ⟨z, by rw [← hz, Addr.add_lit]⟩
      have hb : b < w.heap.size := by
        obtain ⟨z, hz⟩ := each2 0 (by omega)
        exact (given_cell hz).1
      let zs : List Int := (List.range (len * 1)).map fun j => match w.cell? ⟨b, o + j, none⟩ with | some (.int _ z) => z | _ => 0
      have hzl : zs.length = len * 1 := by simp [zs]
      refine ⟨len, zs, ?_, by rw [hzl]; omega⟩
      have ea : absV w.heap.size (.slice (some ⟨b, o, none⟩) len cap) = .slice (some ⟨b, o, none⟩) len cap := by
        have : scal (.slice (some ⟨b, o, none⟩) len cap) = false := rfl
        unfold absV
        rw [if_neg (by rw [this]; simp)]
        split
        · rename_i h; cases h; exact absurd rfl h0
        · rename_i h; cases h; rw [if_pos hb]
        · rename_i h1 h2; exact absurd rfl (h2 _ _ _ _)
      rw [ea]
      refine given_rd (by omega) hb hzl fun j hj => ?_
      obtain ⟨z, hz⟩ := each2 j (by omega)
      rw [hz]
      simp [zs, show j < len by omega, hz]

/-- A slice of slices of integers. -/
theorem trod_lists {t e i : TypeId} {fuel : Nat} {x : DataW H × List MemPlace} {v : Value} (ht : P.underlying t = some (.slice e)) (he : P.underlying e = some (.slice i)) (hi : P.underlying i = some (.int .i64)) (hce : P.cellsOf e = 1) (hci : P.cellsOf i = 1)
    (h : DataW.trod enc P w base spare held fuel t [v] = some x) (hv : v = .slice none 0 0 ∨ ∃ b o n c, v = .slice (some ⟨b, o, none⟩) n c ∧ b < w.heap.size ∧ n ≤ 9223372036854775807) :
    ∃ ll, Rd2 1 (given w) v ll ∧ V1 id w.heap.size w v v ∧ ll.length ≤ 9223372036854775807 ∧ ∀ y ∈ ll, y.length ≤ maxLen := by
  rcases hv with rfl | ⟨b, o, n, c, rfl, hb, hn⟩
  · exact ⟨[], .inl ⟨rfl, none, 0, rfl, fun _ => rfl⟩, .scal _ rfl, by simp, by simp⟩
  · rcases DataW.trod_slice ht h with ⟨h0, _⟩ | ⟨a, len, cap, elems, rest, m, _, hcs, _, _, _, _, hlen, hel, _, _⟩
    · simp at h0
    · simp only [List.cons.injEq, Value.slice.injEq, Option.some.injEq, and_true] at hcs
      obtain ⟨rfl, rfl, rfl⟩ := hcs
      have each : ∀ j, j < n → ∃ u q l, w.cell? ⟨b, o + j, none⟩ = some u ∧ Rd 1 (given w) (absV w.heap.size u) q l ∧ l.length ≤ maxLen := by
        intro j hj
        have h1 := hel j hj
        rw [List.getElem?_eq_getElem (by omega), hce, Nat.mul_one, Option.bind_eq_some_iff] at h1
        obtain ⟨cs, hc1, hc2⟩ := h1
        obtain ⟨_, hl, hc⟩ := World.cells?_some hc1
        match cs, hl with
        | [u], _ =>
          obtain ⟨q, l, hr, hle⟩ := trod_inner he hi hci (by omega) hc2
          refine ⟨u, q, l, ?_, hr, hle⟩
          have := hc 0 (by omega)
          rw [Addr.add_lit, Addr.add_lit] at this
          simpa using this
      by_cases h0 : n = 0
      · subst h0
        exact ⟨[], .inl ⟨rfl, _, c, rfl, fun h => by cases h⟩, V1.sle (ρ := id) b o 0 c hb, by simp, by simp⟩
      · let f : Nat → List Int := fun j => if hj : j < n then Classical.choose (Classical.choose_spec (Classical.choose_spec (each j hj))) else []
        have hf : ∀ j, j < n → ∃ u q, w.cell? ⟨b, o + j, none⟩ = some u ∧ Rd 1 (given w) (absV w.heap.size u) q (f j) ∧ (f j).length ≤ maxLen := by
          intro j hj
          have h3 := Classical.choose_spec (Classical.choose_spec (Classical.choose_spec (each j hj)))
          have ef : f j = Classical.choose (Classical.choose_spec (Classical.choose_spec (each j hj))) := by simp only [f, dif_pos hj]
          rw [ef]
          exact ⟨_, _, h3⟩
        refine ⟨(List.range n).map f, .inr ⟨b, o, none, c, ⟨0, false, absRow w b⟩, by simp, by simp [given, hb], fun j hj => ?_⟩, V1.sle (ρ := id) b o n c hb, by simpa using hn, fun y hy => ?_⟩
        · have hj' : j < n := by simpa using hj
          obtain ⟨u, q, h1, h2, _⟩ := hf j hj'
          refine ⟨_, q, (given_cell h1).2.2, ?_⟩
          have : ((List.range n).map f).getD j [] = f j := by simp [hj']
          rw [this]; exact h2
        · obtain ⟨j, hj, rfl⟩ := List.mem_map.1 hy
          obtain ⟨_, _, _, _, h3⟩ := hf j (by simpa using hj)
          exact h3
end

/-- One of the inner slices of a fresh slice of slices. -/
theorem Fr2.getF {k ty ty' lo hi : Nat} {H : AH} {v : Value} {ll : List (List Int)} (h : Fr2 k ty ty' lo hi H v ll) {j : Nat} (hj : j < ll.length) :
    ∃ i vs x m b c, v = .slice (some ⟨i, 0, some 1⟩) ll.length ll.length ∧ lo ≤ i ∧ i < hi ∧ H.row i = some ⟨ty, true, vs⟩ ∧ vs.length = ll.length ∧ vs[j]? = some x ∧ lo ≤ b ∧ c ≤ hi ∧ Fr k ty' b c H x m (ll.getD j []) := by
  rcases h with ⟨rfl, _⟩ | ⟨i, vs, b, h1, h2, rfl, hr, hl, g0, gn, _, gm, hh⟩
  · simp at hj
  · obtain ⟨x, m, hx, hf⟩ := hh j hj
    have m1 := mono_of_step gm (Nat.zero_le j)
    have m2 := mono_of_step gm (show j + 1 ≤ ll.length from hj)
    exact ⟨i, vs, x, m, b j, b (j + 1), rfl, h1, h2, hr, hl, hx, by omega, by omega, hf⟩
end Go.Abs
