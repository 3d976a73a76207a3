/- What a law is given, second text: schedules, integers, lists, lists of lists. -/
import Derived.Test.YtbmpkihggipciaaOpen
import Derived.Test.YtbmpkihggipciaaAbs13
set_option linter.unusedVariables false
set_option maxRecDepth 100000
namespace Go.Proofs.Ytbmpkihggipciaa.A
open Go Go.Abs Go.RowKit
theorem tSched : Try.prog.cellTypes Try.prog.depth 24 = some [2, 22] := by kernel_rfl
theorem uList : Try.prog.underlying 28 = some (.slice 2) := by kernel_rfl
theorem uLists : Try.prog.underlying 25 = some (.slice 28) := by kernel_rfl
theorem cList : Try.prog.cellsOf 28 = 1 := by kernel_rfl
section
variable {K : Type} {enc : TypeId × Value → K} {W : World} {b0 : Nat} {spare : Nat → Bool} {held : Bool} {v : Value} {d : DataW K} {p : List MemPlace}

theorem open_S (h : DataW.Trod enc Try.prog W 0 spare held 24 v d p) (hok : Value.okWide Try.prog W .any b0 24 v) :
    ∃ q u n l, v = .agg #[.int .i64 q, u] ∧ Rd 14 (given W) u n l ∧ V1 id W.heap.size W u u ∧ n ≤ 9223372036854775807 := by
  obtain ⟨cs, rfl, hs, hc⟩ := ok_struct fSched tSched hok
  rw [cSched] at hs
  obtain ⟨l⟩ := cs
  match l, hs with
  | [c0, c1], _ =>
    obtain ⟨fuel, h⟩ := h
    obtain ⟨e, he, k1⟩ := hc 1 c1 rfl
    cases he
    obtain ⟨q, n, l, rfl, r1, v1, n1⟩ := open_sched h k1
    exact ⟨q, c1, n, l, rfl, r1, v1, n1⟩

theorem open_I (h : DataW.Trod enc Try.prog W 0 spare held 2 v d p) (hok : Value.okWide Try.prog W .any b0 2 v) : ∃ a, v = .int .i64 a ∧ -9223372036854775808 ≤ a ∧ a ≤ 9223372036854775807 := by
  obtain ⟨fuel, h⟩ := h
  obtain ⟨a, ha, hx⟩ := DataW.trod_int uInt h
  unfold Value.okWide at hok
  rw [uInt] at hok
  have h2 : Cell.okWide Try.prog W .any b0 2 v := hok
  unfold Cell.okWide at h2
  rw [uInt] at h2
  have h3 : Cell.ok Try.prog W .any b0 2 v := h2
  unfold Cell.ok at h3
  rw [uInt] at h3
  cases v with
  | int k n =>
    obtain ⟨rfl, h4, h5⟩ := h3
    exact ⟨n, rfl, h4, h5⟩
  | _ => exact False.elim h3

theorem cell_of_val {t e : TypeId} (hu : Try.prog.underlying t = some (.slice e)) (hok : Value.okWide Try.prog W .any b0 t v) : Cell.okWide Try.prog W .any 0 t v := by
  unfold Value.okWide at hok
  rw [hu] at hok
  exact hok

theorem cells_slice1 {t e : TypeId} (hu : Try.prog.underlying t = some (.slice e)) (hok : Cell.okWide Try.prog W .any 0 t v) : v.cells.toList = [v] := by
  rcases ok_slice_cell hu hok with rfl | ⟨b, o, n, c, rfl, _⟩ <;> rfl

theorem open_LL (h : DataW.Trod enc Try.prog W 0 spare held 25 v d p) (hok : Value.okWide Try.prog W .any b0 25 v) :
    ∃ ll, Rd2 1 (given W) v ll ∧ V1 id W.heap.size W v v ∧ ll.length ≤ 9223372036854775807 ∧ ∀ y ∈ ll, y.length ≤ 9223372036854775807 := by
  have h0 := cell_of_val uLists hok
  obtain ⟨fuel, h⟩ := h
  rw [cells_slice1 uLists h0] at h
  obtain ⟨ll, h1, h2, h3, h4⟩ := trod_lists uLists uList uInt cList cInt h (ok_slice_cell uLists h0)
  exact ⟨ll, h1, h2, h3, fun y hy => by have := h4 y hy; unfold Go.maxLen at this; omega⟩

theorem open_L (h : DataW.Trod enc Try.prog W 0 spare held 28 v d p) (hok : Value.okWide Try.prog W .any b0 28 v) :
    ∃ n l, Rd 1 (given W) v n l ∧ V1 id W.heap.size W v v ∧ n ≤ 9223372036854775807 := by
  have h0 := cell_of_val uList hok
  obtain ⟨fuel, h⟩ := h
  rw [cells_slice1 uList h0] at h
  have h1 := ok_slice_cell uList h0
  obtain ⟨n, l, hr, hv, hh⟩ := trod_ints uList cInt (by omega) (intsOf_int uInt) h (h1.imp id fun ⟨b, o, n, c, e, hb, _⟩ => ⟨b, o, n, c, e, hb⟩)
  refine ⟨n, l, hr, hv, ?_⟩
  rcases hh with ⟨_, rfl⟩ | ⟨b, o, c, rfl⟩
  · omega
  · rcases h1 with h1 | ⟨b', o', n', c', e, _, hn⟩
    · cases h1
    · cases e; exact hn
end
end Go.Proofs.Ytbmpkihggipciaa.A
