/- What a law is given, in this seat's types: rounds, schedules, desks. -/
import Derived.Test.YtbmpkihggipciaaTi
import Derived.Test.YtbmpkihggipciaaAbs11
set_option linter.unusedVariables false
set_option maxRecDepth 100000
namespace Go.Proofs.Ytbmpkihggipciaa.A
open Go Go.Abs Go.RowKit
section
variable {K : Type} {enc : TypeId × Value → K} {W : World} {base b0 : Nat} {spare : Nat → Bool} {held : Bool}

theorem uInt : Try.prog.underlying 2 = some (.int .i64) := by kernel_rfl
theorem uArr : Try.prog.underlying 79 = some (.array 14 2) := by kernel_rfl
theorem uRounds : Try.prog.underlying 22 = some (.slice 79) := by kernel_rfl
theorem cInt : Try.prog.cellsOf 2 = 1 := by kernel_rfl
theorem cArr : Try.prog.cellsOf 79 = 14 := by kernel_rfl
theorem cRounds : Try.prog.cellsOf 22 = 1 := by kernel_rfl
theorem cSched : Try.prog.cellsOf 24 = 2 := by kernel_rfl
theorem fSched : fieldsOf Try.prog 24 = some [(2, 0), (22, 1)] := by kernel_rfl

theorem open_rounds {fuel : Nat} {v : Value} {x : DataW K × List MemPlace} (h : DataW.trod enc Try.prog W base spare held fuel 22 [v] = some x) (hok : Cell.okWide Try.prog W .any 0 22 v) :
    ∃ n l, Rd 14 (given W) v n l ∧ V1 id W.heap.size W v v ∧ n ≤ 9223372036854775807 := by
  have h1 := ok_slice_cell uRounds hok
  obtain ⟨n, l, hr, hv, hh⟩ := trod_ints uRounds cArr (by omega) (intsOf_array uArr uInt cInt cArr) h (h1.imp id fun ⟨b, o, n, c, e, hb, _⟩ => ⟨b, o, n, c, e, hb⟩)
  refine ⟨n, l, hr, hv, ?_⟩
  rcases hh with ⟨_, rfl⟩ | ⟨b, o, c, rfl⟩
  · omega
  · rcases h1 with h1 | ⟨b', o', n', c', e, _, hn⟩
    · cases h1
    · cases e; exact hn

theorem open_sched {fuel : Nat} {c0 c1 : Value} {x : DataW K × List MemPlace} (h : DataW.trod enc Try.prog W base spare held fuel 24 [c0, c1] = some x) (hok : Cell.okWide Try.prog W .any 0 22 c1) :
    ∃ q n l, c0 = .int .i64 q ∧ Rd 14 (given W) c1 n l ∧ V1 id W.heap.size W c1 c1 ∧ n ≤ 9223372036854775807 := by
  obtain ⟨m, hf⟩ := trod_fields fSched h
  obtain ⟨y0, h0⟩ := hf (2, 0) (by simp)
  obtain ⟨y1, h1⟩ := hf (22, 1) (by simp)
  simp only [cInt, cRounds] at h0 h1
  obtain ⟨q, hq, _⟩ := DataW.trod_int uInt h0
  obtain ⟨n, l, hr, hv, hn⟩ := open_rounds h1 hok
  exact ⟨q, n, l, by simpa using hq, hr, hv, hn⟩
end
end Go.Proofs.Ytbmpkihggipciaa.A
