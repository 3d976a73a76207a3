/- What a law is given, in this seat's types: rounds, schedules, desks. -/
import Derived.Test.YthabnjaapickiaaTi
import Derived.Test.YthabnjaapickiaaAbs11
set_option linter.unusedVariables false
set_option maxRecDepth 100000
namespace Go.Proofs.Ythabnjaapickiaa.A
open Go Go.Abs Go.RowKit
section
variable {K : Type} {enc : TypeId × Value → K} {W : World} {base b0 : Nat} {spare : Nat → Bool} {held : Bool}

theorem uInt : Try.prog.underlying 2 = some (.int .i64) := by kernel_rfl
theorem uArr : Try.prog.underlying 94 = some (.array 14 2) := by kernel_rfl
theorem uRounds : Try.prog.underlying 37 = some (.slice 94) := by kernel_rfl
theorem cInt : Try.prog.cellsOf 2 = 1 := by kernel_rfl
theorem cArr : Try.prog.cellsOf 94 = 14 := by kernel_rfl
theorem cRounds : Try.prog.cellsOf 37 = 1 := by kernel_rfl
theorem cSched : Try.prog.cellsOf 39 = 2 := by kernel_rfl
theorem fSched : fieldsOf Try.prog 39 = some [(2, 0), (37, 1)] := by kernel_rfl

theorem open_rounds {fuel : Nat} {v : Value} {x : DataW K × List MemPlace} (h : DataW.trod enc Try.prog W base spare held fuel 37 [v] = some x) (hok : Cell.okWide Try.prog W .any 0 37 v) :
    ∃ n l, Rd 14 (given W) v n l ∧ V1 id W.heap.size W v v ∧ n ≤ 9223372036854775807 := by
  have h1 := ok_slice_cell uRounds hok
  obtain ⟨n, l, hr, hv, hh⟩ := trod_ints uRounds cArr (by omega) (intsOf_array uArr uInt cInt cArr) h (h1.imp id fun ⟨b, o, n, c, e, hb, _⟩ => ⟨b, o, n, c, e, hb⟩)
  refine ⟨n, l, hr, hv, ?_⟩
  rcases hh with ⟨_, rfl⟩ | ⟨b, o, c, rfl⟩
  · omega
  · rcases h1 with h1 | ⟨b', o', n', c', e, _, hn⟩
    · cases h1
    · cases e; exact hn

theorem open_sched {fuel : Nat} {c0 c1 : Value} {x : DataW K × List MemPlace} (h : DataW.trod enc Try.prog W base spare held fuel 39 [c0, c1] = some x) (hok : Cell.okWide Try.prog W .any 0 37 c1) :
    ∃ q n l, c0 = .int .i64 q ∧ Rd 14 (given W) c1 n l ∧ V1 id W.heap.size W c1 c1 ∧ n ≤ 9223372036854775807 := by
  obtain ⟨m, hf⟩ := trod_fields fSched h
  obtain ⟨y0, h0⟩ := hf (2, 0) (by simp)
  obtain ⟨y1, h1⟩ := hf (37, 1) (by simp)
  simp only [cInt, cRounds] at h0 h1
  obtain ⟨q, hq, _⟩ := DataW.trod_int uInt h0
  obtain ⟨n, l, hr, hv, hn⟩ := open_rounds h1 hok
  exact ⟨q, n, l, by simpa using hq, hr, hv, hn⟩
end
theorem fDesk : fieldsOf Try.prog 41 = some [(39, 0), (39, 2)] := by kernel_rfl
theorem tDesk : Try.prog.cellTypes Try.prog.depth 41 = some [2, 37, 2, 37] := by kernel_rfl
theorem cDesk : Try.prog.cellsOf 41 = 4 := by kernel_rfl

theorem open_desk {b0 : Nat} {K : Type} {enc : TypeId × Value → K} {W : World} {spare : Nat → Bool} {held : Bool} {v : Value} {d : DataW K} {p : List MemPlace} (h : DataW.Trod enc Try.prog W 0 spare held 41 v d p) (hok : Value.okWide Try.prog W .any b0 41 v) :
    ∃ q q' u u' n n' l l', v = .agg #[.int .i64 q, u, .int .i64 q', u'] ∧ Rd 14 (given W) u n l ∧ V1 id W.heap.size W u u ∧ n ≤ 9223372036854775807 ∧ Rd 14 (given W) u' n' l' ∧ V1 id W.heap.size W u' u' ∧ n' ≤ 9223372036854775807 := by
  obtain ⟨cs, rfl, hs, hc⟩ := ok_struct fDesk tDesk hok
  rw [cDesk] at hs
  obtain ⟨l⟩ := cs
  match l, hs with
  | [c0, c1, c2, c3], _ =>
    obtain ⟨fuel, h⟩ := h
    obtain ⟨m, hf⟩ := trod_fields fDesk h
    obtain ⟨y0, h0⟩ := hf (39, 0) (by simp)
    obtain ⟨y1, h1⟩ := hf (39, 2) (by simp)
    simp only [cSched] at h0 h1
    obtain ⟨e, he, k1⟩ := hc 1 c1 rfl
    obtain ⟨e', he', k3⟩ := hc 3 c3 rfl
    cases he
    cases he'
    obtain ⟨q, n, l, rfl, r1, v1, n1⟩ := open_sched h0 k1
    obtain ⟨q', n', l', rfl, r2, v2, n2⟩ := open_sched h1 k3
    exact ⟨q, q', c1, c3, n, n', l, l', rfl, r1, v1, n1, r2, v2, n2⟩

end Go.Proofs.Ythabnjaapickiaa.A
