/- The small logic, tenth text: from a contract of the abstract heap to the world of a law's call. No program is named here. -/
import Derived.Test.YtbmpkihggipciaaAbs9
namespace Go.Abs
open Go Go.RowKit

/-- A law without arguments. -/
theorem law_end0 {P : Program} {f : FuncId} (h : ∀ H, ACalls P f [] H (fun v _ => v = .bool true ∧ True)) (W : World) : Calls P f #[] W fun e W' => e = .returned (.bool true) ∧ Below W.heap.size W W' := by
  have h0 := (h ⟨0, fun _ => none⟩).2 W.heap.size id W [] ⟨fun i r hr => (by cases hr), fun i r hr => (by cases hr), fun i r hr => (by cases hr), fun i j r s hr => (by cases hr), Nat.le_refl _⟩ LV.nil
  refine h0.mono ?_
  rintro e w' ⟨v', v, H', ρ', rfl, ⟨rfl, _⟩, R', hV, E⟩
  rw [hV.bool]
  exact ⟨rfl, E.bl⟩
end Go.Abs
