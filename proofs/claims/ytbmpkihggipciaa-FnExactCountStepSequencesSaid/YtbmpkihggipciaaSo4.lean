/- slices.Compact as a contract over the heap. -/
import Derived.Shelf.SlicesG.CompactI
import Derived.Sort.OwnSortedInts
import Derived.Test.YtbmpkihggipciaaAbs18
import Derived.Test.YtbmpkihggipciaaTi
set_option linter.unusedSimpArgs false
set_option linter.unusedVariables false
set_option maxRecDepth 100000
set_option maxHeartbeats 2000000
namespace Go.Proofs.Ytbmpkihggipciaa.A
open Go Go.Abs Go.RowKit Go.Shelf Go.Sort

def compactRen : Go.Shelf.Ren := ⟨fun | 43 => 143 | n => n, fun | 22 => 28 | 23 => 2 | 3 => 3 | 4 => 4 | 0 => 0 | n => n, fun | n => n⟩
theorem compactLy : Go.Proofs.SlLaysN.n43 Try.prog compactRen := {
  mixed := by kernel_rfl
  f43 := ⟨Try.f143.name, by decide, Try.func143.trans (congrArg some (by kernel_rfl))⟩
  t0 := Try.underlying0
  a0 := Try.isAgg0
  z0 := Try.sizeOf0
  v0 := Try.zeroValue0
  t3 := Try.underlying3
  a3 := Try.isAgg3
  z3 := Try.sizeOf3
  v3 := Try.zeroValue3
  t4 := Try.underlying4
  a4 := Try.isAgg4
  z4 := Try.sizeOf4
  v4 := Try.zeroValue4
  t22 := Try.underlying28
  a22 := Try.isAgg28
  z22 := Try.sizeOf28
  v22 := Try.zeroValue28
  t23 := Try.underlying2
  a23 := Try.isAgg2
  z23 := Try.sizeOf2
  v23 := Try.zeroValue2
  i23 := by kernel_rfl }

theorem compact_c (v : Value) (y : List Int) (lo hi : Nat) (H : AH) (hv : Fr 1 2 lo hi H v y.length y) (hy : y.length ≤ 4294967296) :
    ACalls Try.prog 143 [v] H (fun u H' => (∀ H2, asSl u (.val (.int .i64 0) H2) (fun _ _ _ n _ => .val (.int .i64 (n : Int)) H2) = .val (.int .i64 (Lib.compact y).length) H2) ∧ H'.next = H.next ∧ ∀ i, ¬ (lo ≤ i ∧ i < hi) → H'.row i = H.row i) := by
  refine ⟨by kernel_rfl, fun base ρ w args' R hL => ?_⟩
  obtain ⟨hl, hx⟩ := hL
  match args', hl, hx with
  | [a], _, hx =>
    have hva := hx 0 _ _ rfl rfl
    obtain ⟨_, ⟨h0, rfl⟩ | ⟨i, h1, h2, rfl, hr⟩⟩ := hv
    · obtain ⟨_, _, rfl⟩ := hva.nils
      have hy0 : y = [] := List.eq_nil_of_length_eq_zero h0
      subst hy0
      refine (AnyG.slices_Compact_int_empty compactLy none 0 w).mono ?_
      rintro e w' ⟨rfl, rfl⟩
      exact ⟨_, .slice none 0 0, H, ρ, rfl, ⟨fun _ => rfl, rfl, fun _ _ => rfl⟩, R, .scal rfl, Ext.refl _ _ _ _⟩
    · obtain ⟨hi1, a', c', rfl, hc, ⟨rfl, hb⟩ | ⟨_, h⟩⟩ := hva.slu
      · obtain ⟨hbase, cs, hcs, hL1⟩ := R.rwr i _ hr rfl
        have hL2 : L1 ρ H.next w (ints y) (cs.toList.take y.length) := by simpa [ints_length] using hL1
        have ht : cs.toList.take y.length = y.map (Value.int .i64) := by
          have e : cs.toList.take y.length = ints y := by
            apply List.ext_getElem?
            intro j
            by_cases hj : j < (ints y).length
            · obtain ⟨z, hz, hv1⟩ := hL2.get (ints_get? y j (by rwa [ints_length] at hj))
              rw [hz, ints_get? y j (by rwa [ints_length] at hj), VR.int (.one hv1)]
            · rw [List.getElem?_eq_none (l := ints y) (by omega), List.getElem?_eq_none (by have := hL2.1; omega)]
          exact e
        have hH : Holds (Value.int .i64) w (ρ i) 0 y.toArray := holds_of_blockI hcs ht
        refine (AnyG.slices_Compact_int compactLy (ρ i) 0 c' y w hH (by omega) hc).mono ?_
        rintro e w' ⟨rfl, q, hw'⟩
        obtain ⟨d, hd⟩ : ∃ d, d = Lib.compact y ++ List.replicate (y.length - (Lib.compact y).length) 0 := ⟨_, rfl⟩
        have hle : (Lib.compact y).length ≤ y.length := by
          unfold Lib.compact Lib.compactUpTo
          rw [List.length_map]
          exact Nat.le_trans (List.length_filter_le _ _) (by simp)
        have hdl : d.length = y.length := by rw [hd, List.length_append, List.length_replicate]; omega
        rw [← hd] at hw'
        have hw2 : w' = grow (putRow (Value.int .i64) (Sort.ahead w q) (ρ i) 0 d.toArray) #[] := by rw [hw', grow_empty]
        have hg : w.grownBy w' (some (ρ i)) := by rw [hw2]; exact grownBy_sortedI _
        have h1' := heap_sortedI (n := q) (os := #[]) d.toArray hcs
        rw [← hw2] at h1'
        have hbs : cs.size = c' := by have := hb; simp [bsz, hcs] at this; omega
        have hx2 : L1 ρ H.next w (ints d) ((putCells (Value.int .i64) 0 d.toArray cs).toList.take (ints d).length) := by
          rw [ints_length, take_putCellsI cs d (by omega)]
          exact L1.self fun v hv => by obtain ⟨z, _, rfl⟩ := List.mem_map.1 hv; rfl
        obtain ⟨R', E⟩ := R.turned hr rfl hg hcs h1' (by simp [putCells]) hx2
        refine ⟨_, .slice (some ⟨i, 0, some 1⟩) (Lib.compact y).length (Lib.compact y).length, H.setCells i (ints d), ρ, rfl, ⟨fun _ => rfl, rfl, fun j hj => by rw [AH.setCells_row, if_neg (by rintro rfl; exact hj ⟨h1, h2⟩)]⟩, R', .one (.slu _ _ _ _ _ _ _ hi1 (by omega) (.inl ⟨rfl, ?_⟩)), E⟩
        have := E.st _ _ hb
        exact this
      · exact absurd h (by omega)
end Go.Proofs.Ytbmpkihggipciaa.A
