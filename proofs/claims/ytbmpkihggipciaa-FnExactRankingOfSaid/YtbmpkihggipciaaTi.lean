/- The seat's types, as the small logic sees them, and the way into a function. -/
import Derived.Test.YtbmpkihggipciaaAbs15
import Derived.Test.YtbmpkihggipciaaProg
import Derived.KernelRfl
set_option linter.unusedSimpArgs false
namespace Go.Proofs.Ytbmpkihggipciaa.A
open Go Go.Abs Go.RowKit
theorem ti2 : ti Try.prog 2 = some ⟨.int .i64, 1, 8, [.int .i64 0]⟩ := by kernel_rfl
theorem ti3 : ti Try.prog 3 = some ⟨.int .i64, 1, 8, [.int .i64 0]⟩ := by kernel_rfl
theorem ti4 : ti Try.prog 4 = some ⟨.bool, 1, 1, [.bool false]⟩ := by kernel_rfl
theorem ti79 : ti Try.prog 79 = some ⟨.array 14 2, 14, 112, ints (List.replicate 14 0)⟩ := by kernel_rfl
theorem ti80 : ti Try.prog 80 = some ⟨.array 14 2, 14, 112, ints (List.replicate 14 0)⟩ := by kernel_rfl
theorem ti28 : ti Try.prog 28 = some ⟨.slice 2, 1, 24, [.slice none 0 0]⟩ := by kernel_rfl
theorem ti25 : ti Try.prog 25 = some ⟨.slice 28, 1, 24, [.slice none 0 0]⟩ := by kernel_rfl
theorem ti31 : ti Try.prog 31 = some ⟨.slice 80, 1, 24, [.slice none 0 0]⟩ := by kernel_rfl
theorem ti22 : ti Try.prog 22 = some ⟨.slice 79, 1, 24, [.slice none 0 0]⟩ := by kernel_rfl
theorem ti33 : ti Try.prog 33 = some ⟨.struct [(0, 2), (1, 31)], 2, 32, [.int .i64 0, .slice none 0 0]⟩ := by kernel_rfl
theorem ti24 : ti Try.prog 24 = some ⟨.struct [(0, 2), (1, 22)], 2, 32, [.int .i64 0, .slice none 0 0]⟩ := by kernel_rfl
theorem ti67 : ti Try.prog 67 = some ⟨.other, 1, 8, [.nilFunc]⟩ := by kernel_rfl
theorem ti111 : ti Try.prog 111 = some ⟨.other, 1, 8, [.nilFunc]⟩ := by kernel_rfl
theorem ti145 : ti Try.prog 145 = some ⟨.slice 3, 1, 24, [.slice none 0 0]⟩ := by kernel_rfl
theorem ti136 : ti Try.prog 136 = some ⟨.array 2 3, 2, 16, [.int .i64 0, .int .i64 0]⟩ := by kernel_rfl
theorem ti137 : ti Try.prog 137 = some ⟨.slice 136, 1, 24, [.slice none 0 0]⟩ := by kernel_rfl
theorem ti117 : ti Try.prog 117 = some ⟨.struct [(0, 2), (1, 25)], 2, 32, [.int .i64 0, .slice none 0 0]⟩ := by kernel_rfl
theorem ti100 : ti Try.prog 100 = some ⟨.slice 4, 1, 24, [.slice none 0 0]⟩ := by kernel_rfl
/-- A check of the list. -/
theorem listed (a b : Nat) : a + b = b + a ∧ True := by
  simp only [Sall,evalOp,init,binE,binI,unE,convE,okNil,builtE,gv,TD.isAgg,resV,↓reduceIte,Nat.reduceEqDiff,reduceCtorEq,Nat.reduceAdd,Nat.reduceMul,Nat.reduceLeDiff,quietOp,blindOp,Int.reduceEq,Int.reduceLT,Int.reduceLE,Nat.reduceLT, ti2,ti3,ti4,ti79,ti80,ti28,ti25,ti31,ti22,ti33,ti24,ti67,ti111,ti145,ti136,ti137,ti117,ti100]
  exact Nat.add_comm a b
end Go.Proofs.Ytbmpkihggipciaa.A
