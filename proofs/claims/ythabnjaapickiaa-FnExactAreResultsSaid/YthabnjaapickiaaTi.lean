/- The seat's types, as the small logic sees them, and the way into a function. -/
import Derived.Test.YthabnjaapickiaaAbs9
import Derived.Test.YthabnjaapickiaaProg
import Derived.KernelRfl
set_option linter.unusedSimpArgs false
namespace Go.Proofs.Ythabnjaapickiaa.A
open Go Go.Abs Go.RowKit
theorem ti2 : ti Try.prog 2 = some ⟨.int .i64, 1, 8, [.int .i64 0]⟩ := by kernel_rfl
theorem ti3 : ti Try.prog 3 = some ⟨.int .i64, 1, 8, [.int .i64 0]⟩ := by kernel_rfl
theorem ti4 : ti Try.prog 4 = some ⟨.bool, 1, 1, [.bool false]⟩ := by kernel_rfl
theorem ti94 : ti Try.prog 94 = some ⟨.array 14 2, 14, 112, ints (List.replicate 14 0)⟩ := by kernel_rfl
theorem ti95 : ti Try.prog 95 = some ⟨.array 14 2, 14, 112, ints (List.replicate 14 0)⟩ := by kernel_rfl
theorem ti22 : ti Try.prog 22 = some ⟨.slice 2, 1, 24, [.slice none 0 0]⟩ := by kernel_rfl
theorem ti46 : ti Try.prog 46 = some ⟨.slice 22, 1, 24, [.slice none 0 0]⟩ := by kernel_rfl
theorem ti28 : ti Try.prog 28 = some ⟨.slice 95, 1, 24, [.slice none 0 0]⟩ := by kernel_rfl
theorem ti37 : ti Try.prog 37 = some ⟨.slice 94, 1, 24, [.slice none 0 0]⟩ := by kernel_rfl
theorem ti30 : ti Try.prog 30 = some ⟨.struct [(0, 2), (1, 28)], 2, 32, [.int .i64 0, .slice none 0 0]⟩ := by kernel_rfl
theorem ti39 : ti Try.prog 39 = some ⟨.struct [(0, 2), (1, 37)], 2, 32, [.int .i64 0, .slice none 0 0]⟩ := by kernel_rfl
theorem ti32 : ti Try.prog 32 = some ⟨.struct [(0, 30), (2, 30)], 4, 64, [.int .i64 0, .slice none 0 0, .int .i64 0, .slice none 0 0]⟩ := by kernel_rfl
theorem ti41 : ti Try.prog 41 = some ⟨.struct [(0, 39), (2, 39)], 4, 64, [.int .i64 0, .slice none 0 0, .int .i64 0, .slice none 0 0]⟩ := by kernel_rfl
/-- A check of the list. -/
theorem listed (a b : Nat) : a + b = b + a ∧ True := by
  simp only [awp_skip, awp_ret, awp_exit, awp_seq, awp_cond, awp_block, awp_region, awpOps_cons, awpOps_guard, awpOps_nil, evalOp, evo_tmp, evo_int, evo_bool, evo_func, evo_nil, evo_str, evs_nil, evs_cons, evp_nil, evp_cons, bindO_some, asI_int, asB_bool, asP_ptr, asSl_nil, asSl_some, asAgg_agg, asTup_tup, asStr_str, asFn_fn, asCells_agg, asCells_int, asCells_bool, asCells_slice, asCells_str, asCells_fn, asCells_ptr, slT_sl, stT_st, oI_none, oI_some, runOut_val, runOut_unit, runOut_call, runOut_need, condW_tt, condW_tf, condW_ft, condW_ff, condW_undef, condC_true, condC_false, updO_some, updO_none, upd_apply, init, seqQ_normal, seqQ_ret, seqQ_exit, blockQ_normal, blockQ_ret, blockQ_exit, retQ_ret, retQ_normal, binE, binI, unE, convE, okNil, builtE, gv, TD.isAgg, resV, resL_nil, resL_cons, res1_tmp, pack_0, pack_1, pack_2, AH.push_row, AH.push_next, AH.setCells_row, AH.setCells_next, AH.drop_row, AH.drop_next, List.getD_cons_zero, List.getD_cons_succ, List.getD_nil, List.getElem?_cons_zero, List.getElem?_cons_succ, Option.bind_some, Option.some.injEq, exists_eq_left', ↓reduceIte, Nat.reduceEqDiff, reduceCtorEq, Bool.false_eq_true, true_and, and_true, List.toList_toArray, List.cons_append, List.nil_append, placeT_array, placeT_struct, placesOf_nil, placesOf_cons, fillL_nil, fillL_cons, cells_int, cells_bool, cells_slice, cells_str, cells_agg, noTuple_int, noTuple_bool, noTuple_slice, noTuple_str, noTuple_agg, one_int, one_bool, one_slice, one_str, one_ptr, one_func, splice_nil0, splice_cons0, splice_succ, seg_zero, seg_cons0, seg_succ, seg_ints14, splice_ints14, ints_zero, ints_length, List.length_replicate, List.length_cons, List.length_nil, Nat.zero_add, Nat.add_zero, Nat.zero_mul, Nat.mul_one, Nat.one_mul, Nat.reduceAdd, Nat.reduceMul, List.size_toArray, and_self, Nat.le_refl, Nat.reduceLeDiff, Option.map_some, ite_true, ite_false, res1_cell, resC_ptr, Nat.left_eq_add, Nat.add_eq_left, Nat.succ_ne_self, Nat.add_left_cancel_iff, Nat.add_right_cancel_iff, awpD_nil, awpD_cons, awpD_guard, quietOp, blindOp, true_or, ne_eq, Nat.one_ne_zero, not_false_eq_true, Int.toNat_natCast, Value.int.injEq, Value.bool.injEq, implies_true, awpI_nil, awpI_cons, stepI_op, stepI_guard, Int.reduceEq, Int.reduceLT, Int.reduceLE, add_n2, add_n3, add_n4, add_n5, add_n6, add_n7, add_n8, add_n9, add_n10, add_n11, add_n12, ok_rw, ok_int, ok_bool, ok_str, ok_slice, ok_ints, holds_def, Nat.reduceLT, List.set_cons_zero, List.set_cons_succ, Bool.not_true, Bool.not_false, ti2, ti3, ti4, ti94, ti95, ti22, ti46, ti28, ti37, ti30, ti39, ti32, ti41]
  exact Nat.add_comm a b
end Go.Proofs.Ythabnjaapickiaa.A
