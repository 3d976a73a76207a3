/- The small logic, fifteenth text: the stepping lemmas in one, so that the walks' texts stay short. No program is named here. And what follows. -/
import Derived.Test.YtgkmdfjjlghecaaM1
import Derived.Test.YtgkmdfjjlghecaaProg
import Derived.KernelRfl
import Derived.ChangeArms
import Derived.OpenShut
import Derived.DataReads
import Derived.RangeFuncBox
import Derived.RangeFuncLeaves
import Derived.Shelf.Abstract
import Derived.WalkKit
import Derived.OwnWalkIn
import Derived.TacticsInMore
import Derived.LoopNIn
import Derived.LoopIn
import Derived.Maps.AppendAt
import Derived.Sort.OwnSortedInts
import Derived.Laws.AppendOwn
import Derived.Shelf.SortM.Plain
import Derived.Shelf.SortM.SortNone
import Derived.Lib.SlicesCompact
import Derived.Shelf.SlicesG.CompactI
section
set_option maxRecDepth 100000
set_option linter.defProp false
namespace Go.Abs
open Go Go.RowKit
def Sall := And.intro (And.intro (And.intro (And.intro (And.intro (And.intro (And.intro (@awp_skip) (@awp_ret)) (And.intro (@awp_exit) (And.intro (@awp_seq) (@awp_cond)))) (And.intro (And.intro (@awp_block) (And.intro (@awp_region) (@awpOps_cons))) (And.intro (@awpOps_guard) (And.intro (@awpOps_nil) (@evo_tmp))))) (And.intro (And.intro (And.intro (@evo_int) (@evo_bool)) (And.intro (@evo_func) (And.intro (@evo_nil) (@evo_str)))) (And.intro (And.intro (@evs_nil) (And.intro (@evs_cons) (@evp_nil))) (And.intro (@evp_cons) (And.intro (@bindO_some) (@asI_int)))))) (And.intro (And.intro (And.intro (And.intro (@asB_bool) (@asP_ptr)) (And.intro (@asSl_nil) (And.intro (@asSl_some) (@asAgg_agg)))) (And.intro (And.intro (@asTup_tup) (And.intro (@asStr_str) (@asFn_fn))) (And.intro (@asCells_agg) (And.intro (@asCells_int) (@asCells_bool))))) (And.intro (And.intro (And.intro (@asCells_slice) (@asCells_str)) (And.intro (@asCells_fn) (And.intro (@asCells_ptr) (@slT_sl)))) (And.intro (And.intro (@stT_st) (And.intro (@oI_none) (@oI_some))) (And.intro (@runOut_val) (And.intro (@runOut_unit) (@runOut_call))))))) (And.intro (And.intro (And.intro (And.intro (And.intro (@runOut_need) (@condW_tt)) (And.intro (@condW_tf) (And.intro (@condW_ft) (@condW_ff)))) (And.intro (And.intro (@condW_undef) (And.intro (@condC_true) (@condC_false))) (And.intro (@updO_some) (And.intro (@updO_none) (@upd_apply))))) (And.intro (And.intro (And.intro (@seqQ_normal) (@seqQ_ret)) (And.intro (@seqQ_exit) (And.intro (@blockQ_normal) (@blockQ_ret)))) (And.intro (And.intro (@blockQ_exit) (And.intro (@retQ_ret) (@retQ_normal))) (And.intro (@resL_nil) (And.intro (@resL_cons) (@res1_tmp)))))) (And.intro (And.intro (And.intro (And.intro (@pack_0) (@pack_1)) (And.intro (@pack_2) (And.intro (@AH.push_row) (@AH.push_next)))) (And.intro (And.intro (@AH.setCells_row) (And.intro (@AH.setCells_next) (@AH.drop_row))) (And.intro (@AH.drop_next) (And.intro (@List.getD_cons_zero.{0}) (@List.getD_cons_succ.{0}))))) (And.intro (And.intro (And.intro (@List.getD_nil.{0}) (And.intro (@List.getElem?_cons_zero.{0}) (@List.getElem?_cons_succ.{0}))) (And.intro (@Option.bind_some.{0, 0}) (And.intro (@Option.some.injEq.{0}) (And.intro (@exists_eq_left'.{0}) (@exists_eq_left'.{1}))))) (And.intro (And.intro (@Bool.false_eq_true) (And.intro (@true_and) (@and_true))) (And.intro (@List.toList_toArray.{0}) (And.intro (@List.cons_append.{0}) (@List.nil_append.{0})))))))) (And.intro (And.intro (And.intro (And.intro (And.intro (And.intro (@placeT_array) (@placeT_struct)) (And.intro (@placesOf_nil) (And.intro (@placesOf_cons) (@fillL_nil)))) (And.intro (And.intro (@fillL_cons) (And.intro (@cells_int) (@cells_bool))) (And.intro (@cells_slice) (And.intro (@cells_str) (@cells_agg))))) (And.intro (And.intro (And.intro (@noTuple_int) (@noTuple_bool)) (And.intro (@noTuple_slice) (And.intro (@noTuple_str) (@noTuple_agg)))) (And.intro (And.intro (@one_int) (And.intro (@one_bool) (@one_slice))) (And.intro (@one_str) (And.intro (@one_ptr) (@one_func)))))) (And.intro (And.intro (And.intro (And.intro (@splice_nil0) (@splice_cons0)) (And.intro (@splice_succ) (And.intro (@seg_zero) (@seg_cons0)))) (And.intro (And.intro (@seg_succ) (And.intro (@seg_ints14) (@splice_ints14))) (And.intro (@ints_zero) (And.intro (@ints_length) (@List.length_replicate.{0}))))) (And.intro (And.intro (And.intro (@List.length_cons.{0}) (And.intro (@List.length_nil.{0}) (@Nat.zero_add))) (And.intro (@Nat.add_zero) (And.intro (@Nat.zero_mul) (@Nat.mul_one)))) (And.intro (And.intro (@Nat.one_mul) (And.intro (@List.size_toArray.{0}) (@and_self))) (And.intro (@Nat.le_refl) (And.intro (@Option.map_some.{0, 0}) (And.intro (@ite_true.{0}) (@ite_true.{1})))))))) (And.intro (And.intro (And.intro (And.intro (And.intro (And.intro (@ite_false.{0}) (@ite_false.{1})) (@res1_cell)) (And.intro (@resC_ptr) (And.intro (@Nat.left_eq_add) (@Nat.add_eq_left)))) (And.intro (And.intro (@Nat.succ_ne_self) (And.intro (@Nat.add_left_cancel_iff) (@Nat.add_right_cancel_iff))) (And.intro (@awpD_nil) (And.intro (@awpD_cons) (@awpD_guard))))) (And.intro (And.intro (And.intro (@true_or) (And.intro (@ne_eq.{0}) (@ne_eq.{1}))) (And.intro (@Nat.one_ne_zero) (And.intro (@not_false_eq_true) (@Int.toNat_natCast)))) (And.intro (And.intro (@Value.int.injEq) (And.intro (@Value.bool.injEq) (And.intro (@implies_true.{0}) (@implies_true.{1})))) (And.intro (@awpI_nil) (And.intro (@awpI_cons) (@stepI_op)))))) (And.intro (And.intro (And.intro (And.intro (@stepI_guard) (@add_n2)) (And.intro (@add_n3) (And.intro (@add_n4) (@add_n5)))) (And.intro (And.intro (@add_n6) (And.intro (@add_n7) (@add_n8))) (And.intro (@add_n9) (And.intro (@add_n10) (@add_n11))))) (And.intro (And.intro (And.intro (@add_n12) (And.intro (@ok_rw) (@ok_int))) (And.intro (@ok_bool) (And.intro (@ok_str) (@ok_slice)))) (And.intro (And.intro (@ok_ints) (And.intro (@holds_def) (@List.set_cons_zero.{0}))) (And.intro (@List.set_cons_succ.{0}) (And.intro (@Bool.not_true) (@Bool.not_false))))))))
end Go.Abs
end

section
set_option linter.unusedSimpArgs false
namespace Go.Proofs.Ytgkmdfjjlghecaa.A
open Go Go.Abs Go.RowKit
theorem ti2 : ti Try.prog 2 = some ⟨.int .i64, 1, 8, [.int .i64 0]⟩ := by kernel_rfl
theorem ti3 : ti Try.prog 3 = some ⟨.int .i64, 1, 8, [.int .i64 0]⟩ := by kernel_rfl
theorem ti4 : ti Try.prog 4 = some ⟨.bool, 1, 1, [.bool false]⟩ := by kernel_rfl
theorem ti45 : ti Try.prog 45 = some ⟨.array 14 2, 14, 112, ints (List.replicate 14 0)⟩ := by kernel_rfl
theorem ti46 : ti Try.prog 46 = some ⟨.array 14 2, 14, 112, ints (List.replicate 14 0)⟩ := by kernel_rfl
theorem ti38 : ti Try.prog 38 = some ⟨.slice 2, 1, 24, [.slice none 0 0]⟩ := by kernel_rfl
theorem ti25 : ti Try.prog 25 = some ⟨.slice 38, 1, 24, [.slice none 0 0]⟩ := by kernel_rfl
theorem ti30 : ti Try.prog 30 = some ⟨.slice 46, 1, 24, [.slice none 0 0]⟩ := by kernel_rfl
theorem ti22 : ti Try.prog 22 = some ⟨.slice 45, 1, 24, [.slice none 0 0]⟩ := by kernel_rfl
theorem ti32 : ti Try.prog 32 = some ⟨.struct [(0, 2), (1, 30)], 2, 32, [.int .i64 0, .slice none 0 0]⟩ := by kernel_rfl
theorem ti24 : ti Try.prog 24 = some ⟨.struct [(0, 2), (1, 22)], 2, 32, [.int .i64 0, .slice none 0 0]⟩ := by kernel_rfl
theorem ti95 : ti Try.prog 95 = some ⟨.other, 1, 8, [.nilFunc]⟩ := by kernel_rfl
theorem ti172 : ti Try.prog 172 = some ⟨.other, 1, 8, [.nilFunc]⟩ := by kernel_rfl
theorem ti169 : ti Try.prog 169 = some ⟨.slice 3, 1, 24, [.slice none 0 0]⟩ := by kernel_rfl
theorem ti165 : ti Try.prog 165 = some ⟨.array 2 3, 2, 16, [.int .i64 0, .int .i64 0]⟩ := by kernel_rfl
theorem ti166 : ti Try.prog 166 = some ⟨.slice 165, 1, 24, [.slice none 0 0]⟩ := by kernel_rfl
theorem ti65 : ti Try.prog 65 = some ⟨.struct [(0, 2), (1, 25)], 2, 32, [.int .i64 0, .slice none 0 0]⟩ := by kernel_rfl
theorem ti143 : ti Try.prog 143 = some ⟨.other, 1, 8, [.nilFunc]⟩ := by kernel_rfl
theorem ti87 : ti Try.prog 87 = some ⟨.slice 4, 1, 24, [.slice none 0 0]⟩ := by kernel_rfl
theorem tiA : ti Try.prog 2 = some ⟨.int .i64, 1, 8, [.int .i64 0]⟩ ∧ ti Try.prog 3 = some ⟨.int .i64, 1, 8, [.int .i64 0]⟩ ∧ ti Try.prog 4 = some ⟨.bool, 1, 1, [.bool false]⟩ ∧ ti Try.prog 45 = some ⟨.array 14 2, 14, 112, ints (List.replicate 14 0)⟩ ∧ ti Try.prog 46 = some ⟨.array 14 2, 14, 112, ints (List.replicate 14 0)⟩ ∧ ti Try.prog 38 = some ⟨.slice 2, 1, 24, [.slice none 0 0]⟩ ∧ ti Try.prog 25 = some ⟨.slice 38, 1, 24, [.slice none 0 0]⟩ ∧ ti Try.prog 30 = some ⟨.slice 46, 1, 24, [.slice none 0 0]⟩ ∧ ti Try.prog 22 = some ⟨.slice 45, 1, 24, [.slice none 0 0]⟩ ∧ ti Try.prog 32 = some ⟨.struct [(0, 2), (1, 30)], 2, 32, [.int .i64 0, .slice none 0 0]⟩ ∧ ti Try.prog 24 = some ⟨.struct [(0, 2), (1, 22)], 2, 32, [.int .i64 0, .slice none 0 0]⟩ ∧ ti Try.prog 95 = some ⟨.other, 1, 8, [.nilFunc]⟩ ∧ ti Try.prog 172 = some ⟨.other, 1, 8, [.nilFunc]⟩ ∧ ti Try.prog 169 = some ⟨.slice 3, 1, 24, [.slice none 0 0]⟩ ∧ ti Try.prog 165 = some ⟨.array 2 3, 2, 16, [.int .i64 0, .int .i64 0]⟩ ∧ ti Try.prog 166 = some ⟨.slice 165, 1, 24, [.slice none 0 0]⟩ ∧ ti Try.prog 65 = some ⟨.struct [(0, 2), (1, 25)], 2, 32, [.int .i64 0, .slice none 0 0]⟩ ∧ ti Try.prog 143 = some ⟨.other, 1, 8, [.nilFunc]⟩ ∧ ti Try.prog 87 = some ⟨.slice 4, 1, 24, [.slice none 0 0]⟩ := ⟨ti2, ti3, ti4, ti45, ti46, ti38, ti25, ti30, ti22, ti32, ti24, ti95, ti172, ti169, ti165, ti166, ti65, ti143, ti87⟩
theorem listed (a b : Nat) : a + b = b + a ∧ True := by
  simp only [Sall,evalOp,init,binE,binI,unE,convE,okNil,builtE,gv,TD.isAgg,resV,↓reduceIte,Nat.reduceEqDiff,reduceCtorEq,Nat.reduceAdd,Nat.reduceMul,Nat.reduceLeDiff,quietOp,blindOp,Int.reduceEq,Int.reduceLT,Int.reduceLE,Nat.reduceLT, tiA]
  exact Nat.add_comm a b
end Go.Proofs.Ytgkmdfjjlghecaa.A
end

section
set_option linter.unusedSimpArgs false
set_option linter.unusedVariables false
namespace Go.Abs

def rnd (l : List Int) (i : Nat) : List Int := (l.drop (i * 14)).take 14
theorem all_false_of {n i : Nat} {p : Nat → Bool} (hi : i < n) (h : p i = false) : (List.range n).all p = false := by
  rw [List.all_eq_false]; exact ⟨i, by simpa using hi, by simp [h]⟩
theorem all_true_of {n : Nat} {p : Nat → Bool} (h : ∀ x, x < n → p x = true) : (List.range n).all p = true := by
  rw [List.all_eq_true]; intro x hx; exact h x (by simpa using hx)
def firstI (p : Nat → Bool) (k : Nat) : Int := match (List.range k).find? p with | some i => (i : Int) | none => -1
theorem find_at {p : Nat → Bool} {k a : Nat} (ha : a < k) (h : p a = true) (hb : ∀ x, x < a → p x = false) : (List.range k).find? p = some a := by
  rw [List.find?_range_eq_some]
  refine ⟨h, by simpa using ha, fun x hx => by simp [hb x hx]⟩
theorem firstI_at {p : Nat → Bool} {k a : Nat} (ha : a < k) (h : p a = true) (hb : ∀ x, x < a → p x = false) : firstI p k = a := by
  unfold firstI; rw [find_at ha h hb]
theorem firstI_none {p : Nat → Bool} {k : Nat} (hb : ∀ x, x < k → p x = false) : firstI p k = -1 := by
  unfold firstI
  rw [List.find?_eq_none.2 (by intro x hx; simp [hb x (by simpa using hx)])]
theorem firstI_any (p : Nat → Bool) (k : Nat) : decide (0 ≤ firstI p k) = (List.range k).any p := by
  unfold firstI
  cases h : (List.range k).find? p with
  | none => rw [List.find?_eq_none] at h; rw [List.any_eq_false.2 h]; rfl
  | some i =>
    have h1 := List.find?_some h
    have h2 := List.mem_of_find?_eq_some h
    rw [List.any_eq_true.2 ⟨i, h2, h1⟩]
    simp
end Go.Abs
end

section
set_option linter.unusedSimpArgs false
set_option linter.unusedVariables false
set_option maxRecDepth 100000
namespace Go.Proofs.Ytgkmdfjjlghecaa.A
open Go Go.Abs Go.RowKit

theorem between_c (n lo hi : Int) (H : AH) : ACalls Try.prog 116 [.int .i64 n, .int .i64 lo, .int .i64 hi] H (is (.bool (decide (lo ≤ n ∧ n ≤ hi))) H) := by
  refine acalls_of_awp [.tmp 6] Try.func116 (by kernel_rfl) rfl rfl (Nat.le_of_ble_eq_true rfl) (by kernel_rfl) ?_
  by_cases h : lo ≤ n
  · try simp (disch := first | omega | (simp only [ints_length, List.length_replicate] <;> omega)) only [Sall,evalOp,init,binE,binI,unE,convE,okNil,builtE,gv,TD.isAgg,resV,↓reduceIte,Nat.reduceEqDiff,reduceCtorEq,Nat.reduceAdd,Nat.reduceMul,Nat.reduceLeDiff,quietOp,blindOp,Int.reduceEq,Int.reduceLT,Int.reduceLE,Nat.reduceLT,tiA, h, decide_true, is]
  · try simp (disch := first | omega | (simp only [ints_length, List.length_replicate] <;> omega)) only [Sall,evalOp,init,binE,binI,unE,convE,okNil,builtE,gv,TD.isAgg,resV,↓reduceIte,Nat.reduceEqDiff,reduceCtorEq,Nat.reduceAdd,Nat.reduceMul,Nat.reduceLeDiff,quietOp,blindOp,Int.reduceEq,Int.reduceLT,Int.reduceLE,Nat.reduceLT,tiA, h, decide_false, is, false_and]

theorem l01In_c (n lo hi : Int) (H : AH) : ACalls Try.prog 123 [.int .i64 n, .int .i64 lo, .int .i64 hi] H (is (.bool (decide (lo ≤ n ∧ n ≤ hi))) H) := by
  refine acalls_of_awp [.tmp 6] Try.func123 (by kernel_rfl) rfl rfl (Nat.le_of_ble_eq_true rfl) (by kernel_rfl) ?_
  by_cases h : lo ≤ n
  · try simp (disch := first | omega | (simp only [ints_length, List.length_replicate] <;> omega)) only [Sall,evalOp,init,binE,binI,unE,convE,okNil,builtE,gv,TD.isAgg,resV,↓reduceIte,Nat.reduceEqDiff,reduceCtorEq,Nat.reduceAdd,Nat.reduceMul,Nat.reduceLeDiff,quietOp,blindOp,Int.reduceEq,Int.reduceLT,Int.reduceLE,Nat.reduceLT,tiA, h, decide_true, is]
  · try simp (disch := first | omega | (simp only [ints_length, List.length_replicate] <;> omega)) only [Sall,evalOp,init,binE,binI,unE,convE,okNil,builtE,gv,TD.isAgg,resV,↓reduceIte,Nat.reduceEqDiff,reduceCtorEq,Nat.reduceAdd,Nat.reduceMul,Nat.reduceLeDiff,quietOp,blindOp,Int.reduceEq,Int.reduceLT,Int.reduceLE,Nat.reduceLT,tiA, h, decide_false, is, false_and]

end Go.Proofs.Ytgkmdfjjlghecaa.A
end

section
namespace Go.Abs
open Go Go.RowKit

end Go.Abs
end

section
set_option linter.unusedVariables false
namespace Go.Abs
open Go Go.RowKit

def absV (n : Nat) (v : Value) : Value := if scal v = true then v else match v with
  | .slice (some _) 0 c => if 0 < n then .slice (some ⟨0, 1, some 0⟩) 0 c else undef
  | .slice (some ⟨b, o, none⟩) l c => if b < n then .slice (some ⟨b, o, none⟩) l c else undef
  | _ => undef

def absRow (w : World) (b : Nat) : List Value := match bsz w b with
  | some k => (List.range k).map fun j => match w.cell? ⟨b, j, none⟩ with | some v => absV w.heap.size v | none => undef
  | none => []

def given (w : World) : AH := ⟨w.heap.size, fun b => if b < w.heap.size then some ⟨0, false, absRow w b⟩ else none⟩

theorem absV_rel (w : World) (v : Value) (h : (absV w.heap.size v).oneCell' = true) : V1 id w.heap.size w (absV w.heap.size v) v := by
  unfold absV at h ⊢
  by_cases hs : scal v = true
  · rw [if_pos hs]; exact .scal v hs
  · rw [if_neg hs] at h ⊢
    split at h
    · rename_i a c
      by_cases hb : 0 < w.heap.size
      · simp only [hb, if_true]; exact .slu 0 1 0 c 0 a c hb (Nat.zero_le _) (.inr ⟨rfl, Nat.zero_lt_one⟩)
      · simp [hb, undef, Value.oneCell'] at h
    · rename_i b o l c _
      by_cases hb : b < w.heap.size
      · simp only [hb, if_true]; exact V1.sle (ρ := id) b o l c hb
      · simp [hb, undef, Value.oneCell'] at h
    · simp [undef, Value.oneCell'] at h

theorem given_rel (w : World) : Rel w.heap.size id (given w) w := by
  refine ⟨fun i r hr => ?_, fun i r hr hb => ?_, fun i r hr hb => ?_, fun i j r s hr hs hb => ?_, Nat.le_refl _⟩
  · simp only [given] at hr ⊢; split at hr
    · assumption
    · cases hr
  · simp only [given] at hr ⊢; split at hr
    · rename_i hi
      cases hr
      refine ⟨hi, fun j v hv ho => ?_⟩
      unfold absRow at hv
      split at hv
      · simp only [List.getElem?_map, Option.map_eq_some_iff] at hv
        obtain ⟨j', hj', hv⟩ := hv
        have : j' = j := by
          rw [List.getElem?_range (by simpa using (List.getElem?_eq_some_iff.1 hj').1)] at hj'
          simpa using hj'.symm
        subst this
        split at hv
        · rename_i v' hc
          subst hv
          exact ⟨v', hc, absV_rel w v' ho⟩
        · subst hv; simp [undef, Value.oneCell'] at ho
      · simp at hv
    · cases hr
  · simp only [given] at hr; split at hr
    · cases hr; simp at hb
    · cases hr
  · simp only [given] at hr; split at hr
    · cases hr; simp at hb
    · cases hr

/-! ### What the statement's reading tells -/
section
variable {H : Type} {enc : TypeId × Value → H} {P : Program} {w : World} {base : Nat} {spare : Nat → Bool} {held : Bool}

end

theorem ok_slice_cell {P : Program} {W : World} {b0 : Nat} {t e : TypeId} {v : Value} (ht : P.underlying t = some (.slice e)) (h : Cell.okWide P W .any b0 t v) :
    v = .slice none 0 0 ∨ ∃ b o n c, v = .slice (some ⟨b, o, none⟩) n c ∧ b < W.heap.size ∧ n ≤ 9223372036854775807 := by
  have h2 : Cell.ok P W .any b0 t v := by
    unfold Cell.okWide at h
    rw [ht] at h
    exact h
  unfold Cell.ok at h2
  rw [ht] at h2
  split at h2 <;> simp_all
  rename_i a len cap _
  obtain ⟨h3, h4, _, hsp, row, cells, hsh, _⟩ := h2
  have hb : a.block < W.heap.size := by
    unfold World.shape? at hsh
    cases hg : W.heap[a.block]? with
    | none => rw [hg] at hsh; cases hsh
    | some o => exact (Array.getElem?_eq_some_iff.1 hg).1
  obtain ⟨b, o, sp⟩ := a
  simp only at hsp
  subst hsp
  exact ⟨b, o, len, ⟨rfl, rfl⟩, hb, by omega⟩

section
variable {H : Type} {enc : TypeId × Value → H} {P : Program} {w : World} {base : Nat} {spare : Nat → Bool} {held : Bool}

end

theorem law_end {P : Program} {f : FuncId} {args : List Value} {W : World} (hl : LV id W.heap.size W args args) (h : ACalls P f args (given W) (fun v _ => v = .bool true ∧ True)) :
    Calls P f args.toArray W fun e W' => e = .returned (.bool true) ∧ Below W.heap.size W W' := by
  refine (h.2 W.heap.size id W args (given_rel W) hl).mono ?_
  rintro e w' ⟨v', v, H', ρ', rfl, ⟨rfl, _⟩, R', hV, E⟩
  rw [hV.bool]
  exact ⟨rfl, E.bl⟩
end Go.Abs
end

section
set_option linter.unusedSimpArgs false
set_option linter.unusedVariables false
namespace Go.Abs
open Go Go.RowKit

def Rd2 (k : Nat) (H : AH) (v : Value) (ll : List (List Int)) : Prop :=
  (ll = [] ∧ ∃ a c, v = .slice a 0 c ∧ (a = none → c = 0)) ∨ ∃ i o u c r, v = .slice (some ⟨i, o, u⟩) ll.length c ∧ H.row i = some r ∧
    ∀ j, j < ll.length → ∃ x m, r.cells[o + j]? = some x ∧ Rd k H x m (ll.getD j [])

def Fr2 (k ty ty' lo hi : Nat) (H : AH) (v : Value) (ll : List (List Int)) : Prop :=
  (ll = [] ∧ v = .slice none 0 0) ∨ ∃ (i : Nat) (vs : List Value) (b : Nat → Nat), lo ≤ i ∧ i < hi ∧ v = .slice (some ⟨i, 0, some 1⟩) ll.length ll.length ∧ H.row i = some ⟨ty, true, vs⟩ ∧ vs.length = ll.length ∧
    lo ≤ b 0 ∧ b ll.length ≤ hi ∧ (i < b 0 ∨ b ll.length ≤ i) ∧ (∀ j, b j ≤ b (j + 1)) ∧ ∀ j, j < ll.length → ∃ x m, vs[j]? = some x ∧ Fr k ty' (b j) (b (j + 1)) H x m (ll.getD j [])

theorem mono_of_step {b : Nat → Nat} (h : ∀ j, b j ≤ b (j + 1)) {i j : Nat} (hij : i ≤ j) : b i ≤ b j := by
  induction hij with
  | refl => exact Nat.le_refl _
  | step _ ih => exact Nat.le_trans ih (h _)

theorem Fr2.rd {k ty ty' lo hi : Nat} {H : AH} {v : Value} {ll : List (List Int)} (h : Fr2 k ty ty' lo hi H v ll) : Rd2 k H v ll := by
  rcases h with ⟨h1, h2⟩ | ⟨i, vs, b, h1, h2, rfl, hr, hl, _, _, _, _, hj⟩
  · exact .inl ⟨h1, none, 0, h2, fun _ => rfl⟩
  · refine .inr ⟨i, 0, some 1, _, _, rfl, hr, fun j hjl => ?_⟩
    obtain ⟨x, m, hx, hf⟩ := hj j hjl
    exact ⟨x, m, by simpa using hx, hf.rd⟩

theorem Fr2.same {k ty ty' lo hi : Nat} {H H' : AH} {v : Value} {ll : List (List Int)} (h : Fr2 k ty ty' lo hi H v ll) (hs : ∀ i, lo ≤ i → i < hi → H'.row i = H.row i) : Fr2 k ty ty' lo hi H' v ll := by
  rcases h with h | ⟨i, vs, b, h1, h2, hv, hr, hl, h3, h4, h5, h6, hj⟩
  · exact .inl h
  · refine .inr ⟨i, vs, b, h1, h2, hv, by rw [hs i h1 h2]; exact hr, hl, h3, h4, h5, h6, fun j hjl => ?_⟩
    obtain ⟨x, m, hx, hf⟩ := hj j hjl
    have m1 := mono_of_step h6 (Nat.zero_le j)
    have m2 := mono_of_step h6 (show j + 1 ≤ ll.length from hjl)
    exact ⟨x, m, hx, hf.same fun y a1 a2 => hs y (by omega) (by omega)⟩

theorem Fr2.wide {k ty ty' lo hi lo' hi' : Nat} {H : AH} {v : Value} {ll : List (List Int)} (h : Fr2 k ty ty' lo hi H v ll) (a : lo' ≤ lo) (c : hi ≤ hi') : Fr2 k ty ty' lo' hi' H v ll := by
  rcases h with h | ⟨i, vs, b, h1, h2, hv, hr, hl, h3, h4, h5, h6, hj⟩
  · exact .inl h
  · exact .inr ⟨i, vs, b, by omega, by omega, hv, hr, hl, by omega, by omega, h5, h6, hj⟩

theorem Rd2.same {k : Nat} {H H' : AH} {v : Value} {ll : List (List Int)} (h : Rd2 k H v ll) (hs : ∀ i r, H.row i = some r → H'.row i = some r) : Rd2 k H' v ll := by
  rcases h with h | ⟨i, o, u, c, r, hv, hr, hj⟩
  · exact .inl h
  · refine .inr ⟨i, o, u, c, r, hv, hs _ _ hr, fun j hjl => ?_⟩
    obtain ⟨x, m, hx, hf⟩ := hj j hjl
    exact ⟨x, m, hx, hf.same hs⟩

theorem Rd2.len {k : Nat} {H : AH} {v : Value} {ll : List (List Int)} (h : Rd2 k H v ll) (H' : AH) : asSl v (.val (.int .i64 0) H') (fun _ _ _ n _ => .val (.int .i64 (n : Int)) H') = .val (.int .i64 (ll.length : Int)) H' := by
  rcases h with ⟨rfl, a, c, rfl, _⟩ | ⟨i, o, u, c, r, rfl, hr, h3⟩
  · cases a <;> rfl
  · rfl
theorem Rd2.one {k : Nat} {H : AH} {v : Value} {ll : List (List Int)} (h : Rd2 k H v ll) : v.oneCell' = true := by
  rcases h with ⟨_, a, c, rfl, _⟩ | ⟨i, o, u, c, r, rfl, _⟩ <;> rfl

theorem ok_one {r : Row} {v : Value} (h : v.oneCell' = true) : Row.ok r [v] := .inr fun u hu => by simp at hu; rw [hu]; exact h

theorem Rd2.get {k : Nat} {H : AH} {v : Value} {ll : List (List Int)} (h : Rd2 k H v ll) {j : Nat} (hj : j < ll.length) :
    ∃ i o u c r x m, v = .slice (some ⟨i, o, u⟩) ll.length c ∧ H.row i = some r ∧ r.cells[o + j]? = some x ∧ Rd k H x m (ll.getD j []) ∧ Row.ok r [x] := by
  rcases h with ⟨rfl, _⟩ | ⟨i, o, u, c, r, rfl, hr, h3⟩
  · simp at hj
  · obtain ⟨x, m, hx, hf⟩ := h3 j hj
    exact ⟨i, o, u, c, r, x, m, rfl, hr, hx, hf, ok_one hf.one⟩

theorem Rd.lenK1 {n : Nat} {H : AH} {v : Value} {l : List Int} (h : Rd 1 H v n l) : n = l.length := by rw [h.1]; omega
theorem Fr.lenK1 {ty lo hi n : Nat} {H : AH} {v : Value} {l : List Int} (h : Fr 1 ty lo hi H v n l) : n = l.length := by rw [h.1]; omega

def tot (ll : List (List Int)) : Nat := (ll.map List.length).sum
theorem getD_mem {ll : List (List Int)} {a : Nat} (ha : a < ll.length) : ll.getD a [] ∈ ll := by
  rw [List.getD_eq_getElem?_getD, List.getElem?_eq_getElem ha]; exact List.getElem_mem _

theorem appE_fr2 {P : Program} {E : TI} {k ty ty' lo hi m : Nat} {H : AH} {v x : Value} {ll : List (List Int)} {l : List Int} {K : Value → AH → Prop} (h : Fr2 k ty ty' lo hi H v ll) (hx : Fr k ty' hi H.next H x m l) (hE : E.size = 1) (hb : E.bytes ≤ 32768) (hn : ll.length + 1 ≤ 4294967296) (hlo : lo ≤ hi) (hhi : hi ≤ H.next)
    (hK : ∀ v' H', H'.next = H.next + 1 → (∀ i, ¬(lo ≤ i ∧ i < hi) → i < H.next → H'.row i = H.row i) → Fr2 k ty ty' lo (H.next + 1) H' v' (ll ++ [l]) → K v' H') :
    runOut P H (appE E ty v [x] 1 H) K := by
  unfold appE
  rw [if_neg (by omega)]
  refine Holds.mp ?_
  rcases h with ⟨rfl, rfl⟩ | ⟨i, vs, b, h1, h2, rfl, hr, hvl, g0, gn, gi, gm, hj⟩ <;> rw [holds_def]
  · simp only [asSl_nil, runOut_need, runOut_val, hE]
    refine ⟨⟨by omega, hb⟩, hK _ _ rfl (fun i _ hi => by rw [AH.push_row, if_neg (by omega)]) (.inr ⟨H.next, [x], fun j => if j = 0 then hi else H.next, by omega, by omega, rfl, by rw [AH.push_row, if_pos rfl], rfl, ?_, ?_, .inr ?_, fun j => ?_, fun j hj => ?_⟩)⟩
    · dsimp only; rw [if_pos rfl]; exact hlo
    · dsimp only [List.nil_append, List.length_singleton]; rw [if_neg (by omega)]; omega
    · dsimp only [List.nil_append, List.length_singleton]; rw [if_neg (by omega)]; omega
    · dsimp only; split
      · rw [if_neg (by omega)]; exact hhi
      · rw [if_neg (by omega)]; omega
    · simp only [List.nil_append, List.length_singleton] at hj
      have : j = 0 := by omega
      subst this
      refine ⟨x, m, rfl, ?_⟩
      dsimp only
      rw [if_pos rfl, if_neg (by omega)]
      exact hx.same fun z _ hz => by rw [AH.push_row, if_neg (by omega)]
  · simp only [asSl_some, hr, bindO_some, runOut_need, Nat.zero_add, hE, Nat.mul_one]
    refine ⟨⟨hn, hb, by omega, .inl rfl⟩, ?_⟩
    rw [if_neg (by omega)]
    simp only [runOut_need, runOut_val]
    refine ⟨by simp, hK _ _ rfl (fun j hj hj2 => ?_) (.inr ⟨H.next, vs ++ [x], fun j => if j < ll.length then b j else if j = ll.length then hi else H.next, by omega, by omega, ?_, ?_, ?_, ?_, ?_, .inr ?_, fun j => ?_, fun j hjl => ?_⟩)⟩
    · rw [AH.push_row, if_neg (by rw [AH.drop_next]; omega), AH.drop_row, if_neg (by omega)]
    · rw [List.length_append]; rfl
    · rw [AH.push_row, AH.drop_next, if_pos rfl, seg_all _ _ hvl.symm]
    · rw [List.length_append, List.length_append, hvl]; rfl
    · dsimp only
      split
      · exact g0
      · split
        · exact hlo
        · omega
    · rw [List.length_append, List.length_singleton]
      dsimp only
      rw [if_neg (by omega), if_neg (by omega)]; omega
    · rw [List.length_append, List.length_singleton]
      dsimp only
      rw [if_neg (by omega), if_neg (by omega)]; omega
    · dsimp only
      by_cases c1 : j + 1 < ll.length
      · rw [if_pos (by omega), if_pos c1]; exact gm j
      · by_cases c2 : j + 1 = ll.length
        · rw [if_pos (by omega), if_neg c1, if_pos c2]
          have := mono_of_step gm (show j ≤ ll.length by omega); omega
        · by_cases c3 : j = ll.length
          · rw [if_neg (by omega), if_pos c3, if_neg c1, if_neg c2]; exact hhi
          · rw [if_neg (by omega), if_neg c3, if_neg c1, if_neg c2]; omega
    · rw [List.length_append, List.length_singleton] at hjl
      have old : ∀ z, lo ≤ z → z < H.next → ¬ z = i → ((H.drop i).push ⟨ty, true, seg vs 0 ll.length ++ [x]⟩).row z = H.row z := fun z _ z2 z3 => by
        rw [AH.push_row, if_neg (by rw [AH.drop_next]; omega), AH.drop_row, if_neg z3]
      by_cases c : j < ll.length
      · obtain ⟨y, q, hy, hf⟩ := hj j c
        refine ⟨y, q, by rw [List.getElem?_append_left (by omega), hy], ?_⟩
        have e1 : (ll ++ [l]).getD j [] = ll.getD j [] := by simp [List.getD_eq_getElem?_getD, List.getElem?_append_left c]
        rw [e1]
        have c1 := mono_of_step gm (Nat.zero_le j)
        have c2 := mono_of_step gm (show j + 1 ≤ ll.length by omega)
        have f1 : Fr k ty' (b j) (b (j + 1)) ((H.drop i).push ⟨ty, true, seg vs 0 ll.length ++ [x]⟩) y q (ll.getD j []) := hf.same fun z z1 z2 => old z (by omega) (by omega) (by omega)
        dsimp only
        rw [if_pos c]
        by_cases c3 : j + 1 < ll.length
        · rw [if_pos c3]; exact f1
        · rw [if_neg c3, if_pos (by omega)]; exact f1.wide (Nat.le_refl _) (by omega)
      · have c4 : j = ll.length := by omega
        subst c4
        refine ⟨x, m, by rw [← hvl, List.getElem?_append_right (Nat.le_refl _)]; simp, ?_⟩
        have e1 : (ll ++ [l]).getD ll.length [] = l := by simp [List.getD_eq_getElem?_getD]
        rw [e1]
        dsimp only
        rw [if_neg (by omega), if_pos rfl, if_neg (by omega), if_neg (by omega)]
        exact hx.same fun z z1 z2 => old z (by omega) z2 (by omega)

end Go.Abs
end

section
set_option linter.unusedSimpArgs false
set_option linter.unusedVariables false
namespace Go.Abs
def pairsL (r : List Int) (k : Nat) : List (List Int) := ((List.range k).filter fun (a : Nat) => decide ((a : Int) < r.getD a 0)).map fun (a : Nat) => [(a : Int), r.getD a 0]
end Go.Abs
end

section
set_option linter.unusedSimpArgs false
set_option linter.unusedVariables false
namespace Go.Abs

def wonI (v : Int) : Int := if v = 1 then 2 else if v = 2 then 0 else 1
abbrev Ev := Nat × Int × Int × Int
def evPair (i : Nat) (p : List Int) (o : Int) : List Ev := [(i, p.getD 0 0, p.getD 1 0, o), (i, p.getD 1 0, p.getD 0 0, 2 - o)]
def evRound (n i : Nat) (r x : List Int) (k : Nat) : List Ev := (List.range k).flatMap fun j => evPair i ((pairsL r n).getD j []) (wonI (x.getD j 0))
def meets (n : Nat) (l : List Int) (ll : List (List Int)) (m : Nat) : List Ev := (List.range m).flatMap fun i => evRound n i (rnd l i) (ll.getD i []) (pairsL (rnd l i) n).length
end Go.Abs
end

section
set_option linter.unusedSimpArgs false
set_option linter.unusedVariables false
namespace Go.Abs

def zeroM (n : Nat) : List (List Int) := List.replicate n (List.replicate n 0)
def incR (row : List Int) (b : Int) : List Int := row.set b.toNat (IntKind.i64.wrap (row.getD b.toNat 0 + 1))
theorem incR_length (row : List Int) (b : Int) : (incR row b).length = row.length := by simp [incR]
def incM (M : List (List Int)) (a b : Int) : List (List Int) := M.set a.toNat (incR (M.getD a.toNat []) b)
def SqM (n : Nat) (M : List (List Int)) : Prop := M.length = n ∧ ∀ j, j < n → (M.getD j []).length = n
theorem SqM.mem {n : Nat} {M : List (List Int)} (h : SqM n M) : ∀ y ∈ M, y.length = n := by
  intro y hy
  obtain ⟨j, hj, rfl⟩ := List.mem_iff_getElem.1 hy
  have := h.2 j (by rw [← h.1]; exact hj)
  rw [List.getD_eq_getElem?_getD, List.getElem?_eq_getElem hj] at this
  exact this
theorem SqM.tot {n : Nat} {M : List (List Int)} (h : SqM n M) : Abs.tot M = n * n := by
  have h1 := h.1
  have h2 := h.mem
  clear h
  have : ∀ (M : List (List Int)), (∀ y ∈ M, y.length = n) → Abs.tot M = M.length * n := by
    intro M
    induction M with
    | nil => intro _; simp [Abs.tot]
    | cons x M ih =>
      intro h
      have e : Abs.tot (x :: M) = x.length + Abs.tot M := by simp [Abs.tot]
      rw [e, ih fun y hy => h y (List.mem_cons_of_mem _ hy), h x List.mem_cons_self, List.length_cons, Nat.succ_mul, Nat.add_comm]
  rw [this M h2, h1]

/-! How often teams meet. -/
/-! The carry over matrix. -/
/-! Cost and balance. -/
end Go.Abs
end

section
set_option linter.unusedSimpArgs false
set_option linter.unusedVariables false
namespace Go.Abs
open Go Go.RowKit

theorem given_cell {w : World} {b j : Nat} {u : Value} (h : w.cell? ⟨b, j, none⟩ = some u) : b < w.heap.size ∧ (given w).row b = some ⟨0, false, absRow w b⟩ ∧ (absRow w b)[j]? = some (absV w.heap.size u) := by
  have h1 := h
  unfold World.cell? at h1
  split at h1
  · rename_i cs t fr he
    have hb : b < w.heap.size := (Array.getElem?_eq_some_iff.1 he).1
    have hk : bsz w b = some cs.size := by simp [bsz, he]
    have h2 : cs[j]? = some u := by simpa using h1
    have h3 : j < cs.size := (Array.getElem?_eq_some_iff.1 h2).1
    refine ⟨hb, by simp [given, hb], ?_⟩
    simp only [absRow, hk, List.getElem?_map]
    rw [List.getElem?_range h3]
    simp only [Option.map_some, h]
  · cases h1

section
variable {H : Type} {enc : TypeId × Value → H} {P : Program} {w : World} {base : Nat} {spare : Nat → Bool} {held : Bool}

end

end Go.Abs
end

section
set_option linter.unusedSimpArgs false
set_option linter.unusedVariables false
namespace Go.Abs
open Go Go.RowKit

inductive OT
  | nil
  | one (i : Nat) (r : OT)
  | two (i j : Nat) (ri rj : OT)
  | three (i j k : Nat) (ri rj rk : OT)

def OT.depth : OT → Nat
  | .nil => 0
  | .one _ r => r.depth + 1
  | .two _ _ a b => max a.depth b.depth + 1
  | .three _ _ _ a b c => max a.depth (max b.depth c.depth) + 1

def OT.run : List Nat → OT → OT
  | [], r => r
  | i :: is, r => .one i (OT.run is r)

def okOT (ops : Array Oper) : OT → Array Bool → Bool
  | .nil, listed => (Region.ready .any ops listed).isEmpty
  | .one i r, listed =>
    (match ops[i]? with
     | some o => if quietOp o.op = true then (Region.ready .any ops listed).contains i && Region.free .any ops listed i else Region.ready .any ops listed == [i]
     | none => false) && okOT ops r (listed.setIfInBounds i true)
  | .two i j a b, listed => Region.ready .any ops listed == [i, j] && okOT ops a (listed.setIfInBounds i true) && okOT ops b (listed.setIfInBounds j true)
  | .three i j k a b c, listed => Region.ready .any ops listed == [i, j, k] && okOT ops a (listed.setIfInBounds i true) && okOT ops b (listed.setIfInBounds j true) && okOT ops c (listed.setIfInBounds k true)

def awpT (P : Program) (ops : Array Oper) (Q : T → AH → Prop) : (o : OT) → T → AH → (fun _ => Prop) (ops, Q, o)
  | .nil, t, H => Q t H
  | .one i r, t, H => stepI P ops (awpT P ops Q r) i (ops.toList[i]?) t H
  | .two i j a b, t, H => stepI P ops (awpT P ops Q a) i (ops.toList[i]?) t H ∧ stepI P ops (awpT P ops Q b) j (ops.toList[j]?) t H
  | .three i j k a b c, t, H => stepI P ops (awpT P ops Q a) i (ops.toList[i]?) t H ∧ stepI P ops (awpT P ops Q b) j (ops.toList[j]?) t H ∧ stepI P ops (awpT P ops Q c) k (ops.toList[k]?) t H

theorem stepI_a {P : Program} {ops : Array Oper} {K : T → AH → Prop} {i : Nat} {t : T} {H : AH} (h : stepI P ops K i (ops.toList[i]?) t H) :
    aStep P ops.toList i t H fun t' H' => ((∃ o, ops.toList[i]? = some o ∧ quietOp o.op = true) ∨ sinkB ops i = true ∨ LE H H') ∧ K t' H' := by
  unfold aStep
  cases e : ops.toList[i]? with
  | none => rw [e] at h; exact h.elim
  | some o =>
    rw [e] at h
    unfold stepI at h
    simp only
    cases hg : o.guard with
    | none => simp only [hg] at h ⊢; exact runOut_mono (fun v H' k => ⟨k.1.imp (fun q => ⟨o, rfl, q⟩) id, k.2⟩) _ h
    | some g => simp only [hg] at h ⊢; exact condW_mono h (runOut_mono (fun v H' k => ⟨k.1.imp (fun q => ⟨o, rfl, q⟩) id, k.2⟩) _) (fun k => ⟨.inr (.inr (LE.refl H)), k⟩)

theorem stepI_s {P : Program} {ops : Array Oper} {K : T → AH → Prop} {i : Nat} {t : T} {H : AH} (h : stepI P ops K i (ops.toList[i]?) t H) :
    aStep P ops.toList i t H fun t' H' => (sinkB ops i = true ∨ LE H H') ∧ K t' H' := by
  cases e : ops.toList[i]? with
  | none => rw [e] at h; exact h.elim
  | some o =>
    by_cases hq : quietOp o.op = true
    · have ho : ops[i]? = some o := by simpa using e
      obtain ⟨v, hy, hk⟩ := aStep_quiet ho hq (stepI_a h)
      exact hy.step ho hq ⟨.inr (LE.refl _), hk.2⟩
    · refine aStep_mono (stepI_a h) fun t' H' hk => ⟨?_, hk.2⟩
      rcases hk.1 with ⟨o', e', q'⟩ | k
      · rw [e] at e'; cases e'; exact absurd q' hq
      · exact k

theorem AAny_tree {P : Program} {ops : Array Oper} {Q : T → AH → Prop} : ∀ (ot : OT) (listed : Array Bool) (t : T) (H : AH) (f : Nat), ot.depth ≤ f → Closed ops listed → okOT ops ot listed = true → awpT P ops Q ot t H → AAny P ops Q f listed t H
  | .nil, listed, t, H, f, _, _, hok, h => by
    have hr : Region.ready .any ops listed = [] := by simpa [okOT] using hok
    cases f with
    | zero => exact ⟨hr, h⟩
    | succ f => exact ⟨fun _ => h, by rw [hr]; simp⟩
  | .one i r, listed, t, H, 0, hl, _, _, _ => by simp [OT.depth] at hl
  | .two i j a b, listed, t, H, 0, hl, _, _, _ => by simp [OT.depth] at hl
  | .three i j k a b c, listed, t, H, 0, hl, _, _, _ => by simp [OT.depth] at hl
  | .one i r, listed, t, H, f + 1, hl, hc, hok, h => by
    simp only [okOT, Bool.and_eq_true] at hok
    simp only [OT.depth] at hl
    obtain ⟨h1, h2⟩ := hok
    unfold awpT at h
    cases ho : ops[i]? with
    | none => simp [ho] at h1
    | some o =>
      simp only [ho] at h1
      split at h1
      · rename_i hq
        simp only [Bool.and_eq_true] at h1
        obtain ⟨hr, hfr⟩ := h1
        have hr' : i ∈ Region.ready .any ops listed := by simpa using hr
        obtain ⟨v, hy, hk⟩ := aStep_quiet ho hq (stepI_s h)
        exact AAny_first ho hq f listed t H hc (Region.free_spec ho hfr) hr' hy (AAny_tree r _ _ H f (by omega) (hc.set hr') h2 hk.2)
      · have hr : Region.ready .any ops listed = [i] := by simpa using h1
        refine ⟨fun h0 => (by rw [hr] at h0; cases h0), fun j hj => ?_⟩
        have hji : j = i := by rw [hr] at hj; simpa using hj
        subst hji
        exact aStep_mono (stepI_s h) fun t' H' hk => ⟨hk.1, AAny_tree r _ t' H' f (by omega) (hc.set hj) h2 hk.2⟩
  | .two i j a b, listed, t, H, f + 1, hl, hc, hok, h => by
    simp only [okOT, Bool.and_eq_true] at hok
    simp only [OT.depth] at hl
    obtain ⟨⟨h1, h2⟩, h3⟩ := hok
    unfold awpT at h
    have hr : Region.ready .any ops listed = [i, j] := by simpa using h1
    refine ⟨fun h0 => (by rw [hr] at h0; cases h0), fun x hx => ?_⟩
    have hx2 : x = i ∨ x = j := by rw [hr] at hx; simpa using hx
    rcases hx2 with rfl | rfl
    · exact aStep_mono (stepI_s h.1) fun t' H' hk => ⟨hk.1, AAny_tree a _ t' H' f (by omega) (hc.set hx) h2 hk.2⟩
    · exact aStep_mono (stepI_s h.2) fun t' H' hk => ⟨hk.1, AAny_tree b _ t' H' f (by omega) (hc.set hx) h3 hk.2⟩
  | .three i j k a b c, listed, t, H, f + 1, hl, hc, hok, h => by
    simp only [okOT, Bool.and_eq_true] at hok
    simp only [OT.depth] at hl
    obtain ⟨⟨⟨h1, h2⟩, h3⟩, h4⟩ := hok
    unfold awpT at h
    have hr : Region.ready .any ops listed = [i, j, k] := by simpa using h1
    refine ⟨fun h0 => (by rw [hr] at h0; cases h0), fun x hx => ?_⟩
    have hx2 : x = i ∨ x = j ∨ x = k := by rw [hr] at hx; simpa using hx
    rcases hx2 with rfl | rfl | rfl
    · exact aStep_mono (stepI_s h.1) fun t' H' hk => ⟨hk.1, AAny_tree a _ t' H' f (by omega) (hc.set hx) h2 hk.2⟩
    · exact aStep_mono (stepI_s h.2.1) fun t' H' hk => ⟨hk.1, AAny_tree b _ t' H' f (by omega) (hc.set hx) h3 hk.2⟩
    · exact aStep_mono (stepI_s h.2.2) fun t' H' hk => ⟨hk.1, AAny_tree c _ t' H' f (by omega) (hc.set hx) h4 hk.2⟩

theorem draw_tree {P : Program} {id : Nat} {ops : Array Oper} {Q : Exit → T → AH → Prop} {t : T} {H : AH} (ot : OT) (hm : P.follows .mixedOrders = true) (hok : okOT ops ot (Array.replicate ops.size false) = true) (hl : ot.depth ≤ ops.size)
    (h : awpT P ops (Q .normal) ot t H) : awp P (.region id ops true) Q t H := by
  intro base ρ w tmps QC hS hd hQ
  have hA := AAny_tree ot _ t H ops.size hl ⟨by simp, fun j oj hj hl => by rw [getD_replicate_false'] at hl; cases hl⟩ hok h
  refine wp_region_any hm (AAny_ok ops.size _ t H ρ w.drew tmps hA ⟨hS.1.drew, hS.2.ext (ext_drew (base := base) (H := H) w)⟩ ?_ fun t' H' ρ' w' tmps' hq hs he hz => ?_)
  · intro o ho i hi
    have := List.all_eq_true.1 hd o ho
    simp only [hi, decide_eq_true_eq] at this
    exact this
  · exact hQ .normal t' H' ρ' w' tmps' hq hs ((ext_drew (base := base) (H := H) (ρ := ρ) w).trans he) hz

theorem awpT_nil (P : Program) (ops : Array Oper) (Q : T → AH → Prop) (t : T) (H : AH) : awpT P ops Q .nil t H = Q t H := (rfl)
theorem awpT_one (P : Program) (ops : Array Oper) (Q : T → AH → Prop) (i : Nat) (r : OT) (t : T) (H : AH) : awpT P ops Q (.one i r) t H = stepI P ops (awpT P ops Q r) i (ops.toList[i]?) t H := (rfl)
theorem awpT_run_nil (P : Program) (ops : Array Oper) (Q : T → AH → Prop) (r : OT) (t : T) (H : AH) : awpT P ops Q (OT.run [] r) t H = awpT P ops Q r t H := (rfl)
theorem awpT_run_cons (P : Program) (ops : Array Oper) (Q : T → AH → Prop) (i : Nat) (is : List Nat) (r : OT) (t : T) (H : AH) : awpT P ops Q (OT.run (i :: is) r) t H = stepI P ops (awpT P ops Q (OT.run is r)) i (ops.toList[i]?) t H := (rfl)
theorem awpT_two {P : Program} {ops : Array Oper} {Q : T → AH → Prop} {i j : Nat} {a b : OT} {t : T} {H : AH} (h1 : stepI P ops (awpT P ops Q a) i (ops.toList[i]?) t H) (h2 : stepI P ops (awpT P ops Q b) j (ops.toList[j]?) t H) : awpT P ops Q (.two i j a b) t H := ⟨h1, h2⟩
@[congr] theorem awpT_congr {P : Program} {ops : Array Oper} {o : OT} {Q : T → AH → Prop} {t t' : T} {H H' : AH} (h : t = t') (k : H = H') : awpT P ops Q o t H = awpT P ops Q o t' H' := by rw [h, k]

theorem asCells_one {v : Value} (h : v.oneCell' = true) (f : List Value → Out) : asCells v f = f [v] := by
  cases v <;> first | rfl | (simp [Value.oneCell'] at h)

theorem awp_cutQ {P : Program} {a : Code} {Q : Exit → T → AH → Prop} {N : T → AH → Prop} {t : T} {H : AH} (M : T → AH → Prop) (h : awp P a (seqQ M Q) t H) (k : ∀ t H, M t H → N t H) : awp P a (seqQ N Q) t H :=
  awp_mono a _ _ t H (seqQ_mono k fun _ _ _ h => h) h

def Sc (H : AH) : Prop := ∀ i r, H.row i = some r → i < H.next
theorem Sc.push {H : AH} (h : Sc H) (r : Row) : Sc (H.push r) := by
  intro i x hx
  rw [AH.push_row] at hx
  rw [AH.push_next]
  split at hx
  · omega
  · have := h i x hx; omega
theorem Sc.le {H : AH} (h : Sc H) (r : Row) : LE H (H.push r) := ⟨Nat.le_succ _, fun i x hx => by rw [AH.push_row, if_neg (by have := h i x hx; omega)]; exact hx⟩
theorem ACalls.sc {P : Program} {f : FuncId} {args : List Value} {H : AH} {R : Value → AH → Prop} (h : ACalls P f args H R) : ACalls P f args H (fun v H' => R v H' ∧ Sc H') := by
  refine ⟨h.1, fun base ρ w args' hR hL => (h.2 base ρ w args' hR hL).mono ?_⟩
  rintro e w' ⟨v', v, H', ρ', rfl, hv, R', r⟩
  exact ⟨v', v, H', ρ', rfl, ⟨hv, R'.scope⟩, R', r⟩
end Go.Abs
end

section
set_option linter.unusedSimpArgs false
set_option linter.unusedVariables false
namespace Go.Abs
open Go Go.RowKit

theorem Fr2.setF {ty ty' lo hi : Nat} {H : AH} {v : Value} {ll : List (List Int)} (h : Fr2 1 ty ty' lo hi H v ll) {j : Nat} (hj : j < ll.length) (hne : 0 < (ll.getD j []).length) :
    ∃ i vs i6, v = .slice (some ⟨i, 0, some 1⟩) ll.length ll.length ∧ lo ≤ i ∧ i < hi ∧ H.row i = some ⟨ty, true, vs⟩ ∧ vs[j]? = some (.slice (some ⟨i6, 0, some 1⟩) (ll.getD j []).length (ll.getD j []).length) ∧ lo ≤ i6 ∧ i6 < hi ∧ ¬ i = i6 ∧ H.row i6 = some ⟨ty', true, ints (ll.getD j [])⟩ ∧
      ∀ l' : List Int, l'.length = (ll.getD j []).length → Fr2 1 ty ty' lo hi (H.setCells i6 (ints l')) v (ll.set j l') := by
  rcases h with ⟨rfl, _⟩ | ⟨i, vs, b, h1, h2, rfl, hr, hl, g0, gn, gi, gm, hh⟩
  · simp at hj
  · obtain ⟨x, m, hx, hf⟩ := hh j hj
    have hm := hf.lenK1
    have m1 := mono_of_step gm (Nat.zero_le j)
    have m2 := mono_of_step gm (show j + 1 ≤ ll.length from hj)
    obtain ⟨i6, k1, k2, rfl, k3⟩ := hf.get (by omega)
    rw [hm] at hx
    refine ⟨i, vs, i6, rfl, h1, h2, hr, hx, by omega, by omega, by omega, k3, fun l' hl' => ?_⟩
    refine .inr ⟨i, vs, b, h1, h2, by rw [List.length_set], by rw [AH.setCells_row, if_neg (by omega)]; exact hr, by rw [List.length_set]; exact hl, g0, by rw [List.length_set]; exact gn, by rw [List.length_set]; exact gi, gm, fun j' hj' => ?_⟩
    rw [List.length_set] at hj'
    by_cases e : j' = j
    · subst e
      refine ⟨_, (ll.getD j' []).length, hx, ?_⟩
      have e1 : (ll.set j' l').getD j' [] = l' := by rw [List.getD_eq_getElem?_getD, List.getElem?_set_self hj]; rfl
      rw [e1]
      exact ⟨by omega, .inr ⟨i6, k1, k2, rfl, by rw [AH.setCells_row, if_pos rfl, k3]; rfl⟩⟩
    · obtain ⟨x', m', hx', hf'⟩ := hh j' hj'
      have e1 : (ll.set j l').getD j' [] = ll.getD j' [] := by rw [List.getD_eq_getElem?_getD, List.getElem?_set_ne (by omega), ← List.getD_eq_getElem?_getD]
      refine ⟨x', m', hx', ?_⟩
      rw [e1]
      refine hf'.same fun z z1 z2 => ?_
      rw [AH.setCells_row, if_neg]
      rcases Nat.lt_or_gt_of_ne e with hlt | hgt
      · have := mono_of_step gm (show j' + 1 ≤ j from hlt); omega
      · have := mono_of_step gm (show j + 1 ≤ j' from hgt); omega

theorem Sc.set {H : AH} (h : Sc H) (i : Nat) (cs : List Value) : Sc (H.setCells i cs) := by
  intro j x hx
  rw [AH.setCells_row] at hx
  rw [AH.setCells_next]
  split at hx
  · rename_i e
    subst e
    cases hr : H.row j with
    | none => rw [hr] at hx; cases hx
    | some r => exact h j r hr
  · exact h j x hx
end Go.Abs
end

section
set_option linter.unusedSimpArgs false
set_option linter.unusedVariables false
set_option maxRecDepth 100000
set_option maxHeartbeats 2000000
namespace Go.Proofs.Ytgkmdfjjlghecaa.A
open Go Go.Abs Go.RowKit

theorem zeros_int0 (n : Nat) : zeros n [.int .i64 0] = ints (List.replicate n 0) := by
  have h := zeros_ints n 1
  rw [Nat.mul_one] at h; exact h
theorem replicate_snoc {α : Type} (n : Nat) (a : α) : List.replicate (n + 1) a = List.replicate n a ++ [a] := by
  rw [List.replicate_succ']

theorem square_c (n : Nat) (hn : n ≤ 1024) (H : AH) : ACalls Try.prog 100 [.int .i64 n] H (fun v H' => Up H.next H H' ∧ Fr2 1 38 2 H.next H'.next H' v (zeroM n)) := by
  refine acalls_of_awp [.tmp 2] Try.func100 (by kernel_rfl) rfl rfl (Nat.le_of_ble_eq_true rfl) (by kernel_rfl) ?_
  try simp (disch := first | omega | (simp only [ints_length, List.length_replicate, List.length_set] <;> omega)) only [Sall,evalOp,init,binE,binI,unE,convE,okNil,builtE,gv,TD.isAgg,resV,↓reduceIte,Nat.reduceEqDiff,reduceCtorEq,Nat.reduceAdd,Nat.reduceMul,Nat.reduceLeDiff,quietOp,blindOp,Int.reduceEq,Int.reduceLT,Int.reduceLE,Nat.reduceLT,tiA, zeros_zero]
  refine awp_loop (fun m t H' => ∃ (a : Nat) (u : Value) (lo hi : Nat), m = n - a ∧ a ≤ n ∧ t 6 = .int .i64 a ∧ t 5 = .int .i64 n ∧ t 0 = .int .i64 n ∧ t 3 = u ∧ Up H.next H H' ∧ H.next ≤ lo ∧ lo ≤ hi ∧ hi ≤ H'.next ∧ Fr2 1 38 2 lo hi H' u (List.replicate a (List.replicate n 0))) n ?_ ?_
  · refine ⟨0, .slice (some ⟨H.next, 0, some 1⟩) 0 0, H.next, H.next + 1, by omega, by omega, ?_⟩
    try simp (disch := first | omega | (simp only [ints_length, List.length_replicate, List.length_set] <;> omega)) only [Sall,evalOp,init,binE,binI,unE,convE,okNil,builtE,gv,TD.isAgg,resV,↓reduceIte,Nat.reduceEqDiff,reduceCtorEq,Nat.reduceAdd,Nat.reduceMul,Nat.reduceLeDiff,quietOp,blindOp,Int.reduceEq,Int.reduceLT,Int.reduceLE,Nat.reduceLT,tiA, Int.natCast_zero]
    refine ⟨(Up.refl _ H).push (by omega) _, ?_⟩
    (repeat refine And.intro (by omega) ?_)
    exact .inr ⟨H.next, [], fun _ => H.next + 1, by omega, by omega, rfl, by rw [AH.push_row, if_pos rfl], rfl, by dsimp only; omega, by dsimp only; omega, .inl (by dsimp only; omega), fun _ => Nat.le_refl _, fun j hj => by simp at hj⟩
  · rintro m t H' ⟨a, u, lo, hi, hm, h14, h6, h5, h0, h3, hup, hlo, hlh, hhi, hfr⟩
    try simp (disch := first | omega | (simp only [ints_length, List.length_replicate, List.length_set] <;> omega)) only [Sall,evalOp,init,binE,binI,unE,convE,okNil,builtE,gv,TD.isAgg,resV,↓reduceIte,Nat.reduceEqDiff,reduceCtorEq,Nat.reduceAdd,Nat.reduceMul,Nat.reduceLeDiff,quietOp,blindOp,Int.reduceEq,Int.reduceLT,Int.reduceLE,Nat.reduceLT,tiA, h6, h5]
    refine condC_dec (fun h => ?_) (fun h => ?_)
    · have zz : zeros 1 [.slice none 0 0] = [.slice none 0 0] := rfl
      have ne1 : ¬ H'.next = H'.next + 1 := by omega
      try simp (disch := first | omega | (simp only [ints_length, List.length_replicate, List.length_set] <;> omega)) only [Sall,evalOp,init,binE,binI,unE,convE,okNil,builtE,gv,TD.isAgg,resV,↓reduceIte,Nat.reduceEqDiff,reduceCtorEq,Nat.reduceAdd,Nat.reduceMul,Nat.reduceLeDiff,quietOp,blindOp,Int.reduceEq,Int.reduceLT,Int.reduceLE,Nat.reduceLT,tiA, h6, h5, h3, h0, zeros_int0, zz, slCells]
      (repeat refine And.intro (by omega) ?_)
      obtain ⟨H2, e2⟩ : ∃ H2, H2 = (H'.push ⟨2, true, ints (List.replicate n 0)⟩).push ⟨38, true, [.slice (some ⟨H'.next, 0, some 1⟩) n n]⟩ := ⟨_, rfl⟩
      have n2 : H2.next = H'.next + 2 := by rw [e2]; rfl
      have s2 : ∀ i, i < H'.next → H2.row i = H'.row i := fun i hi => by rw [e2, AH.push_row, if_neg (by rw [AH.push_next]; omega), AH.push_row, if_neg (by omega)]
      have x2 : H2.row H'.next = some ⟨2, true, ints (List.replicate n 0)⟩ := by rw [e2, AH.push_row, if_neg (by rw [AH.push_next]; omega), AH.push_row, if_pos rfl]
      rw [← e2]
      clear e2
      refine appE_fr2 (hfr.same fun i _ hi => s2 i (by omega)) (m := n) (l := List.replicate n 0) ⟨by simp, .inr ⟨H'.next, by omega, by omega, rfl, x2⟩⟩ rfl (by decide) (by rw [List.length_replicate]; omega) hlh (by omega) ?_
      intro v' H3 n3 s3 f3
      try simp (disch := first | omega | (simp only [ints_length, List.length_replicate, List.length_set] <;> omega)) only [Sall,evalOp,init,binE,binI,unE,convE,okNil,builtE,gv,TD.isAgg,resV,↓reduceIte,Nat.reduceEqDiff,reduceCtorEq,Nat.reduceAdd,Nat.reduceMul,Nat.reduceLeDiff,quietOp,blindOp,Int.reduceEq,Int.reduceLT,Int.reduceLE,Nat.reduceLT,tiA, h6, h5, h0, w64]
      refine ⟨n - (a + 1), by omega, a + 1, v', lo, H2.next + 1, rfl, by omega, rfl, rfl, ⟨by have := hup.next; omega, fun i hi => ?_⟩, by omega, by omega, by omega, ?_⟩
      · rw [s3 i (by have := hup.next; omega) (by have := hup.next; omega), s2 i (by have := hup.next; omega), hup.row i hi]
      · rw [replicate_snoc]; exact f3
    · have ha : a = n := by omega
      subst ha
      try simp (disch := first | omega | (simp only [ints_length, List.length_replicate, List.length_set] <;> omega)) only [Sall,evalOp,init,binE,binI,unE,convE,okNil,builtE,gv,TD.isAgg,resV,↓reduceIte,Nat.reduceEqDiff,reduceCtorEq,Nat.reduceAdd,Nat.reduceMul,Nat.reduceLeDiff,quietOp,blindOp,Int.reduceEq,Int.reduceLT,Int.reduceLE,Nat.reduceLT,tiA, h3]
      exact ⟨hup, hfr.wide hlo hhi⟩

end Go.Proofs.Ytgkmdfjjlghecaa.A
end

section
set_option linter.unusedSimpArgs false
set_option linter.unusedVariables false
set_option maxRecDepth 100000
set_option maxHeartbeats 2000000
namespace Go.Proofs.Ytgkmdfjjlghecaa.A
open Go Go.Abs Go.RowKit

end Go.Proofs.Ytgkmdfjjlghecaa.A
end

section
set_option linter.unusedSimpArgs false
set_option linter.unusedVariables false
set_option maxRecDepth 100000
set_option maxHeartbeats 2000000
namespace Go.Proofs.Ytgkmdfjjlghecaa.A
open Go Go.Abs Go.RowKit

end Go.Proofs.Ytgkmdfjjlghecaa.A
end

section
set_option linter.unusedSimpArgs false
set_option linter.unusedVariables false
set_option maxRecDepth 100000
set_option maxHeartbeats 2000000
namespace Go.Proofs.Ytgkmdfjjlghecaa.A
open Go Go.Abs Go.RowKit

end Go.Proofs.Ytgkmdfjjlghecaa.A
end

section
set_option linter.unusedSimpArgs false
set_option linter.unusedVariables false
namespace Go.Abs

def oddUp (n : Nat) : Nat := n - 1 + n % 2
def cb (m r x : Nat) : Int := Int.tmod (2 * (r : Int) - (x : Int) + (m : Int)) (m : Int)
def cmid (n r k : Nat) : List Int := (List.range 14).map fun x => if x < oddUp n then (if x < k ∨ cb (oddUp n) r x < k then cb (oddUp n) r x else x) else if x < n then x else 0
def cset (n r k : Nat) : List Int := (List.range 14).map fun x => if x < oddUp n then (if x < k then cb (oddUp n) r x else x) else if x < n then x else 0
def cround (n r : Nat) : List Int := if n % 2 = 0 then ((cmid n r (oddUp n)).set (n - 1) r).set r ((n : Int) - 1) else cmid n r (oddUp n)

theorem cmid_length (n r k : Nat) : (cmid n r k).length = 14 := by simp [cmid]
theorem cset_length (n r k : Nat) : (cset n r k).length = 14 := by simp [cset]
theorem cround_length (n r : Nat) : (cround n r).length = 14 := by unfold cround; split <;> simp [cmid_length]

end Go.Abs
end

section
set_option linter.unusedSimpArgs false
set_option linter.unusedVariables false
set_option maxRecDepth 100000
namespace Go.Proofs.Ytgkmdfjjlghecaa.A
open Go Go.Abs Go.RowKit

def freeL (n : Int) : List Int := (List.range 14).map fun (a : Nat) => if (a : Int) < n then (a : Int) else 0
theorem freeL_length (n : Int) : (freeL n).length = 14 := by simp [freeL]
end Go.Proofs.Ytgkmdfjjlghecaa.A
end

section
set_option linter.unusedSimpArgs false
set_option linter.unusedVariables false
set_option maxRecDepth 100000
namespace Go.Proofs.Ytgkmdfjjlghecaa.A
open Go Go.Abs Go.RowKit

end Go.Proofs.Ytgkmdfjjlghecaa.A
end

section
set_option linter.unusedSimpArgs false
set_option linter.unusedVariables false
set_option maxRecDepth 100000
namespace Go.Proofs.Ytgkmdfjjlghecaa.A
open Go Go.Abs Go.RowKit

end Go.Proofs.Ytgkmdfjjlghecaa.A
end

section
set_option linter.unusedSimpArgs false
set_option linter.unusedVariables false
set_option maxRecDepth 100000
namespace Go.Proofs.Ytgkmdfjjlghecaa.A
open Go Go.Abs Go.RowKit

end Go.Proofs.Ytgkmdfjjlghecaa.A
end

section
set_option linter.unusedSimpArgs false
set_option linter.unusedVariables false
set_option maxRecDepth 100000
namespace Go.Proofs.Ytgkmdfjjlghecaa.A
open Go Go.Abs Go.RowKit

end Go.Proofs.Ytgkmdfjjlghecaa.A
end

section
set_option linter.unusedSimpArgs false
set_option linter.unusedVariables false
set_option maxRecDepth 100000
namespace Go.Proofs.Ytgkmdfjjlghecaa.A
open Go Go.Abs Go.RowKit

end Go.Proofs.Ytgkmdfjjlghecaa.A
end

section
set_option linter.unusedSimpArgs false
set_option linter.unusedVariables false
namespace Go.Proofs.Ytgkmdfjjlghecaa.A
open Go Go.RowKit Go.Shelf

attribute [local go_sem] Oper.semAt_some

def upto (f : Nat → Int) (k : Nat) : List Int := (List.range k).map f
theorem upto_succ (f : Nat → Int) (k : Nat) : upto f (k + 1) = upto f k ++ [f k] := by simp [upto, List.range_succ]
theorem upto_length (f : Nat → Int) (k : Nat) : (upto f k).length = k := by simp [upto]
theorem upto_all (zs : List Int) : upto (fun j => zs[j]?.getD 0) zs.length = zs := by
  apply List.ext_getElem
  · simp [upto]
  · intro i h1 h2
    simp [upto, h2]
theorem upto_take (zs : List Int) {k : Nat} (hk : k ≤ zs.length) : upto (fun j => zs[j]?.getD 0) k = zs.take k := by
  apply List.ext_getElem
  · simp [upto, hk]
  · intro i h1 h2
    have : i < zs.length := by simp [upto] at h1; omega
    simp [upto, this]

set_option maxRecDepth 100000 in
set_option maxHeartbeats 2000000 in
theorem values1_in (F : Fence) (n : Nat) (h7 : F.fn 210) (hro : F.round = none) (hn : 1 ≤ n) (l Bs n₀ b off len cap : Nat) (zs : List Int) (hreach : len * 8 ≤ 140737488351232) (hb : b < n₀) (J Jx : List Int → World → Prop)
    (hY : ∀ pre x W, J pre W → pre.length < len → YieldAt F (n - 1) Try.prog l #[.int .i64 x] W fun e W' =>
      (e = .returned (.bool true) ∧ J (pre ++ [x]) W' ∧ Below n₀ W W') ∨ (e = .returned (.bool false) ∧ Jx (pre ++ [x]) W'))
    (W : World) (hBs : W.cell? ⟨Bs, 0, none⟩ = some (.slice (some ⟨b, off, none⟩) len cap)) (hc : ∀ j, j < len → W.cell? ⟨b, off + j, none⟩ = some (.int .i64 (zs[j]?.getD 0))) (h0 : J [] W) :
    CallsIn F n Try.prog 210 #[.func (.yield l) #[] #[], .pointer (some ⟨Bs, 0, none⟩)] W fun e W' => (∃ v, e = .returned v) ∧
      ((∃ ys, ys = upto (fun j => zs[j]?.getD 0) len ∧ J ys W') ∨ (∃ pre, (∃ k, k ≤ len ∧ pre = upto (fun j => zs[j]?.getD 0) k) ∧ Jx pre W')) := by
  refine callsIn_of_wp Try.func210 rfl h7 ?_ hro
  simp only [Try.ntmps210, List.size_toArray, List.length_cons, List.length_nil, Nat.reduceAdd, Nat.reduceSub, Array.replicate_succ, Array.replicate_zero, List.push_toArray, List.append_toArray, List.nil_append, List.cons_append]
  gi_wp2
  gi_loopw [7] (fun i wr => ∃ k : Nat, k ≤ len ∧ i = .int .i64 k ∧ J (upto (fun j => zs[j]?.getD 0) k) wr ∧ Below n₀ W wr)
    (fun i _ => len - (intOf i).toNat)
  case atStart => exact ⟨0, Nat.zero_le _, rfl, h0, Below.refl _ _⟩
  case round =>
    obtain ⟨k, hk, rfl, hJs, hnx⟩ := hrel
    have hcx : k < len → wr.cell? ⟨b, off + k, none⟩ = some (.int .i64 (zs[k]?.getD 0)) := fun h => (hnx.cell (p := ⟨b, off + k, none⟩) hb).trans (hc k h)
    by_cases hlt : k < len
    · obtain ⟨fn, tmps, assign, body, hy, hR⟩ := hY _ (zs[k]?.getD 0) wr hJs (by rw [upto_length]; exact hlt)
      have hcx' := hcx hlt
      gi_wp2
      refine hR.mono ?_
      rintro e W3 (⟨rfl, hJ3, hk3⟩ | ⟨rfl, hJx3⟩)
      · gi_wp2
        go_roundw
        case rel => exact ⟨k + 1, by omega, by simp, by rw [upto_succ]; exact hJ3, hnx.trans hk3⟩
        case measure => simp [intOf]; omega
      · gi_wp2
        refine bodyPost_ret (results_none rfl _ _ _) rfl ?_
        exact ⟨⟨_, rfl⟩, .inr ⟨_, ⟨k + 1, by omega, (upto_succ _ _).symm⟩, hJx3⟩⟩
    · obtain rfl : k = len := by omega
      gi_wp2
      go_end0
      exact ⟨⟨_, rfl⟩, .inl ⟨_, rfl, hJs⟩⟩

theorem values1_none_in (F : Fence) (n : Nat) (h7 : F.fn 210) (hro : F.round = none) (l Bs : Nat) (a : Option Addr) (cap : Nat) (J : List Int → World → Prop) (W : World) (hBs : W.cell? ⟨Bs, 0, none⟩ = some (.slice a 0 cap)) (h0 : J [] W) :
    CallsIn F n Try.prog 210 #[.func (.yield l) #[] #[], .pointer (some ⟨Bs, 0, none⟩)] W fun e W' => (∃ v, e = .returned v) ∧ J [] W' := by
  refine callsIn_of_wp Try.func210 rfl h7 ?_ hro
  simp only [Try.ntmps210, List.size_toArray, List.length_cons, List.length_nil, Nat.reduceAdd, Nat.reduceSub, Array.replicate_succ, Array.replicate_zero, List.push_toArray, List.append_toArray, List.nil_append, List.cons_append]
  gi_wp2
  gi_loopw [7] (fun i wr => i = .int .i64 0 ∧ J [] wr) (fun _ _ => 0)
  case atStart => exact ⟨rfl, h0⟩
  case round =>
    obtain ⟨rfl, hJs⟩ := hrel
    gi_wp2
    go_end0
    exact ⟨⟨_, rfl⟩, hJs⟩

def IntsAt (n₀ : Nat) (W : World) (sv : Value) (zs : List Int) : Prop :=
  (∃ a cap, sv = .slice a 0 cap ∧ zs = []) ∨ ∃ b off cap, sv = .slice (some ⟨b, off, none⟩) zs.length cap ∧ b < n₀ ∧ ∀ j, j < zs.length → W.cell? ⟨b, off + j, none⟩ = some (.int .i64 (zs[j]?.getD 0))
theorem IntsAt.below {n₀ : Nat} {A B : World} (h : Below n₀ A B) {sv : Value} {zs : List Int} : IntsAt n₀ A sv zs → IntsAt n₀ B sv zs
  | .inl e => .inl e
  | .inr ⟨b, off, cap, e, hb, hc⟩ => .inr ⟨b, off, cap, e, hb, fun j hj => (h.cell (p := ⟨b, off + j, none⟩) hb).trans (hc j hj)⟩

theorem values_stops (F : Fence) (n : Nat) (h7 : F.fn 210) (hro : F.round = none) (hn : 1 ≤ n) (Bs n₀ : Nat) (sv : Value) (zs : List Int) (hreach : zs.length * 8 ≤ 140737488351232) (w : World) (hBs : Bs < w.heap.size) (hn₀ : n₀ ≤ w.heap.size)
    (hc : w.cell? ⟨Bs, 0, none⟩ = some sv) (hI : IntsAt n₀ w sv zs) :
    SeqStopsK F n Try.prog 210 #[.pointer (some ⟨Bs, 0, none⟩)] (fun x : Int => #[Value.int .i64 x]) (Below n₀) (fun ys => ys = zs) (fun pre => pre <+: zs) zs.length w := fun l J Jx W hW _ _ hY h0 => by
  have hc' := (hW.cell (p := ⟨Bs, 0, none⟩) hBs).trans hc
  rcases hI.below (hW.mono hn₀) with ⟨a, cap, rfl, rfl⟩ | ⟨b, off, cap, rfl, hb, hcs⟩
  · exact (values1_none_in F n h7 hro l Bs a cap J W hc' h0).mono fun e W' ⟨he, hj⟩ => ⟨he, .inl ⟨_, rfl, hj⟩⟩
  · refine (values1_in F n h7 hro hn l Bs n₀ b off zs.length cap zs hreach hb J Jx hY W hc' hcs h0).mono ?_
    rintro e W' ⟨he, ⟨ys, rfl, hj⟩ | ⟨pre, ⟨k, hk, rfl⟩, hj⟩⟩
    · exact ⟨he, .inl ⟨_, upto_all zs, hj⟩⟩
    · exact ⟨he, .inr ⟨_, by rw [upto_take zs hk]; exact List.take_prefix _ _, hj⟩⟩

theorem info_el : (Try.prog.info? 2).map (fun i => (i.zero, i.size, i.bytes)) = some (some (.int .i64 0), 1, 8) := by kernel_rfl

set_option maxRecDepth 100000 in
set_option maxHeartbeats 2000000 in
/-- A new slice with what the iterator gives. -/
theorem appendSeq_in (F : Fence) (n : Nat) (h3 : F.fn 228) (h5 : F.fn 210) (hro : F.round = none) (hn : 3 ≤ n) (Bs : Nat) (sv : Value) (xs : List Int) (hlen : xs.length ≤ maxLen) (hbytes : xs.length * 8 ≤ 140737488351232) (w : World)
    (hBs : Bs < w.heap.size) (hc : w.cell? ⟨Bs, 0, none⟩ = some sv) (hI : IntsAt w.heap.size w sv xs) :
    CallsIn F n Try.prog 228 #[.slice none 0 0, .func (.func 210) #[] #[.pointer (some ⟨Bs, 0, none⟩)]] w fun e W' => ∃ v, e = .returned v ∧ W'.ownsRow w.heap.size 2 1 v xs.length (xs.map (Value.int .i64)) ∧ (v = .slice none 0 0 ↔ xs = []) ∧ Below w.heap.size w W' := by
  have h1 : 1 ≤ n := by omega
  obtain ⟨i0, hi, hz0, hz1, hz2⟩ := info_parts info_el
  refine callsIn_of_wp_marks Try.func228 rfl h3 ?_ hro
  simp only [Try.ntmps228, List.size_toArray, List.length_cons, List.length_nil, Nat.reduceAdd, Nat.reduceSub, Array.replicate_succ, Array.replicate_zero, List.push_toArray, List.append_toArray, List.nil_append, List.cons_append]
  gi_wp2
  have bO := Boxed.new w 38 (.slice none 0 0)
  have hB0 : Below w.heap.size w (w.alloc (.cells #[.slice none 0 0] 38)) := (Below.refl _ w).alloc (Nat.le_refl _) _
  have hc0 : (w.alloc (.cells #[.slice none 0 0] 38)).cell? ⟨Bs, 0, none⟩ = some sv := (hB0.cell (p := ⟨Bs, 0, none⟩) hBs).trans hc
  refine wpIn_rangeFunc_ownG hro h1 (gf := 210) (lb := #[.pointer (some ⟨Bs, 0, none⟩)]) rfl h5 (enters_of Try.func210 (by kernel_rfl) rfl)
    (values_stops F (n - 1) h5 hro (by omega) Bs w.heap.size sv xs hbytes _ (by simp; omega) (by simp) hc0 (hI.below hB0)) belowK_t (belowK_b (by simp)) (Below.refl _ _) (fun _ => rfl)
    (fun pre W => (∃ v, Boxed W w.heap.size 38 v ∧ W.ownsRow w.heap.size 2 1 v pre.length (pre.map (Value.int .i64)) ∧ (v = .slice none 0 0 ↔ pre = [])) ∧ Below w.heap.size w W)
    (fun _ _ _ => False)
    (OwnFrom.and (Own.from (holdsRow_own w.heap.size w.heap.size 38 2 1 (fun pre => pre.length) (fun pre => pre.map (Value.int .i64)) (fun pre v => v = .slice none 0 0 ↔ pre = [])) _) (ownFrom_below (Nat.le_refl _) (by simp)))
    (fun _ _ _ _ _ hs _ _ => hs)
    ⟨⟨_, bO, World.ownsRow_nil _ _ _ _, by simp⟩, hB0⟩
    (fun x => { tmps := #[.slice none 0 0, .func (.func 210) #[] #[.pointer (some ⟨Bs, 0, none⟩)], .pointer (some ⟨w.heap.size, 0, none⟩), undef, .slice none 0 0, .int .i64 x, .func (.func 210) #[] #[.pointer (some ⟨Bs, 0, none⟩)], .int .i64 x, undef, undef, undef, undef, undef], defers := [] }) ?assign ?body ?done ?stop
  case assign =>
    intro l x W K hK
    gi_wp2
    exact hK
  case body =>
    rintro l pre x W ⟨⟨v, hv, hrow, hnil⟩, hB⟩ hlt
    have hc := hv.cell
    gi_wp2_with (gi_at_builtin; refine wpListIn_append_own _ rfl _ _ 38 rfl w.heap.size 2 i0 (.int .i64 0) 1 8 Try.underlying38 hi hz0 hz1 hz2 rfl (by decide) _ _ _ rfl (hrow.alloc _) ⟨W.heap.size, 0, none⟩ 1 1 [.int .i64 x] rfl rfl (cell_one_new _ _ _) (by simp [Value.oneCell']) (by omega) (by omega) (by have := hB.size; simp; omega) ?_; intro v' w1 hown' hgrow _; obtain ⟨g', cap', rfl⟩ := ownsRow_succ hown'; obtain ⟨hv1, hv2, hr2, hk2, hb2⟩ := hv.appended (by decide) hrow hB.size (Nat.le_refl _) hown' hgrow; have hc1 := hv1.cell; have hf1 := hv1.frozen)
    exact ⟨hk2.from _, hb2, ⟨_, hv2, by simpa using hr2, by simp⟩, hB.trans hb2⟩
  case done =>
    rintro D ys W hD rfl ⟨⟨v, hv, hrow, hnil⟩, hB⟩ hK
    have hc := hv.cell
    gi_wp2
    refine ⟨by simp, .inl ⟨_, _, rfl, run_takeDeferred hK, ?_⟩⟩
    exact ⟨_, results_tmp rfl _ _ _, v, rfl, ownsRow_putObj hrow _ hK rfl, hnil, hB.trans (belowK_b (w := w) (Nat.le_refl _) W D _ _ (by simp at hD; omega) hK rfl rfl)⟩
  case stop =>
    rintro D c pre W _ _ h _
    exact h.elim
end Go.Proofs.Ytgkmdfjjlghecaa.A
end

section
set_option linter.unusedSimpArgs false
set_option linter.unusedVariables false
namespace Go.Abs

theorem any_contains (y : List Int) (x : Int) : ((List.range y.length).any fun i => y.getD i 0 == x) = y.contains x := by
  rw [Bool.eq_iff_iff, List.any_eq_true, List.contains_iff_mem]
  constructor
  · rintro ⟨i, hi, h⟩
    have hi' : i < y.length := by simpa using hi
    rw [List.getD_eq_getElem?_getD, List.getElem?_eq_getElem hi'] at h
    have : y[i] = x := by simpa using h
    rw [← this]; exact List.getElem_mem _
  · intro h
    obtain ⟨i, hi, rfl⟩ := List.mem_iff_getElem.1 h
    exact ⟨i, by simpa using hi, by simp [hi]⟩
end Go.Abs
end

section
set_option linter.unusedSimpArgs false
set_option linter.unusedVariables false
namespace Go.Abs

def sortedL (zs : List Int) : List Int := zs.mergeSort fun x y => decide (x ≤ y)
theorem sortedL_length (zs : List Int) : (sortedL zs).length = zs.length := by simp [sortedL]
theorem sortedL_perm (zs : List Int) : (sortedL zs).Perm zs := List.mergeSort_perm _ _
theorem sortedL_sorted (zs : List Int) : (sortedL zs).Pairwise (fun x y => x ≤ y) := by
  have h := List.pairwise_mergeSort (le := fun x y : Int => decide (x ≤ y)) (fun a b c h1 h2 => by simp at *; omega) (fun a b => by simp; omega) zs
  exact h.imp (by simp)

theorem sorted_unique : ∀ {a b : List Int}, a.Perm b → a.Pairwise (fun x y => x ≤ y) → b.Pairwise (fun x y => x ≤ y) → a = b
  | [], b, h, _, _ => by rw [List.nil_perm] at h; exact h.symm
  | x :: a, [], h, _, _ => by rw [List.perm_nil] at h; exact h
  | x :: a, y :: b, h, ha, hb => by
    have hxy : x = y := by
      have h1 : x ∈ y :: b := h.subset (List.mem_cons_self)
      have h2 : y ∈ x :: a := h.symm.subset (List.mem_cons_self)
      have ha' : ∀ z ∈ a, x ≤ z := fun z hz => List.rel_of_pairwise_cons ha hz
      have hb' : ∀ z ∈ b, y ≤ z := fun z hz => List.rel_of_pairwise_cons hb hz
      rcases List.mem_cons.1 h1 with e | e
      · exact e
      · rcases List.mem_cons.1 h2 with e2 | e2
        · exact e2.symm
        · have := ha' _ e2; have := hb' _ e; omega
    subst hxy
    rw [sorted_unique ((List.perm_cons x).1 h) ha.of_cons hb.of_cons]

theorem seqL_pair (a : Int) (n : Nat) : (seqL a n).Pairwise (fun x y => x < y) := by
  unfold seqL
  rw [List.pairwise_map]
  exact List.pairwise_lt_range.imp (by intro x y h; omega)
theorem seqL_sorted (a : Int) (n : Nat) : (seqL a n).Pairwise (fun x y => x ≤ y) := (seqL_pair a n).imp (by intro x y h; omega)
theorem seqL_nodup (a : Int) (n : Nat) : (seqL a n).Nodup := (seqL_pair a n).imp (by intro x y h; omega)
theorem mem_seqL_iff (a : Int) (n : Nat) (x : Int) : x ∈ seqL a n ↔ a ≤ x ∧ x < a + n := by
  unfold seqL
  rw [List.mem_map]
  constructor
  · rintro ⟨i, hi, rfl⟩
    have : i < n := by simpa using hi
    constructor <;> omega
  · rintro ⟨h1, h2⟩
    exact ⟨(x - a).toNat, by simp; omega, by omega⟩

theorem sortedL_eq {y z : List Int} (h : y.Perm z) (hz : z.Pairwise (fun x y => x ≤ y)) : sortedL y = z :=
  sorted_unique ((sortedL_perm y).trans h) (sortedL_sorted y) hz
theorem sortedL_seq (a : Int) (n : Nat) (y : List Int) : sortedL y = seqL a n ↔ y.Perm (seqL a n) :=
  ⟨fun h => h ▸ (sortedL_perm y).symm, fun h => sortedL_eq h (seqL_sorted a n)⟩

theorem perm_of_nodup {α : Type} [DecidableEq α] : ∀ (y z : List α), y.Nodup → (∀ x ∈ y, x ∈ z) → z.length ≤ y.length → y.Perm z
  | [], z, _, _, h => by
    have : z = [] := List.eq_nil_of_length_eq_zero (by simpa using h)
    rw [this]
  | a :: y, z, hn, hs, h => by
    have ha : a ∈ z := hs a (List.mem_cons_self)
    have hn' := List.nodup_cons.1 hn
    have hp := List.perm_cons_erase ha
    have hl := List.length_erase_of_mem ha
    have hz : 0 < z.length := List.length_pos_of_mem ha
    have ih := perm_of_nodup y (z.erase a) hn'.2 (fun x hx => (List.mem_erase_of_ne (by rintro rfl; exact hn'.1 hx)).2 (hs x (List.mem_cons_of_mem _ hx))) (by rw [hl]; simp at h; omega)
    exact (ih.cons a).trans hp.symm

def ordB (n : Nat) (y : List Int) : Bool := decide (y.length = n) && decide (sortedL y = seqL 0 n)
theorem ordB_iff (n : Nat) (y : List Int) : ordB n y = true ↔ y.length = n ∧ (∀ x ∈ y, 0 ≤ x ∧ x < n) ∧ y.Nodup := by
  unfold ordB
  rw [Bool.and_eq_true, decide_eq_true_iff, decide_eq_true_iff, sortedL_seq]
  constructor
  · rintro ⟨h1, h2⟩
    refine ⟨h1, fun x hx => ?_, (h2.nodup_iff).2 (seqL_nodup 0 n)⟩
    have := (mem_seqL_iff 0 n x).1 (h2.subset hx)
    omega
  · rintro ⟨h1, h2, h3⟩
    exact ⟨h1, perm_of_nodup y _ h3 (fun x hx => (mem_seqL_iff 0 n x).2 (by have := h2 x hx; omega)) (by rw [seqL_length]; omega)⟩

theorem take_snoc {α : Type} (y : List α) (d : α) (i : Nat) (hi : i < y.length) : y.take (i + 1) = y.take i ++ [y.getD i d] := by
  rw [List.take_add_one, List.getElem?_eq_getElem hi, List.getD_eq_getElem?_getD, List.getElem?_eq_getElem hi]
  rfl
theorem nodup_snoc {α : Type} [DecidableEq α] {y : List α} {x : α} : (y ++ [x]).Nodup ↔ y.Nodup ∧ x ∉ y := by
  rw [List.nodup_append]
  constructor
  · rintro ⟨h1, _, h2⟩
    exact ⟨h1, fun h => h2 x h x (by simp) rfl⟩
  · rintro ⟨h1, h2⟩
    refine ⟨h1, by simp, fun a ha b hb e => ?_⟩
    rw [List.mem_singleton] at hb
    subst hb; subst e; exact h2 ha
theorem nodup_take {α : Type} {y : List α} (h : y.Nodup) (i : Nat) : (y.take i).Nodup := h.sublist (List.take_sublist _ _)

def goodTo (n : Nat) (y : List Int) (i : Nat) : Prop := (∀ x ∈ y.take i, 0 ≤ x ∧ x < n) ∧ (y.take i).Nodup
theorem goodTo_zero (n : Nat) (y : List Int) : goodTo n y 0 := ⟨by simp, by simp⟩
theorem goodTo_succ {n : Nat} {y : List Int} {i : Nat} (hi : i < y.length) (h : goodTo n y i) (h1 : 0 ≤ y.getD i 0 ∧ y.getD i 0 < n) (h2 : (y.take i).contains (y.getD i 0) = false) : goodTo n y (i + 1) := by
  unfold goodTo
  rw [take_snoc y 0 i hi]
  refine ⟨fun x hx => ?_, nodup_snoc.2 ⟨h.2, fun hm => ?_⟩⟩
  · rcases List.mem_append.1 hx with hx | hx
    · exact h.1 x hx
    · rw [List.mem_singleton] at hx; rw [hx]; exact h1
  · rw [List.contains_iff_mem.2 hm] at h2; cases h2
theorem goodTo_all {n : Nat} {y : List Int} (h : goodTo n y y.length) : ordB n y = decide (y.length = n) := by
  unfold goodTo at h
  rw [List.take_length] at h
  by_cases e : y.length = n
  · rw [decide_eq_true e, ordB_iff]; exact ⟨e, h.1, h.2⟩
  · unfold ordB; rw [decide_eq_false e]; rfl
theorem ordB_bad {n : Nat} {y : List Int} {i : Nat} (hi : i < y.length) (h : ¬ (0 ≤ y.getD i 0 ∧ y.getD i 0 < n) ∨ (y.take i).contains (y.getD i 0) = true) : ordB n y = false := by
  rw [Bool.eq_false_iff]
  intro ho
  obtain ⟨_, h1, h2⟩ := (ordB_iff n y).1 ho
  rcases h with h | h
  · exact h (h1 _ (by rw [List.getD_eq_getElem?_getD, List.getElem?_eq_getElem hi]; exact List.getElem_mem _))
  · have h3 := nodup_take h2 (i + 1)
    rw [take_snoc y 0 i hi] at h3
    exact (nodup_snoc.1 h3).2 (List.contains_iff_mem.1 h)
def metL (n : Nat) (y : List Int) : List Bool := (List.range n).map fun (j : Nat) => y.contains (j : Int)
theorem metL_length (n : Nat) (y : List Int) : (metL n y).length = n := by simp [metL]
theorem metL_nil (n : Nat) : metL n [] = List.replicate n false := by
  unfold metL
  exact List.eq_replicate_iff.2 ⟨by simp, by intro b hb; obtain ⟨a, _, rfl⟩ := List.mem_map.1 hb; rfl⟩
theorem metL_getD (n : Nat) (y : List Int) (x : Int) (h : 0 ≤ x ∧ x < n) : (metL n y).getD x.toNat false = y.contains x := by
  unfold metL
  rw [List.getD_eq_getElem?_getD, List.getElem?_map, List.getElem?_range (by omega)]
  simp only [Option.map_some, Option.getD_some]
  rw [show ((x.toNat : Nat) : Int) = x by omega]
theorem contains_snoc (y : List Int) (x z : Int) : (y ++ [x]).contains z = (y.contains z || z == x) := by
  rw [Bool.eq_iff_iff, Bool.or_eq_true, List.contains_iff_mem, List.contains_iff_mem, List.mem_append, List.mem_singleton, beq_iff_eq]
theorem metL_set (n : Nat) (y : List Int) (x : Int) (h : 0 ≤ x ∧ x < n) : (metL n y).set x.toNat true = metL n (y ++ [x]) := by
  apply List.ext_getElem?
  intro j
  rw [List.getElem?_set, metL_length]
  unfold metL
  rw [List.getElem?_map, List.getElem?_map]
  by_cases hj : j < n
  · rw [List.getElem?_range hj]
    simp only [Option.map_some]
    rw [contains_snoc]
    by_cases e : x.toNat = j
    · rw [if_pos e, if_pos (by omega)]
      have : ((j : Int) == x) = true := by rw [beq_iff_eq]; omega
      rw [this, Bool.or_true]
    · rw [if_neg e]
      have : ((j : Int) == x) = false := by rw [beq_eq_false_iff_ne]; omega
      rw [this, Bool.or_false]
  · have e : ¬ x.toNat = j := by omega
    rw [if_neg e, List.getElem?_eq_none (by simpa using hj)]
    rfl

/-! ### Steps -/
def stpI (n : Nat) (a b : Int) : Int := (b - a) % (n : Int)
def stpL (n : Nat) (y : List Int) : List Int := (List.range (y.length - 1)).map fun i => stpI n (y.getD i 0) (y.getD (i + 1) 0)
theorem stpL_length (n : Nat) (y : List Int) : (stpL n y).length = y.length - 1 := by simp [stpL]
end Go.Abs
end

section
set_option linter.unusedSimpArgs false
set_option linter.unusedVariables false
namespace Go.Proofs.Ytgkmdfjjlghecaa.A
open Go Go.RowKit Go.Shelf Go.Sort
open Go.Abs (sortedL)

attribute [local go_sem] Oper.semAt_some

def SortsAt : Prop :=
  (∀ (blk off cap : Nat) (zs : List Int) (w : World), Holds (Value.int .i64) w blk off zs.toArray → blk < w.heap.size → zs.length < 4611686018427387904 →
    Calls Try.prog 209 #[.slice (some ⟨blk, off, none⟩) zs.length cap] w fun e w' => e = .returned (.tuple #[]) ∧ ∃ n os, w' = grow (putRow (Value.int .i64) (Sort.ahead w n) blk off (sortedL zs).toArray) os) ∧
  (∀ (p : Option Addr) (cap : Nat) (w : World), Calls Try.prog 209 #[.slice p 0 cap] w fun e w' => e = .returned (.tuple #[]) ∧ w' = w)

set_option maxRecDepth 100000 in
set_option maxHeartbeats 2000000 in
theorem collect_in (F : Fence) (n : Nat) (h2 : F.fn 208) (h3 : F.fn 228) (h5 : F.fn 210) (hro : F.round = none) (hn : 4 ≤ n) (Bs : Nat) (sv : Value) (xs : List Int) (hlen : xs.length ≤ maxLen) (hbytes : xs.length * 8 ≤ 140737488351232) (w : World)
    (hBs : Bs < w.heap.size) (hc : w.cell? ⟨Bs, 0, none⟩ = some sv) (hI : IntsAt w.heap.size w sv xs) :
    CallsIn F n Try.prog 208 #[.func (.func 210) #[] #[.pointer (some ⟨Bs, 0, none⟩)]] w fun e W' => ∃ v, e = .returned v ∧ W'.ownsRow w.heap.size 2 1 v xs.length (xs.map (Value.int .i64)) ∧ (v = .slice none 0 0 ↔ xs = []) ∧ Below w.heap.size w W' := by
  have h1 : 1 ≤ n := by omega
  have e3 : ∀ args w, (callFunc 228 args).run Try.prog w = .ok (.enter 228 args) w := enters_of Try.func228 (by kernel_rfl) rfl
  refine callsIn_of_wp Try.func208 rfl h2 ?_ hro
  simp only [Try.ntmps208, List.size_toArray, List.length_cons, List.length_nil, Nat.reduceAdd, Nat.reduceSub, Array.replicate_succ, Array.replicate_zero, List.push_toArray, List.append_toArray, List.nil_append, List.cons_append]
  gi_wp2_with (gi_at_call 228; refine (appendSeq_in F (n - 1) h3 h5 hro (by omega) Bs sv xs hlen hbytes _ hBs hc hI).mono ?_; rintro e w' ⟨v, rfl, hrow, hnil, hb⟩)
  go_ret
  exact ⟨v, rfl, hrow, hnil, hb⟩

set_option maxRecDepth 100000 in
set_option maxHeartbeats 2000000 in
theorem sorted_in (hsort : SortsAt) (Bs : Nat) (sv : Value) (xs : List Int) (hlen : xs.length ≤ maxLen) (hbytes : xs.length * 8 ≤ 140737488351232) (w : World)
    (hBs : Bs < w.heap.size) (hc : w.cell? ⟨Bs, 0, none⟩ = some sv) (hI : IntsAt w.heap.size w sv xs) :
    Calls Try.prog 172 #[.func (.func 210) #[] #[.pointer (some ⟨Bs, 0, none⟩)]] w fun e W' => ∃ v, e = .returned v ∧ W'.ownsRow w.heap.size 2 1 v xs.length ((sortedL xs).map (Value.int .i64)) ∧ (v = .slice none 0 0 ↔ xs = []) ∧ Below w.heap.size w W' := by
  refine (callsIn_wide (n := 8)).1 ?_
  have h1 : 1 ≤ 8 := by omega
  have e2 : ∀ args w, (callFunc 208 args).run Try.prog w = .ok (.enter 208 args) w := enters_of Try.func208 (by kernel_rfl) rfl
  have e9 : ∀ args w, (callFunc 209 args).run Try.prog w = .ok (.enter 209 args) w := enters_of Try.func209 (by kernel_rfl) rfl
  refine callsIn_of_wp Try.func172 rfl trivial ?_ rfl
  simp only [Try.ntmps172, List.size_toArray, List.length_cons, List.length_nil, Nat.reduceAdd, Nat.reduceSub, Array.replicate_succ, Array.replicate_zero, List.push_toArray, List.append_toArray, List.nil_append, List.cons_append]
  have hfK : Fence.wide.fn 208 := trivial
  have hfS : Fence.wide.fn 209 := trivial
  gi_wp2_with (gi_at_call 208; refine (collect_in Fence.wide _ trivial trivial trivial rfl (by omega) Bs sv xs hlen hbytes _ hBs hc hI).mono ?_; rintro e W ⟨v, rfl, hrow, hnil, hb⟩)
  rcases hrow.2 with ⟨rfl, hz⟩ | ⟨gb, cap, cur, rfl, hbase, hgb, r1, r2, r3, r4⟩
  · have hss : xs = [] := List.eq_nil_of_length_eq_zero hz
    subst hss
    have cN := callsIn_wide (n := 7).2 (hsort.2 none 0 W)
    gi_wp2_with (gi_at_call 209; refine cN.mono ?_; rintro e w' ⟨rfl, rfl⟩)
    go_ret
    exact ⟨.slice none 0 0, rfl, by simpa [sortedL] using hrow, by simp, hb⟩
  · have hH : Holds (Value.int .i64) W gb 0 xs.toArray := holds_of_blockI hgb (by simpa using r4)
    have hgl : gb < W.heap.size := (Array.getElem?_eq_some_iff.1 hgb).1
    have hsz : xs.length < 4611686018427387904 := by omega
    have cS := callsIn_wide (n := 7).2 (hsort.1 gb 0 cap xs W hH hgl hsz)
    gi_wp2_with (gi_at_call 209; refine cS.mono ?_; rintro e w' ⟨rfl, nn, os, rfl⟩)
    go_ret
    exact ⟨_, rfl, ownsRow_sortedI (by simp [sortedL]) hbase hgb r1 r2 r3, hnil, hb.grown (grownBy_sortedI _) hb.size (fun j hj => by cases hj; exact hbase)⟩
end Go.Proofs.Ytgkmdfjjlghecaa.A
end

section
set_option linter.unusedSimpArgs false
set_option linter.unusedVariables false
namespace Go.Abs
open Go Go.RowKit

section
variable {base : Nat} {ρ : Nat → Nat} {H : AH} {w w' : World}

theorem bsz_lt {b k : Nat} (h : bsz w b = some k) : b < w.heap.size := by
  rcases Nat.lt_or_ge b w.heap.size with h' | h'
  · exact h'
  · simp [bsz, Array.getElem?_eq_none h'] at h
theorem bsz_below (hB : Below w.heap.size w w') {b k : Nat} (h : bsz w b = some k) : bsz w' b = some k := by
  have hb := bsz_lt h
  unfold bsz at *
  rw [hB.block b hb]; exact h

theorem Rel.below (R : Rel base ρ H w) (hB : Below w.heap.size w w') : Rel base ρ H w' ∧ Ext base ρ H.next w ρ H.next w' := by
  have E : Ext base ρ H.next w ρ H.next w' := ⟨Nat.le_refl _, fun _ _ => rfl, hB.mono R.sz, fun b k h => bsz_below hB h⟩
  refine ⟨⟨R.scope, fun i r h hb => ⟨(R.ro i r h hb).1, fun j v hv ho => ?_⟩, fun i r h hb => ?_, R.inj, Nat.le_trans R.sz hB.size⟩, E⟩
  · obtain ⟨v', a, b⟩ := (R.ro i r h hb).2 j v hv ho
    exact ⟨v', (hB.cell (p := ⟨ρ i, j, none⟩) (World.block_lt_of_cell? w _ a)).trans a, b.ext E⟩
  · obtain ⟨a, cs, b, c⟩ := R.rwr i r h hb
    exact ⟨a, cs, (hB.block _ (R.lt_heap h hb)).trans b, c.ext E⟩

theorem Rel.newRow (R : Rel base ρ H w) (hB : Below w.heap.size w w') {g : Nat} (hg : w.heap.size ≤ g) {ty : TypeId} {cs : Array Value} (hcs : w'.heap[g]? = some (.cells cs ty (0, 0))) {xs : List Value} (hx : L1 ρ H.next w xs (cs.toList.take xs.length)) :
    Rel base (ren ρ H.next g) (H.push ⟨ty, true, xs⟩) w' ∧ Ext base ρ H.next w (ren ρ H.next g) (H.push ⟨ty, true, xs⟩).next w' := by
  have old : ∀ i, i < H.next → ren ρ H.next g i = ρ i := fun i hi => by unfold ren; rw [if_neg (by omega)]
  have new : ren ρ H.next g H.next = g := by unfold ren; rw [if_pos rfl]
  have E : Ext base ρ H.next w (ren ρ H.next g) (H.next + 1) w' := ⟨Nat.le_succ _, old, hB.mono R.sz, fun b k h => bsz_below hB h⟩
  obtain ⟨R', _⟩ := R.below hB
  have hsz := R.sz
  refine ⟨⟨?_, ?_, ?_, ?_, R'.sz⟩, E⟩
  · intro i r hr
    rw [AH.push_row] at hr
    rw [AH.push_next]
    split at hr
    · omega
    · have := R.scope i r hr; omega
  · intro i r hr hb
    rw [AH.push_row] at hr
    split at hr
    · simp at hr; subst hr; simp at hb
    · have hi := R.scope i r hr
      rw [old i hi]
      obtain ⟨h1, h2⟩ := R.ro i r hr hb
      refine ⟨h1, fun j v hv ho => ?_⟩
      obtain ⟨v', a, b⟩ := h2 j v hv ho
      exact ⟨v', (hB.cell (p := ⟨ρ i, j, none⟩) (World.block_lt_of_cell? w _ a)).trans a, b.ext E⟩
  · intro i r hr hb
    rw [AH.push_row] at hr
    split at hr
    · rename_i e; subst e
      simp at hr; subst hr
      rw [new]
      exact ⟨by omega, cs, hcs, hx.ext E⟩
    · have hi := R.scope i r hr
      obtain ⟨a, cs', b, c⟩ := R.rwr i r hr hb
      rw [old i hi]
      exact ⟨a, cs', (hB.block _ (R.lt_heap hr hb)).trans b, c.ext E⟩
  · intro i j r s hr hs hb hc he
    rw [AH.push_row] at hr hs
    split at hr <;> split at hs
    · rename_i e1 e2; rw [e1, e2]
    · rename_i e1 e2
      have hj := R.scope j s hs
      rw [e1, new, old j hj] at he
      have := R.lt_heap hs hc
      omega
    · rename_i e1 e2
      have hi := R.scope i r hr
      rw [e2, new, old i hi] at he
      have := R.lt_heap hr hb
      omega
    · have hi := R.scope i r hr
      have hj := R.scope j s hs
      rw [old i hi, old j hj] at he
      exact R.inj i j r s hr hs hb hc he

theorem Rel.turned (R : Rel base ρ H w) {i : Nat} {r : Row} (hr : H.row i = some r) (hw : r.rw = true) (hg : w.grownBy w' (some (ρ i))) {cs cs' : Array Value} (h0 : w.heap[ρ i]? = some (.cells cs r.ty (0, 0))) (h1 : w'.heap[ρ i]? = some (.cells cs' r.ty (0, 0))) (hs : cs'.size = cs.size)
    {xs : List Value} (hx : L1 ρ H.next w xs (cs'.toList.take xs.length)) :
    Rel base ρ (H.setCells i xs) w' ∧ Ext base ρ H.next w ρ (H.setCells i xs).next w' := by
  have hbi := (R.rwr i r hr hw).1
  have hB : Below base w w' := ⟨hg.os, hg.tape, hg.output, hg.size, fun k hk => hg.block k (by have := R.sz; omega) (fun e => by have := Option.some.inj e; omega)⟩
  have hst : ∀ b k, bsz w b = some k → bsz w' b = some k := by
    intro b k h
    by_cases e : b = ρ i
    · subst e
      simp only [bsz, h0] at h
      simp only [bsz, h1]
      rw [hs]; exact h
    · have hb := bsz_lt h
      unfold bsz at *
      rw [hg.block b hb (fun e2 => e (Option.some.inj e2))]; exact h
  have E : Ext base ρ H.next w ρ H.next w' := ⟨Nat.le_refl _, fun _ _ => rfl, hB, hst⟩
  refine ⟨⟨?_, ?_, ?_, ?_, Nat.le_trans R.sz hg.size⟩, E⟩
  · intro j s hj
    rw [AH.setCells_row] at hj
    rw [AH.setCells_next]
    split at hj
    · rename_i e; rw [e]; exact R.scope i r hr
    · exact R.scope j s hj
  · intro j s hj hb
    rw [AH.setCells_row] at hj
    split at hj
    · rw [hr] at hj; simp at hj; subst hj; rw [hw] at hb; cases hb
    · obtain ⟨a1, a2⟩ := R.ro j s hj hb
      refine ⟨a1, fun k v hv ho => ?_⟩
      obtain ⟨v', a, b⟩ := a2 k v hv ho
      exact ⟨v', (hB.cell (p := ⟨ρ j, k, none⟩) a1).trans a, b.ext E⟩
  · intro j s hj hb
    rw [AH.setCells_row] at hj
    split at hj
    · rename_i e; subst e
      rw [hr] at hj; simp at hj; subst hj
      exact ⟨hbi, cs', h1, hx.ext E⟩
    · rename_i e
      obtain ⟨a, c0, b, c⟩ := R.rwr j s hj hb
      exact ⟨a, c0, (hg.block _ (R.lt_heap hj hb) (fun e2 => e (R.inj j i s r hj hr hb hw (Option.some.inj e2)))).trans b, c.ext E⟩
  · intro j k s q hj hk hb hc he
    rw [AH.setCells_row] at hj hk
    split at hj <;> split at hk
    · rename_i e1 e2; rw [e1, e2]
    · rename_i e1 e2; subst e1
      exact R.inj _ k r q hr hk hw hc he
    · rename_i e1 e2; subst e2
      exact R.inj j _ s r hj hr hb hw he
    · exact R.inj j k s q hj hk hb hc he

theorem Rd.cellsAt (R : Rel base ρ H w) {v v' : Value} {n : Nat} {l : List Int} (h : Rd 1 H v n l) (hv : VR ρ H.next w v v') :
    (∃ a c, v' = .slice a 0 c ∧ l = []) ∨ ∃ b o c, v' = .slice (some ⟨b, o, none⟩) l.length c ∧ b < w.heap.size ∧ ∀ j, j < l.length → w.cell? ⟨b, o + j, none⟩ = some (.int .i64 (l[j]?.getD 0)) := by
  obtain ⟨hl, hc⟩ := h
  rw [Nat.mul_one] at hl
  by_cases h0 : n = 0
  · left
    have hl0 : l = [] := List.eq_nil_of_length_eq_zero (by omega)
    subst h0
    have key : ∃ a c, v = .slice a 0 c := by
      rcases hc with ⟨_, a, c, rfl, _⟩ | ⟨i, o, u, c, r, rfl, _⟩
      · exact ⟨_, _, rfl⟩
      · exact ⟨_, _, rfl⟩
    obtain ⟨a, c, rfl⟩ := key
    cases hv with
    | one h =>
      cases h with
      | scal v hs => exact ⟨_, _, rfl, hl0⟩
      | sle i o n c hi => exact ⟨_, _, rfl, hl0⟩
      | slu i o n c e a c' hi hn hr => exact ⟨_, _, rfl, hl0⟩
  · right
    rcases hc with ⟨h1, _⟩ | ⟨i, o, u, c, r, rfl, hr, hlen, hseg⟩
    · exact absurd h1 h0
    · rw [Nat.mul_one] at hlen hseg
      have hok : r.ok ((r.cells.drop o).take n) := .inr fun x hx => by
        have hs : (r.cells.drop o).take n = ints l := hseg
        rw [hs] at hx
        obtain ⟨y, _, rfl⟩ := List.mem_map.1 hx
        rfl
      obtain ⟨ys, hys, hcell, hL⟩ := R.cells hr hlen hok
      have hs : (r.cells.drop o).take n = ints l := hseg
      rw [hs] at hL
      have hcells : ∀ j, j < l.length → w.cell? ⟨ρ i, o + j, none⟩ = some (.int .i64 (l[j]?.getD 0)) := by
        intro j hj
        have hx : (ints l)[j]? = some (.int .i64 (l.getD j 0)) := ints_get? l j hj
        obtain ⟨y, hy, hv1⟩ := hL.get hx
        have e := VR.int (.one hv1)
        rw [hcell j y hy, e, List.getD_eq_getElem?_getD]
      have hlt : ρ i < w.heap.size := World.block_lt_of_cell? w _ (hcells 0 (by omega))
      rw [hl]
      cases hv with
      | one h =>
        cases h with
        | scal v hs => simp [Abs.scal] at hs
        | sle i o n c hi => exact ⟨ρ i, o, c, rfl, hlt, fun j hj => hcells j (by omega)⟩
        | slu i o n c e a c' hi hn hr =>
          rcases hr with ⟨rfl, _⟩ | ⟨h1, _⟩
          · exact ⟨ρ i, o, c', rfl, hlt, fun j hj => hcells j (by omega)⟩
          · exact absurd h1 h0

theorem Rel.newInts (R : Rel base ρ H w) (hB : Below w.heap.size w w') {ty : TypeId} {v' : Value} {l : List Int} (h : w'.ownsRow w.heap.size ty 1 v' l.length (l.map (Value.int .i64))) :
    ∃ v H' ρ', Up H.next H H' ∧ Fr 1 ty H.next H'.next H' v l.length l ∧ Rel base ρ' H' w' ∧ VR ρ' H'.next w' v v' ∧ Ext base ρ H.next w ρ' H'.next w' := by
  rcases h.2 with ⟨rfl, h0⟩ | ⟨g, cap, cur, rfl, hg, hcs, h1, h2, h3, h4⟩
  · obtain ⟨R', E⟩ := R.below hB
    exact ⟨_, H, ρ, Up.refl _ _, ⟨by omega, .inl ⟨h0, rfl⟩⟩, R', .scal rfl, E⟩
  · rw [Nat.mul_one] at h4 h3
    have hx : L1 ρ H.next w (ints l) (cur.toList.take (ints l).length) := by
      rw [ints_length, h4]
      exact L1.self fun v hv => by obtain ⟨y, _, rfl⟩ := List.mem_map.1 hv; rfl
    obtain ⟨R', E⟩ := R.newRow hB hg hcs hx
    have new : ren ρ H.next g H.next = g := by unfold ren; rw [if_pos rfl]
    have ht : VR (ren ρ H.next g) (H.push ⟨ty, true, ints l⟩).next w' (.slice (some ⟨H.next, 0, some 1⟩) l.length l.length) (.slice (some ⟨g, 0, none⟩) l.length cap) := by
      refine .one (.slu _ _ _ _ _ _ _ (Nat.lt_succ_self _) h1 (.inl ⟨by rw [new], ?_, h2⟩))
      rw [new]
      simp [bsz, hcs, h3]
    exact ⟨_, _, _, (Up.refl _ H).push (Nat.le_refl _) _, ⟨by omega, .inr ⟨H.next, Nat.le_refl _, Nat.lt_succ_self _, rfl, by rw [AH.push_row, if_pos rfl]⟩⟩, R', ht, E⟩
end
end Go.Abs
end

section
set_option linter.unusedSimpArgs false
set_option linter.unusedVariables false
set_option maxRecDepth 100000
set_option maxHeartbeats 2000000
namespace Go.Proofs.Ytgkmdfjjlghecaa.A
open Go Go.Abs Go.RowKit Go.Shelf Go.Sort

def sortRen : Go.Shelf.Ren := ⟨fun | 5 => 209 | 8 => 212 | 7 => 229 | 19 => 238 | 20 => 239 | 10 => 246 | 11 => 247 | 12 => 248 | 13 => 249 | 14 => 250 | 15 => 251 | 16 => 252 | 17 => 253 | 18 => 254 | 30 => 264 | 31 => 256 | 32 => 257 | 33 => 265 | 34 => 266 | 35 => 207 | 40 => 269 | n => n, fun | 23 => 38 | 25 => 2 | 3 => 3 | 32 => 183 | 22 => 38 | 0 => 0 | 44 => 205 | 46 => 159 | 4 => 4 | 36 => 198 | 35 => 197 | 41 => 202 | 5 => 5 | 9 => 9 | 53 => 217 | 57 => 221 | 63 => 227 | 64 => 228 | n => n, fun | n => n⟩
theorem sortLy : Go.Proofs.SlLaysM.n5 Try.prog sortRen := {
  mixed := by kernel_rfl
  f5 := ⟨Try.f209.name, by decide, Try.func209.trans (congrArg some (by kernel_rfl))⟩
  f7 := ⟨Try.f229.name, by decide, Try.func229.trans (congrArg some (by kernel_rfl))⟩
  f8 := Try.func212.trans (congrArg some (by kernel_rfl))
  f10 := ⟨Try.f246.name, by decide, Try.func246.trans (congrArg some (by kernel_rfl))⟩
  f11 := ⟨Try.f247.name, by decide, Try.func247.trans (congrArg some (by kernel_rfl))⟩
  f12 := ⟨Try.f248.name, by decide, Try.func248.trans (congrArg some (by kernel_rfl))⟩
  f13 := ⟨Try.f249.name, by decide, Try.func249.trans (congrArg some (by kernel_rfl))⟩
  f14 := ⟨Try.f250.name, by decide, Try.func250.trans (congrArg some (by kernel_rfl))⟩
  f15 := ⟨Try.f251.name, by decide, Try.func251.trans (congrArg some (by kernel_rfl))⟩
  f16 := ⟨Try.f252.name, by decide, Try.func252.trans (congrArg some (by kernel_rfl))⟩
  f17 := ⟨Try.f253.name, by decide, Try.func253.trans (congrArg some (by kernel_rfl))⟩
  f18 := ⟨Try.f254.name, by decide, Try.func254.trans (congrArg some (by kernel_rfl))⟩
  f19 := Try.func238.trans (congrArg some (by kernel_rfl))
  f20 := Try.func239.trans (congrArg some (by kernel_rfl))
  f30 := ⟨Try.f264.name, by decide, Try.func264.trans (congrArg some (by kernel_rfl))⟩
  f31 := Try.func256.trans (congrArg some (by kernel_rfl))
  f32 := Try.func257.trans (congrArg some (by kernel_rfl))
  f33 := ⟨Try.f265.name, by decide, Try.func265.trans (congrArg some (by kernel_rfl))⟩
  f34 := ⟨Try.f266.name, by decide, Try.func266.trans (congrArg some (by kernel_rfl))⟩
  f35 := ⟨Try.f207.name, by decide, Try.func207.trans (congrArg some (by kernel_rfl))⟩
  f40 := ⟨Try.f269.name, by decide, Try.func269.trans (congrArg some (by kernel_rfl))⟩
  t0 := Try.underlying0
  a0 := Try.isAgg0
  z0 := Try.sizeOf0
  v0 := Try.zeroValue0
  t3 := Try.underlying3
  a3 := Try.isAgg3
  z3 := Try.sizeOf3
  v3 := Try.zeroValue3
  t4 := Try.underlying4
  a4 := Try.isAgg4
  z4 := Try.sizeOf4
  v4 := Try.zeroValue4
  t5 := Try.underlying5
  a5 := Try.isAgg5
  z5 := Try.sizeOf5
  v5 := Try.zeroValue5
  t9 := Try.underlying9
  a9 := Try.isAgg9
  z9 := Try.sizeOf9
  v9 := Try.zeroValue9
  t22 := Try.underlying38
  a22 := Try.isAgg38
  z22 := Try.sizeOf38
  v22 := Try.zeroValue38
  t23 := Try.underlying38
  a23 := Try.isAgg38
  z23 := Try.sizeOf38
  v23 := Try.zeroValue38
  t25 := Try.underlying2
  a25 := Try.isAgg2
  z25 := Try.sizeOf2
  v25 := Try.zeroValue2
  t32 := Try.underlying183
  a32 := Try.isAgg183
  z32 := Try.sizeOf183
  v32 := Try.zeroValue183
  t35 := Try.underlying197
  a35 := Try.isAgg197
  z35 := Try.sizeOf197
  v35 := Try.zeroValue197
  t36 := Try.underlying198
  a36 := Try.isAgg198
  z36 := Try.sizeOf198
  v36 := Try.zeroValue198
  t41 := Try.underlying202
  a41 := Try.isAgg202
  z41 := Try.sizeOf202
  v41 := Try.zeroValue202
  t44 := Try.underlying205
  a44 := Try.isAgg205
  z44 := Try.sizeOf205
  v44 := Try.zeroValue205
  t46 := Try.underlying159
  a46 := Try.isAgg159
  z46 := Try.sizeOf159
  v46 := Try.zeroValue159
  t53 := Try.underlying217
  a53 := Try.isAgg217
  z53 := Try.sizeOf217
  v53 := Try.zeroValue217
  t57 := Try.underlying221
  a57 := Try.isAgg221
  z57 := Try.sizeOf221
  v57 := Try.zeroValue221
  t63 := Try.underlying227
  a63 := Try.isAgg227
  z63 := Try.sizeOf227
  v63 := Try.zeroValue227
  t64 := Try.underlying228
  a64 := Try.isAgg228
  z64 := Try.sizeOf228
  v64 := Try.zeroValue228 }

theorem sortsAt : SortsAt := ⟨fun blk off cap zs w hH hb hs => AnyM.slices_Sort_int sortLy blk off cap zs w hH hb hs, fun p cap w => AnyM.slices_Sort_int_none sortLy p cap w⟩

theorem sorted_c (b : Nat) (v : Value) (y : List Int) (H : AH) (hb : H.row b = some ⟨38, true, [v]⟩) (hv : Rd 1 H v y.length y) (hy : y.length ≤ 4294967296) :
    ACalls Try.prog 172 [.func (.func 210) #[] #[.pointer (some ⟨b, 0, none⟩)]] H (fun u H' => Up H.next H H' ∧ Fr 1 2 H.next H'.next H' u y.length (sortedL y)) := by
  refine ⟨by kernel_rfl, fun base ρ w args' R hL => ?_⟩
  obtain ⟨hl, hx⟩ := hL
  match args', hl, hx with
  | [a], _, hx =>
    obtain ⟨_, ys, e1, e2, e3⟩ := VR.func (hx 0 _ _ rfl rfl)
    have hp : ys = #[.pointer (some ⟨ρ b, 0, none⟩)] := by
      rcases ys with ⟨zs⟩
      match zs, e2, e3 with
      | [z], _, e3 =>
        have := VR.ptr (.one (e3 0 _ _ rfl rfl))
        have h : z = .pointer (some ⟨ρ b, 0, none⟩) := this.2.2
        subst h; rfl
    rw [e1, hp]
    obtain ⟨sv, hc, hsv⟩ := R.cell (i := b) (j := 0) hb rfl (.inl rfl)
    have hI : IntsAt w.heap.size w sv y := by
      rcases Rd.cellsAt R hv (.one hsv) with ⟨a, c, h1, h2⟩ | ⟨b', o, c, h1, h2, h3⟩
      · exact .inl ⟨a, c, h1, h2⟩
      · exact .inr ⟨b', o, c, h1, h2, h3⟩
    have hsl : (sortedL y).length = y.length := by simp [sortedL]
    refine (sorted_in sortsAt (ρ b) sv y (Nat.le_trans hy (by decide)) (by omega) w (World.block_lt_of_cell? w _ hc) hc hI).mono ?_
    rintro e w' ⟨v', rfl, hrow, _, hB⟩
    rw [← hsl] at hrow ⊢
    obtain ⟨u, H', ρ', h1, h2, h3, h4, h5⟩ := R.newInts hB hrow
    exact ⟨v', u, H', ρ', rfl, ⟨h1, h2⟩, h3, h4, h5⟩
end Go.Proofs.Ytgkmdfjjlghecaa.A
end

section
set_option linter.unusedSimpArgs false
set_option linter.unusedVariables false
namespace Go.Abs

def sqE (n i : Nat) (y : List Int) (j : Nat) : Int := Int.tmod ((i : Int) + y.getD j 0) n
def sqR (n : Nat) (y : List Int) (i c : Nat) : List Int := (List.range n).map fun j => if j < c then sqE n i y j else 0
def sqM (n : Nat) (y : List Int) (i c : Nat) : List (List Int) := (List.range n).map fun a => if a < i then sqR n y a n else if a = i then sqR n y a c else List.replicate n 0
theorem sqR_length (n : Nat) (y : List Int) (i c : Nat) : (sqR n y i c).length = n := by simp [sqR]
theorem sqM_length (n : Nat) (y : List Int) (i c : Nat) : (sqM n y i c).length = n := by simp [sqM]
def sqA (n : Nat) (y : List Int) (a : Nat) : List (List Int) := (List.range a).map fun i => sqR n y i n
def sqP (n : Nat) (y : List Int) (i c : Nat) : List Int := (List.range c).map fun j => sqE n i y j
theorem sqA_length (n : Nat) (y : List Int) (a : Nat) : (sqA n y a).length = a := by simp [sqA]
theorem sqP_length (n : Nat) (y : List Int) (i c : Nat) : (sqP n y i c).length = c := by simp [sqP]
end Go.Abs
end

section
set_option linter.unusedSimpArgs false
set_option linter.unusedVariables false
namespace Go.Abs
open Go Go.RowKit

def bools (l : List Bool) : List Value := l.map .bool
theorem bools_length (l : List Bool) : (bools l).length = l.length := by simp [bools]
theorem bools_get? (l : List Bool) (i : Nat) (h : i < l.length) : (bools l)[i]? = some (.bool (l.getD i false)) := by simp [bools, h]
theorem bools_set (l : List Bool) (i : Nat) (x : Bool) : (bools l).set i (.bool x) = bools (l.set i x) := by simp [bools, List.map_set]
theorem zeros_bools (n : Nat) : zeros n [.bool false] = bools (List.replicate n false) := by
  unfold zeros bools
  induction n with
  | zero => rfl
  | succ n ih => rw [List.replicate_succ, List.flatten_cons, ih, List.replicate_succ]; rfl
theorem metL_get? (n : Nat) (y : List Int) (x : Int) (h : 0 ≤ x ∧ x < n) : (bools (metL n y))[x.toNat]? = some (.bool (y.contains x)) := by
  rw [bools_get? _ _ (by rw [metL_length]; omega), metL_getD n y x h]
theorem metL_put (n : Nat) (y : List Int) (x : Int) (h : 0 ≤ x ∧ x < n) : (bools (metL n y)).set x.toNat (.bool true) = bools (metL n (y ++ [x])) := by
  rw [bools_set, metL_set n y x h]
end Go.Abs
end

section
set_option linter.unusedSimpArgs false
set_option linter.unusedVariables false
set_option maxRecDepth 100000
set_option maxHeartbeats 2000000
namespace Go.Proofs.Ytgkmdfjjlghecaa.A
open Go Go.Abs Go.RowKit

theorem evo_nilF (t : T) : evo t (.const .nilFunc) = some .nilFunc := (rfl)
theorem values_c (v : Value) (H : AH) (ho : v.oneCell' = true) :
    ACalls Try.prog 173 [v] H (is (.func (.func 210) #[] #[.pointer (some ⟨H.next, 0, none⟩)]) (H.push ⟨38, true, [v]⟩)) := by
  refine acalls_of_awp [.tmp 2] Try.func173 (by kernel_rfl) rfl rfl (Nat.le_of_ble_eq_true rfl) (by kernel_rfl) ?_
  try simp (disch := first | omega | (simp only [ints_length, List.length_replicate, List.length_set, sortedL_length, bools_length, metL_length] <;> omega)) only [Sall,evalOp,init,binE,binI,unE,convE,okNil,builtE,gv,TD.isAgg,resV,↓reduceIte,Nat.reduceEqDiff,reduceCtorEq,Nat.reduceAdd,Nat.reduceMul,Nat.reduceLeDiff,quietOp,blindOp,Int.reduceEq,Int.reduceLT,Int.reduceLE,Nat.reduceLT,tiA, ho, asCells_one ho, evo_nilF, List.mem_cons, List.not_mem_nil, or_false, forall_eq_or_imp, forall_eq, Array.size_empty, is]

theorem l01Order_c (n : Nat) (hn : n ≤ 1024) (v : Value) (y : List Int) (H : AH) (hv : Rd 1 H v y.length y) (hy : y.length ≤ 4294967296) :
    ACalls Try.prog 191 [v, .int .i64 n] H (is (.bool (ordB n y)) H) := by
  refine acalls_up rfl (ACalls.wf (by kernel_rfl) fun hs => acalls_of_awp [.tmp 4] Try.func191 (by kernel_rfl) rfl rfl (Nat.le_of_ble_eq_true rfl) (by kernel_rfl) ?_)
  try simp (disch := first | omega | (simp only [ints_length, List.length_replicate, List.length_set, sortedL_length, bools_length, metL_length] <;> omega)) only [Sall,evalOp,init,binE,binI,unE,convE,okNil,builtE,gv,TD.isAgg,resV,↓reduceIte,Nat.reduceEqDiff,reduceCtorEq,Nat.reduceAdd,Nat.reduceMul,Nat.reduceLeDiff,quietOp,blindOp,Int.reduceEq,Int.reduceLT,Int.reduceLE,Nat.reduceLT,tiA, zeros_bools, ← metL_nil]
  (repeat refine And.intro (by omega) ?_)
  have hml := metL_length n []
  refine awp_loop (fun m t H' => ∃ a : Nat, m = y.length - a ∧ a ≤ y.length ∧ t 6 = .int .i64 a ∧ t 5 = .slice (some ⟨H.next, 0, some 1⟩) n n ∧ t 0 = v ∧ t 1 = .int .i64 n ∧ H.next < H'.next ∧ (∀ i, i < H.next → H'.row i = H.row i) ∧ H'.row H.next = some ⟨4, true, bools (metL n (y.take a))⟩ ∧ goodTo n y a) y.length ?_ ?_
  · refine ⟨0, by omega, by omega, ?_⟩
    try simp (disch := first | omega | (simp only [ints_length, List.length_replicate, List.length_set, sortedL_length, bools_length, metL_length] <;> omega)) only [Sall,evalOp,init,binE,binI,unE,convE,okNil,builtE,gv,TD.isAgg,resV,↓reduceIte,Nat.reduceEqDiff,reduceCtorEq,Nat.reduceAdd,Nat.reduceMul,Nat.reduceLeDiff,quietOp,blindOp,Int.reduceEq,Int.reduceLT,Int.reduceLE,Nat.reduceLT,tiA, Int.natCast_zero, List.take_zero]
    refine ⟨by omega, fun i hi => by rw [if_neg (by omega)], goodTo_zero n y⟩
  · rintro m t H' ⟨a, hm, han, h6, h5, h0, h1, hnx, hrows, hrow, hgood⟩
    have hv' : Rd 1 H' v y.length y := hv.same fun i r hr => by rw [hrows i (hs _ _ hr)]; exact hr
    have up : Up H.next H H' := ⟨by omega, hrows⟩
    try simp (disch := first | omega | (simp only [ints_length, List.length_replicate, List.length_set, sortedL_length, bools_length, metL_length] <;> omega)) only [Sall,evalOp,init,binE,binI,unE,convE,okNil,builtE,gv,TD.isAgg,resV,↓reduceIte,Nat.reduceEqDiff,reduceCtorEq,Nat.reduceAdd,Nat.reduceMul,Nat.reduceLeDiff,quietOp,blindOp,Int.reduceEq,Int.reduceLT,Int.reduceLE,Nat.reduceLT,tiA, h6, h0, builtE, hv'.len]
    refine condC_dec (fun h => ?_) (fun h => ?_)
    · obtain ⟨i, o, uu, cc, r, rfl, hr, hc, hg, _⟩ := hv'.get (by omega)
      have g1 := hg a (by omega)
      obtain ⟨x, hx⟩ : ∃ x, x = y.getD a 0 := ⟨_, rfl⟩
      rw [← hx] at g1
      by_cases hin : 0 ≤ x ∧ x ≤ (n : Int) - 1
      · have hin' : 0 ≤ x ∧ x < (n : Int) := by omega
        have g2 := metL_get? n (y.take a) x hin'
        have g3 := metL_put n (y.take a) x hin'
        try simp (disch := first | omega | (simp only [ints_length, List.length_replicate, List.length_set, sortedL_length, bools_length, metL_length] <;> omega)) only [Sall,evalOp,init,binE,binI,unE,convE,okNil,builtE,gv,TD.isAgg,resV,↓reduceIte,Nat.reduceEqDiff,reduceCtorEq,Nat.reduceAdd,Nat.reduceMul,Nat.reduceLeDiff,quietOp,blindOp,Int.reduceEq,Int.reduceLT,Int.reduceLE,Nat.reduceLT,tiA, h6, h0, h1, hr, g1, w64]
        (repeat refine And.intro (by omega) ?_)
        refine (l01In_c _ _ _ _).to ?_
        rw [decide_eq_true hin]
        cases hct : (y.take a).contains x with
        | true =>
          rw [hct] at g2
          try simp (disch := first | omega | (simp only [ints_length, List.length_replicate, List.length_set, sortedL_length, bools_length, metL_length] <;> omega)) only [Sall,evalOp,init,binE,binI,unE,convE,okNil,builtE,gv,TD.isAgg,resV,↓reduceIte,Nat.reduceEqDiff,reduceCtorEq,Nat.reduceAdd,Nat.reduceMul,Nat.reduceLeDiff,quietOp,blindOp,Int.reduceEq,Int.reduceLT,Int.reduceLE,Nat.reduceLT,tiA, Bool.not_true, h6, h5, h0, h1, hr, g1, hrow, g2, w64]
          (repeat refine And.intro (by omega) ?_)
          rw [ordB_bad (i := a) (by omega) (.inr (by rw [← hx]; exact hct))]
          exact ⟨rfl, up⟩
        | false =>
          rw [hct] at g2
          have ne : ¬ i = H.next := by
            rintro rfl
            rw [hrow] at hr
            cases hr
            rcases hv.2 with ⟨h9, _⟩ | ⟨i9, o9, u9, c9, r9, e9, hr9, _⟩
            · omega
            · cases e9
              have := hs _ _ hr9
              omega
          try simp (disch := first | omega | (simp only [ints_length, List.length_replicate, List.length_set, sortedL_length, bools_length, metL_length] <;> omega)) only [Sall,evalOp,init,binE,binI,unE,convE,okNil,builtE,gv,TD.isAgg,resV,↓reduceIte,Nat.reduceEqDiff,reduceCtorEq,Nat.reduceAdd,Nat.reduceMul,Nat.reduceLeDiff,quietOp,blindOp,Int.reduceEq,Int.reduceLT,Int.reduceLE,Nat.reduceLT,tiA, Bool.not_true, h6, h5, h0, h1, hr, g1, hrow, g2, g3, ne, w64]
          (repeat refine And.intro (by omega) ?_)
          refine ⟨by rw [bools_length, metL_length]; omega, y.length - (a + 1), by omega, a + 1, rfl, by omega, rfl, hnx, fun i hi => by rw [if_neg (by omega)]; exact hrows i hi, by rw [take_snoc y 0 a (by omega), ← hx], goodTo_succ (by omega) hgood (by rw [← hx]; exact hin') (by rw [← hx]; exact hct)⟩
      · try simp (disch := first | omega | (simp only [ints_length, List.length_replicate, List.length_set, sortedL_length, bools_length, metL_length] <;> omega)) only [Sall,evalOp,init,binE,binI,unE,convE,okNil,builtE,gv,TD.isAgg,resV,↓reduceIte,Nat.reduceEqDiff,reduceCtorEq,Nat.reduceAdd,Nat.reduceMul,Nat.reduceLeDiff,quietOp,blindOp,Int.reduceEq,Int.reduceLT,Int.reduceLE,Nat.reduceLT,tiA, h6, h0, h1, hr, g1, w64]
        (repeat refine And.intro (by omega) ?_)
        refine (l01In_c _ _ _ _).to ?_
        rw [decide_eq_false hin]
        try simp (disch := first | omega | (simp only [ints_length, List.length_replicate, List.length_set, sortedL_length, bools_length, metL_length] <;> omega)) only [Sall,evalOp,init,binE,binI,unE,convE,okNil,builtE,gv,TD.isAgg,resV,↓reduceIte,Nat.reduceEqDiff,reduceCtorEq,Nat.reduceAdd,Nat.reduceMul,Nat.reduceLeDiff,quietOp,blindOp,Int.reduceEq,Int.reduceLT,Int.reduceLE,Nat.reduceLT,tiA, Bool.not_false]
        rw [ordB_bad (i := a) (by omega) (.inl (by rw [← hx]; omega))]
        exact ⟨rfl, up⟩
    · have ha : a = y.length := by omega
      subst ha
      try simp (disch := first | omega | (simp only [ints_length, List.length_replicate, List.length_set, sortedL_length, bools_length, metL_length] <;> omega)) only [Sall,evalOp,init,binE,binI,unE,convE,okNil,builtE,gv,TD.isAgg,resV,↓reduceIte,Nat.reduceEqDiff,reduceCtorEq,Nat.reduceAdd,Nat.reduceMul,Nat.reduceLeDiff,quietOp,blindOp,Int.reduceEq,Int.reduceLT,Int.reduceLE,Nat.reduceLT,tiA, h0, h1, builtE, hv'.len]
      rw [goodTo_all hgood]
      refine ⟨?_, up⟩
      by_cases e : y.length = n
      · rw [decide_eq_true e, e]; simp
      · rw [decide_eq_false e]; simp; omega

end Go.Proofs.Ytgkmdfjjlghecaa.A
end

section
set_option linter.unusedSimpArgs false
set_option linter.unusedVariables false
namespace Go.Abs

def colL (ll : List (List Int)) (i c : Nat) : List Int := (List.range c).map fun k => (ll.getD k []).getD i 0
theorem colL_length (ll : List (List Int)) (i c : Nat) : (colL ll i c).length = c := by simp [colL]
end Go.Abs
end

section
set_option linter.unusedSimpArgs false
set_option linter.unusedVariables false
set_option maxRecDepth 100000
set_option maxHeartbeats 2000000
namespace Go.Proofs.Ytgkmdfjjlghecaa.A
open Go Go.Abs Go.RowKit

theorem indexFuncLL_c (g : FuncId) (cap : List Value) (p : List Int → Bool) (x : Value) (ll : List (List Int)) (H : AH) (hx : Rd2 1 H x ll) (hl : ll.length ≤ 4294967296)
    (hp : ∀ (y : Value) (r : List Int), r ∈ ll → Rd 1 H y r.length r → ACalls Try.prog g (y :: cap) H (is (.bool (p r)) H)) :
    ACalls Try.prog 186 [x, .func (.func g) #[] cap.toArray] H (is (.int .i64 (firstI (fun i => p (ll.getD i [])) ll.length)) H) := by
  refine acalls_of_awp [.tmp 4] Try.func186 (by kernel_rfl) rfl rfl (Nat.le_of_ble_eq_true rfl) (by kernel_rfl) ?_
  try simp (disch := first | omega | (simp only [ints_length, List.length_replicate, List.length_set, colL_length] <;> omega)) only [Sall,evalOp,init,binE,binI,unE,convE,okNil,builtE,gv,TD.isAgg,resV,↓reduceIte,Nat.reduceEqDiff,reduceCtorEq,Nat.reduceAdd,Nat.reduceMul,Nat.reduceLeDiff,quietOp,blindOp,Int.reduceEq,Int.reduceLT,Int.reduceLE,Nat.reduceLT,tiA, builtE, hx.len]
  refine awp_loop (fun m t H' => ∃ a : Nat, m = ll.length - a ∧ a ≤ ll.length ∧ t 8 = .int .i64 a ∧ t 7 = .int .i64 ll.length ∧ t 0 = x ∧ t 1 = .func (.func g) #[] cap.toArray ∧ H' = H ∧ (∀ i, i < a → p (ll.getD i []) = false)) ll.length ?_ ?_
  · refine ⟨0, by omega, by omega, ?_⟩
    try simp (disch := first | omega | (simp only [ints_length, List.length_replicate, List.length_set, colL_length] <;> omega)) only [Sall,evalOp,init,binE,binI,unE,convE,okNil,builtE,gv,TD.isAgg,resV,↓reduceIte,Nat.reduceEqDiff,reduceCtorEq,Nat.reduceAdd,Nat.reduceMul,Nat.reduceLeDiff,quietOp,blindOp,Int.reduceEq,Int.reduceLT,Int.reduceLE,Nat.reduceLT,tiA, Int.natCast_zero, Nat.not_lt_zero, false_implies]
  · rintro m t H' ⟨a, hm, h14, h8, h7, h0, h1, rfl, hall⟩
    try simp (disch := first | omega | (simp only [ints_length, List.length_replicate, List.length_set, colL_length] <;> omega)) only [Sall,evalOp,init,binE,binI,unE,convE,okNil,builtE,gv,TD.isAgg,resV,↓reduceIte,Nat.reduceEqDiff,reduceCtorEq,Nat.reduceAdd,Nat.reduceMul,Nat.reduceLeDiff,quietOp,blindOp,Int.reduceEq,Int.reduceLT,Int.reduceLE,Nat.reduceLT,tiA, h8, h7]
    refine condC_dec (fun h => ?_) (fun h => ?_)
    · obtain ⟨i, o, u, c, r, y, my, rfl, hr, hy, hsx, hok⟩ := hx.get (j := a) (by omega)
      have hmm := hsx.lenK1
      rw [hmm] at hsx
      try simp (disch := first | omega | (simp only [ints_length, List.length_replicate, List.length_set, colL_length] <;> omega)) only [Sall,evalOp,init,binE,binI,unE,convE,okNil,builtE,gv,TD.isAgg,resV,↓reduceIte,Nat.reduceEqDiff,reduceCtorEq,Nat.reduceAdd,Nat.reduceMul,Nat.reduceLeDiff,quietOp,blindOp,Int.reduceEq,Int.reduceLT,Int.reduceLE,Nat.reduceLT,tiA, h8, h7, h0, h1, hr, hy, hok]
      (repeat refine And.intro (by omega) ?_)
      refine (hp y _ (getD_mem (ll := ll) (a := a) (by omega)) hsx).to ?_
      cases hb : p (ll.getD a []) with
      | true =>
        try simp (disch := first | omega | (simp only [ints_length, List.length_replicate, List.length_set, colL_length] <;> omega)) only [Sall,evalOp,init,binE,binI,unE,convE,okNil,builtE,gv,TD.isAgg,resV,↓reduceIte,Nat.reduceEqDiff,reduceCtorEq,Nat.reduceAdd,Nat.reduceMul,Nat.reduceLeDiff,quietOp,blindOp,Int.reduceEq,Int.reduceLT,Int.reduceLE,Nat.reduceLT,tiA, h8, h7, h0, h1, is]
        rw [firstI_at (p := fun i => p (ll.getD i [])) (by omega) hb hall]
      | false =>
        try simp (disch := first | omega | (simp only [ints_length, List.length_replicate, List.length_set, colL_length] <;> omega)) only [Sall,evalOp,init,binE,binI,unE,convE,okNil,builtE,gv,TD.isAgg,resV,↓reduceIte,Nat.reduceEqDiff,reduceCtorEq,Nat.reduceAdd,Nat.reduceMul,Nat.reduceLeDiff,quietOp,blindOp,Int.reduceEq,Int.reduceLT,Int.reduceLE,Nat.reduceLT,tiA, h8, h7, h0, h1, w64]
        refine ⟨ll.length - (a + 1), by omega, a + 1, rfl, by omega, by omega, fun x hx => ?_⟩
        by_cases e : x = a
        · rw [e]; exact hb
        · exact hall x (by omega)
    · try simp (disch := first | omega | (simp only [ints_length, List.length_replicate, List.length_set, colL_length] <;> omega)) only [Sall,evalOp,init,binE,binI,unE,convE,okNil,builtE,gv,TD.isAgg,resV,↓reduceIte,Nat.reduceEqDiff,reduceCtorEq,Nat.reduceAdd,Nat.reduceMul,Nat.reduceLeDiff,quietOp,blindOp,Int.reduceEq,Int.reduceLT,Int.reduceLE,Nat.reduceLT,tiA, is]
      rw [firstI_none (p := fun i => p (ll.getD i [])) fun x hx => hall x (by omega)]

theorem containsFuncLL_c (g : FuncId) (cap : List Value) (p : List Int → Bool) (x : Value) (ll : List (List Int)) (H : AH) (hx : Rd2 1 H x ll) (hl : ll.length ≤ 4294967296)
    (hp : ∀ (y : Value) (r : List Int), r ∈ ll → Rd 1 H y r.length r → ACalls Try.prog g (y :: cap) H (is (.bool (p r)) H)) :
    ACalls Try.prog 124 [x, .func (.func g) #[] cap.toArray] H (is (.bool ((List.range ll.length).any fun i => p (ll.getD i []))) H) := by
  refine acalls_of_awp [.tmp 4] Try.func124 (by kernel_rfl) rfl rfl (Nat.le_of_ble_eq_true rfl) (by kernel_rfl) ?_
  try simp (disch := first | omega | (simp only [ints_length, List.length_replicate, List.length_set, colL_length] <;> omega)) only [Sall,evalOp,init,binE,binI,unE,convE,okNil,builtE,gv,TD.isAgg,resV,↓reduceIte,Nat.reduceEqDiff,reduceCtorEq,Nat.reduceAdd,Nat.reduceMul,Nat.reduceLeDiff,quietOp,blindOp,Int.reduceEq,Int.reduceLT,Int.reduceLE,Nat.reduceLT,tiA, true_and]
  refine (indexFuncLL_c g cap p x ll H hx hl hp).to ?_
  try simp (disch := first | omega | (simp only [ints_length, List.length_replicate, List.length_set, colL_length] <;> omega)) only [Sall,evalOp,init,binE,binI,unE,convE,okNil,builtE,gv,TD.isAgg,resV,↓reduceIte,Nat.reduceEqDiff,reduceCtorEq,Nat.reduceAdd,Nat.reduceMul,Nat.reduceLeDiff,quietOp,blindOp,Int.reduceEq,Int.reduceLT,Int.reduceLE,Nat.reduceLT,tiA, is, firstI_any]

theorem sizeLL_c (x : Value) (ll : List (List Int)) (H : AH) (hx : Rd2 1 H x ll) (hl : ll.length ≤ 4294967296) : ACalls Try.prog 121 [x] H (is (.int .i64 ll.length) H) := by
  refine acalls_of_awp [.tmp 2] Try.func121 (by kernel_rfl) rfl rfl (Nat.le_of_ble_eq_true rfl) (by kernel_rfl) ?_
  try simp (disch := first | omega | (simp only [ints_length, List.length_replicate, List.length_set, colL_length] <;> omega)) only [Sall,evalOp,init,binE,binI,unE,convE,okNil,builtE,gv,TD.isAgg,resV,↓reduceIte,Nat.reduceEqDiff,reduceCtorEq,Nat.reduceAdd,Nat.reduceMul,Nat.reduceLeDiff,quietOp,blindOp,Int.reduceEq,Int.reduceLT,Int.reduceLE,Nat.reduceLT,tiA, builtE, hx.len, is]

end Go.Proofs.Ytgkmdfjjlghecaa.A
end

section
set_option linter.unusedSimpArgs false
set_option linter.unusedVariables false
namespace Go.Abs
open Go Go.RowKit

def Pt (lo hi i : Nat) (H : AH) (x : Value) (y : List Int) : Prop := ∀ H', (∀ z r, lo ≤ z → z < hi → ¬ z = i → H.row z = some r → H'.row z = some r) → Rd 1 H' x y.length y

def FrV (ty lo hi : Nat) (H : AH) (v : Value) (ll : List (List Int)) : Prop :=
  (ll = [] ∧ v = .slice none 0 0) ∨ ∃ i vs, lo ≤ i ∧ i < hi ∧ v = .slice (some ⟨i, 0, some 1⟩) ll.length ll.length ∧ H.row i = some ⟨ty, true, vs⟩ ∧ vs.length = ll.length ∧ ∀ j, j < ll.length → ∃ x, vs[j]? = some x ∧ Pt lo hi i H x (ll.getD j [])

theorem FrV.same {ty lo hi : Nat} {H H' : AH} {v : Value} {ll : List (List Int)} (h : FrV ty lo hi H v ll) (hs : ∀ i, lo ≤ i → i < hi → H'.row i = H.row i) : FrV ty lo hi H' v ll := by
  rcases h with h | ⟨i, vs, h1, h2, hv, hr, hl, hj⟩
  · exact .inl h
  · refine .inr ⟨i, vs, h1, h2, hv, by rw [hs i h1 h2]; exact hr, hl, fun j hjl => ?_⟩
    obtain ⟨x, hx, hp⟩ := hj j hjl
    exact ⟨x, hx, fun H2 h2 => hp H2 fun z r z1 z2 z3 hz => h2 z r z1 z2 z3 (by rw [hs z z1 z2]; exact hz)⟩
theorem FrV.wide {ty lo hi lo' hi' : Nat} {H : AH} {v : Value} {ll : List (List Int)} (h : FrV ty lo hi H v ll) (a : lo' ≤ lo) (c : hi ≤ hi') : FrV ty lo' hi' H v ll := by
  rcases h with h | ⟨i, vs, h1, h2, hv, hr, hl, hj⟩
  · exact .inl h
  · refine .inr ⟨i, vs, by omega, by omega, hv, hr, hl, fun j hjl => ?_⟩
    obtain ⟨x, hx, hp⟩ := hj j hjl
    exact ⟨x, hx, fun H2 h2 => hp H2 fun z r z1 z2 z3 hz => h2 z r (by omega) (by omega) z3 hz⟩
theorem FrV.rd {ty lo hi : Nat} {H : AH} {v : Value} {ll : List (List Int)} (h : FrV ty lo hi H v ll) : Rd2 1 H v ll := by
  rcases h with ⟨h1, h2⟩ | ⟨i, vs, h1, h2, rfl, hr, hl, hj⟩
  · exact .inl ⟨h1, none, 0, h2, fun _ => rfl⟩
  · refine .inr ⟨i, 0, some 1, _, _, rfl, hr, fun j hjl => ?_⟩
    obtain ⟨x, hx, hp⟩ := hj j hjl
    exact ⟨x, _, by simpa using hx, hp H fun _ _ _ _ _ h => h⟩
theorem cells_of_one {v : Value} (h : v.oneCell' = true) : v.cells = #[v] := by
  cases v <;> first | rfl | (simp [Value.oneCell'] at h)
theorem noTuple_of_one {v : Value} (h : v.oneCell' = true) : noTuple v = true := by
  cases v <;> first | rfl | (simp [Value.oneCell'] at h)
end Go.Abs
end

section
set_option linter.unusedSimpArgs false
set_option linter.unusedVariables false
set_option maxRecDepth 100000
set_option maxHeartbeats 2000000
namespace Go.Proofs.Ytgkmdfjjlghecaa.A
open Go Go.Abs Go.RowKit

end Go.Proofs.Ytgkmdfjjlghecaa.A
end

section
set_option linter.unusedSimpArgs false
set_option linter.unusedVariables false
namespace Go.Abs

theorem compact_len (z : List Int) (hz : z.Pairwise (fun x y => x ≤ y)) : (Go.Lib.compact z).length = z.length ↔ z.Nodup := by
  have e : (Go.Lib.compact z).length = ((List.range z.length).filter (Go.Lib.keeps z.toArray)).length := by
    unfold Go.Lib.compact Go.Lib.compactUpTo
    rw [List.length_map]
  have e2 : (Go.Lib.compact z).length = z.length ↔ ∀ j ∈ List.range z.length, Go.Lib.keeps z.toArray j = true := by
    rw [e]
    have := List.length_filter_eq_length_iff (p := Go.Lib.keeps z.toArray) (l := List.range z.length)
    rw [List.length_range] at this
    exact this
  rw [e2]
  have kp : ∀ j (h : j + 1 < z.length), Go.Lib.keeps z.toArray (j + 1) = true ↔ z[j + 1] ≠ z[j] := by
    intro j h
    unfold Go.Lib.keeps
    have h1 : z.toArray[j + 1]! = z[j + 1] := by rw [getElem!_pos _ _ (by simpa using h)]; simp
    have h2 : z.toArray[j]! = z[j] := by rw [getElem!_pos _ _ (by simp; omega)]; simp
    simp only [Nat.add_sub_cancel, h1, h2]
    simp
  constructor
  · intro h
    have hlt : z.Pairwise (fun x y => x < y) := by
      rw [List.pairwise_iff_getElem] at hz ⊢
      intro i j hi hj hij
      have h1 := (kp i (by omega)).1 (h (i + 1) (by simp; omega))
      have h2 := hz i (i + 1) hi (by omega) (by omega)
      by_cases e : i + 1 = j
      · subst e; omega
      · have h3 := hz (i + 1) j (by omega) hj (by omega)
        omega
    exact hlt.imp (by intro x y h; omega)
  · intro h j hj
    have hj' : j < z.length := by simpa using hj
    cases j with
    | zero => simp [Go.Lib.keeps]
    | succ j =>
      rw [kp j hj']
      intro e
      have := (List.getElem_inj h).1 e
      omega
theorem compact_sorted (y : List Int) : (((Go.Lib.compact (sortedL y)).length : Int) == (y.length : Int)) = decide y.Nodup := by
  rw [Bool.eq_iff_iff, beq_iff_eq, decide_eq_true_iff]
  have h := compact_len (sortedL y) (sortedL_sorted y)
  rw [sortedL_length, (sortedL_perm y).nodup_iff] at h
  rw [← h]
  omega
end Go.Abs
end

section
set_option linter.unusedSimpArgs false
set_option linter.unusedVariables false
namespace Go.Abs

def ixN (m a b : Nat) : Int := ((a * m + b : Nat) : Int)
theorem ix_inj {m a b c d : Nat} (hb : b < m) (hd : d < m) (h : ixN m a b = ixN m c d) : a = c ∧ b = d := by
  have h0 : a * m + b = c * m + d := by unfold ixN at h; omega
  have h1 : (a * m + b) / m = (c * m + d) / m := by rw [h0]
  rw [Nat.mul_comm a, Nat.mul_comm c, Nat.mul_add_div (by omega), Nat.mul_add_div (by omega), Nat.div_eq_of_lt hb, Nat.div_eq_of_lt hd] at h1
  have e : a = c := by omega
  subst e
  exact ⟨rfl, by omega⟩
def cntMx (m : Nat) (I : List Int) : List (List Int) := (List.range m).map fun a => (List.range m).map fun b => ((I.count (ixN m a b) : Nat) : Int)
theorem cntMx_sq (m : Nat) (I : List Int) : SqM m (cntMx m I) := by
  refine ⟨by simp [cntMx], fun j hj => ?_⟩
  unfold cntMx
  rw [List.getD_eq_getElem?_getD, List.getElem?_map, List.getElem?_range hj]
  simp
theorem cntMx_nil (m : Nat) : cntMx m [] = zeroM m := by
  unfold cntMx zeroM
  refine List.eq_replicate_iff.2 ⟨by simp, fun r hr => ?_⟩
  obtain ⟨a, _, rfl⟩ := List.mem_map.1 hr
  exact List.eq_replicate_iff.2 ⟨by simp, by intro b hb; obtain ⟨c, _, rfl⟩ := List.mem_map.1 hb; rfl⟩
theorem cntMx_row (m : Nat) (I : List Int) (a : Nat) (ha : a < m) : (cntMx m I).getD a [] = (List.range m).map fun b => ((I.count (ixN m a b) : Nat) : Int) := by
  unfold cntMx
  rw [List.getD_eq_getElem?_getD, List.getElem?_map, List.getElem?_range ha]
  rfl
theorem cntMx_at (m : Nat) (I : List Int) (a b : Nat) (ha : a < m) (hb : b < m) : ((cntMx m I).getD a []).getD b 0 = ((I.count (ixN m a b) : Nat) : Int) := by
  rw [cntMx_row m I a ha, List.getD_eq_getElem?_getD, List.getElem?_map, List.getElem?_range hb]
  rfl
theorem cntMx_inc (m : Nat) (I : List Int) (x y : Nat) (hx : x < m) (hy : y < m) (hI : I.length ≤ 1000000) : incM (cntMx m I) x y = cntMx m (I ++ [ixN m x y]) := by
  have hsq := cntMx_sq m I
  unfold incM
  rw [Int.toNat_natCast]
  apply List.ext_getElem?
  intro a
  rw [List.getElem?_set, hsq.1]
  by_cases ha : a < m
  · have e1 : (cntMx m (I ++ [ixN m x y]))[a]? = some ((List.range m).map fun b => (((I ++ [ixN m x y]).count (ixN m a b) : Nat) : Int)) := by
      unfold cntMx; rw [List.getElem?_map, List.getElem?_range ha]; rfl
    have e2 : (cntMx m I)[a]? = some ((List.range m).map fun b => ((I.count (ixN m a b) : Nat) : Int)) := by
      unfold cntMx; rw [List.getElem?_map, List.getElem?_range ha]; rfl
    rw [e1]
    by_cases e : x = a
    · subst e
      rw [if_pos rfl, if_pos hx, cntMx_row m I x hx]
      congr 1
      unfold incR
      rw [Int.toNat_natCast]
      apply List.ext_getElem?
      intro b
      rw [List.getElem?_set, List.length_map, List.length_range, List.getElem?_map, List.getElem?_map]
      by_cases hb : b < m
      · rw [List.getElem?_range hb]
        simp only [Option.map_some]
        rw [List.count_append, List.count_singleton]
        by_cases e3 : y = b
        · subst e3
          rw [if_pos rfl, if_pos hy, List.getD_eq_getElem?_getD, List.getElem?_map, List.getElem?_range hy]
          simp only [Option.map_some, Option.getD_some, beq_self_eq_true, if_true]
          have hc := List.count_le_length (a := ixN m x y) (l := I)
          have w : IntKind.i64.wrap (((I.count (ixN m x y) : Nat) : Int) + 1) = ((I.count (ixN m x y) : Nat) : Int) + 1 := w64 (by omega)
          rw [w]; congr 1
        · rw [if_neg e3]
          have : (ixN m x y == ixN m x b) = false := by
            rw [beq_eq_false_iff_ne]; intro h; exact e3 (ix_inj hy hb h).2
          rw [this]; simp
      · rw [if_neg (by omega), List.getElem?_eq_none (by simpa using hb)]; rfl
    · rw [if_neg e, e2]
      congr 1
      apply List.map_congr_left
      intro b hb
      have hb' : b < m := by simpa using hb
      rw [List.count_append, List.count_singleton]
      have : (ixN m x y == ixN m a b) = false := by
        rw [beq_eq_false_iff_ne]; intro h; exact e (ix_inj hy hb' h).1
      rw [this]; simp
  · rw [if_neg (by omega), List.getElem?_eq_none (by rw [hsq.1]; omega), List.getElem?_eq_none (by rw [(cntMx_sq m _).1]; omega)]

/-! ### Neighbours -/
end Go.Abs
end

section
set_option linter.unusedSimpArgs false
set_option linter.unusedVariables false
namespace Go.Abs

theorem getD_mem2 {α : Type} (y : List (α × α)) (i : Nat) (hi : i < y.length) {d : α × α} : y.getD i d ∈ y := by
  rw [List.getD_eq_getElem?_getD, List.getElem?_eq_getElem hi]; exact List.getElem_mem _
/-! ### Tables -/
def qd (l : List Int) (t j : Nat) : Nat := (l.getD (4 * t + j) 0).toNat
def evW (n : Nat) (q : Nat → Nat) (ws : List (Nat × Nat)) : List Int := ws.flatMap fun w => [ixN n (q w.1) (q w.2), ixN n (q w.2) (q w.1)]
def evR (n : Nat) (ws : List (Nat × Nat)) (l : List Int) (c : Nat) : List Int := (List.range c).flatMap fun t => evW n (qd l t) ws
def evA (n : Nat) (ws : List (Nat × Nat)) (R : List (List Int)) (k : Nat) : List Int := (List.range k).flatMap fun i => evR n ws (R.getD i []) ((R.getD i []).length / 4)
def tabM (n : Nat) (ws : List (Nat × Nat)) (R : List (List Int)) : List (List Int) := cntMx n (evA n ws R R.length)
theorem evW_snoc (n : Nat) (q : Nat → Nat) (ws : List (Nat × Nat)) (w : Nat × Nat) : evW n q (ws ++ [w]) = evW n q ws ++ [ixN n (q w.1) (q w.2)] ++ [ixN n (q w.2) (q w.1)] := by simp [evW]
theorem evR_succ (n : Nat) (ws : List (Nat × Nat)) (l : List Int) (c : Nat) : evR n ws l (c + 1) = evR n ws l c ++ evW n (qd l c) ws := by simp [evR, List.range_succ]
theorem evA_succ (n : Nat) (ws : List (Nat × Nat)) (R : List (List Int)) (k : Nat) : evA n ws R (k + 1) = evA n ws R k ++ evR n ws (R.getD k []) ((R.getD k []).length / 4) := by simp [evA, List.range_succ]
theorem evW_length (n : Nat) (q : Nat → Nat) : ∀ (ws : List (Nat × Nat)), (evW n q ws).length = 2 * ws.length
  | [] => rfl
  | w :: ws => by
    have e : evW n q (w :: ws) = [ixN n (q w.1) (q w.2), ixN n (q w.2) (q w.1)] ++ evW n q ws := by simp [evW]
    rw [e, List.length_append, evW_length n q ws, List.length_cons, List.length_cons]
    simp
    omega
theorem evR_length (n : Nat) (ws : List (Nat × Nat)) (l : List Int) : ∀ c, (evR n ws l c).length = c * (2 * ws.length)
  | 0 => by simp [evR]
  | c + 1 => by rw [evR_succ, List.length_append, evR_length n ws l c, evW_length, Nat.add_mul c 1, Nat.one_mul]
theorem evA_length {n : Nat} {ws : List (Nat × Nat)} {R : List (List Int)} (hR : ∀ i, i < R.length → (R.getD i []).length ≤ 16) : ∀ k, k ≤ R.length → (evA n ws R k).length ≤ k * (4 * (2 * ws.length))
  | 0, _ => by simp [evA]
  | k + 1, h => by
    rw [evA_succ, List.length_append, evR_length]
    have h1 := evA_length (n := n) (ws := ws) hR k (by omega)
    have h2 := hR k (by omega)
    have h3 : (R.getD k []).length / 4 * (2 * ws.length) ≤ 4 * (2 * ws.length) := Nat.mul_le_mul_right _ (by omega)
    rw [Nat.add_mul k 1, Nat.one_mul]
    omega
def svW (n : Nat) (l : List Int) (k : Nat) (ws : List Nat) : List Int := ws.map fun w => ixN n (l.getD k 0).toNat (l.getD (k / 4 * 4 + (k % 4 ^^^ w)) 0).toNat
def svR (n : Nat) (ws : List Nat) (l : List Int) (c : Nat) : List Int := (List.range c).flatMap fun k => svW n l k ws
def svA (n : Nat) (ws : List Nat) (R : List (List Int)) (k : Nat) : List Int := (List.range k).flatMap fun i => svR n ws (R.getD i []) (R.getD i []).length
theorem svW_snoc (n : Nat) (l : List Int) (k : Nat) (ws : List Nat) (w : Nat) : svW n l k (ws ++ [w]) = svW n l k ws ++ [ixN n (l.getD k 0).toNat (l.getD (k / 4 * 4 + (k % 4 ^^^ w)) 0).toNat] := by simp [svW]
theorem svR_succ (n : Nat) (ws : List Nat) (l : List Int) (c : Nat) : svR n ws l (c + 1) = svR n ws l c ++ svW n l c ws := by simp [svR, List.range_succ]
theorem svA_succ (n : Nat) (ws : List Nat) (R : List (List Int)) (k : Nat) : svA n ws R (k + 1) = svA n ws R k ++ svR n ws (R.getD k []) (R.getD k []).length := by simp [svA, List.range_succ]
theorem svW_length (n : Nat) (l : List Int) (k : Nat) (ws : List Nat) : (svW n l k ws).length = ws.length := by simp [svW]
theorem svR_length (n : Nat) (ws : List Nat) (l : List Int) : ∀ c, (svR n ws l c).length = c * ws.length
  | 0 => by simp [svR]
  | c + 1 => by rw [svR_succ, List.length_append, svR_length n ws l c, svW_length, Nat.add_mul c 1, Nat.one_mul]
theorem svA_length {n : Nat} {ws : List Nat} {R : List (List Int)} (hR : ∀ i, i < R.length → (R.getD i []).length ≤ 16) : ∀ k, k ≤ R.length → (svA n ws R k).length ≤ k * (16 * ws.length)
  | 0, _ => by simp [svA]
  | k + 1, h => by
    rw [svA_succ, List.length_append, svR_length]
    have h1 := svA_length (n := n) (ws := ws) hR k (by omega)
    have h2 := hR k (by omega)
    have h3 : (R.getD k []).length * ws.length ≤ 16 * ws.length := Nat.mul_le_mul_right _ (by omega)
    rw [Nat.add_mul k 1, Nat.one_mul]
    omega
def wayOk (us : List Nat) (ws : List (Nat × Nat)) : Prop := ([0, 1, 2, 3].flatMap fun j => us.map fun w => (j, j ^^^ w)).Perm (ws.flatMap fun w => [(w.1, w.2), (w.2, w.1)])
theorem way1 : wayOk [1] [(0, 1), (2, 3)] := by unfold wayOk; decide
theorem way23 : wayOk [2, 3] [(0, 2), (1, 3), (0, 3), (1, 2)] := by unfold wayOk; decide
theorem way2 : wayOk [2] [(0, 2), (1, 3)] := by unfold wayOk; decide
theorem way3 : wayOk [3] [(0, 3), (1, 2)] := by unfold wayOk; decide
theorem evW_pairs (n : Nat) (q : Nat → Nat) (ws : List (Nat × Nat)) : evW n q ws = (ws.flatMap fun w => [(w.1, w.2), (w.2, w.1)]).map fun p => ixN n (q p.1) (q p.2) := by
  unfold evW
  rw [List.map_flatMap]
  rfl
theorem svW_block (n : Nat) (l : List Int) (t : Nat) (us : List Nat) : svW n l (4 * t) us ++ svW n l (4 * t + 1) us ++ svW n l (4 * t + 2) us ++ svW n l (4 * t + 3) us = ([0, 1, 2, 3].flatMap fun j => us.map fun w => (j, j ^^^ w)).map fun p => ixN n (qd l t p.1) (qd l t p.2) := by
  have h : ∀ j, j < 4 → svW n l (4 * t + j) us = (us.map fun w => (j, j ^^^ w)).map fun p => ixN n (qd l t p.1) (qd l t p.2) := by
    intro j hj
    unfold svW
    rw [List.map_map]
    apply List.map_congr_left
    intro w _
    show ixN n (l.getD (4 * t + j) 0).toNat (l.getD ((4 * t + j) / 4 * 4 + ((4 * t + j) % 4 ^^^ w)) 0).toNat = ixN n (l.getD (4 * t + j) 0).toNat (l.getD (4 * t + (j ^^^ w)) 0).toNat
    rw [show (4 * t + j) / 4 * 4 = 4 * t by omega, show (4 * t + j) % 4 = j by omega]
  have h0 := h 0 (by omega)
  rw [Nat.add_zero] at h0
  rw [h0, h 1 (by omega), h 2 (by omega), h 3 (by omega)]
  simp
theorem svR_perm {n : Nat} {us : List Nat} {ws : List (Nat × Nat)} (hw : wayOk us ws) (l : List Int) : ∀ c, (svR n us l (4 * c)).Perm (evR n ws l c)
  | 0 => by simp [svR, evR]
  | c + 1 => by
    rw [show 4 * (c + 1) = 4 * c + 1 + 1 + 1 + 1 by omega, svR_succ, svR_succ, svR_succ, svR_succ, evR_succ, evW_pairs]
    have e := svW_block n l c us
    rw [show svR n us l (4 * c) ++ svW n l (4 * c) us ++ svW n l (4 * c + 1) us ++ svW n l (4 * c + 1 + 1) us ++ svW n l (4 * c + 1 + 1 + 1) us = svR n us l (4 * c) ++ (svW n l (4 * c) us ++ svW n l (4 * c + 1) us ++ svW n l (4 * c + 2) us ++ svW n l (4 * c + 3) us) by simp, e]
    exact (svR_perm hw l c).append (hw.map _)
theorem svA_perm {n : Nat} {us : List Nat} {ws : List (Nat × Nat)} (hw : wayOk us ws) {R : List (List Int)} (hR : ∀ i, i < R.length → (R.getD i []).length % 4 = 0) : ∀ k, k ≤ R.length → (svA n us R k).Perm (evA n ws R k)
  | 0, _ => by simp [svA, evA]
  | k + 1, h => by
    rw [svA_succ, evA_succ]
    have h1 := hR k (by omega)
    have h2 := svR_perm (n := n) hw (R.getD k []) ((R.getD k []).length / 4)
    rw [show 4 * ((R.getD k []).length / 4) = (R.getD k []).length by omega] at h2
    exact (svA_perm hw hR k (by omega)).append h2
theorem cntMx_perm {m : Nat} {I J : List Int} (h : I.Perm J) : cntMx m I = cntMx m J := by
  unfold cntMx
  congr 1; funext a; congr 1; funext b
  rw [h.count_eq]
theorem svA_tab {n : Nat} {us : List Nat} {ws : List (Nat × Nat)} (hw : wayOk us ws) {R : List (List Int)} (hR : ∀ i, i < R.length → (R.getD i []).length % 4 = 0) : cntMx n (svA n us R R.length) = tabM n ws R :=
  cntMx_perm (svA_perm hw hR _ (Nat.le_refl _))
theorem tabM_sq (n : Nat) (ws : List (Nat × Nat)) (R : List (List Int)) : SqM n (tabM n ws R) := cntMx_sq _ _

/-! ### Evenings made from a base round -/
def mdX (m i : Nat) (x : Int) : Int := if x < m then (x + i) % m else x
def mdL (m i : Nat) (y : List Int) : List Int := y.map (mdX m i)
def madeL (m : Nat) (y : List Int) (k : Nat) : List (List Int) := (List.range k).map fun i => mdL m i y
theorem mdL_length (m i : Nat) (y : List Int) : (mdL m i y).length = y.length := by simp [mdL]
theorem mdL_snoc (m i : Nat) (y : List Int) (k : Nat) (hk : k < y.length) : mdL m i (y.take (k + 1)) = mdL m i (y.take k) ++ [mdX m i (y.getD k 0)] := by
  rw [take_snoc y 0 k hk]; simp [mdL]
theorem madeL_length (m : Nat) (y : List Int) (k : Nat) : (madeL m y k).length = k := by simp [madeL]
theorem madeL_succ (m : Nat) (y : List Int) (k : Nat) : madeL m y (k + 1) = madeL m y k ++ [mdL m k y] := by simp [madeL, List.range_succ]
def wP : List (Nat × Nat) := [(0, 1), (2, 3)]
def wO : List (Nat × Nat) := [(0, 2), (1, 3), (0, 3), (1, 2)]
def w1L : List (Nat × Nat) := [(0, 2), (1, 3)]
def w2L : List (Nat × Nat) := [(0, 3), (1, 2)]
def mOf (n : Nat) : Nat := n - 1 + n % 4
end Go.Abs
end

section
set_option linter.unusedSimpArgs false
set_option linter.unusedVariables false
namespace Go.Abs
open Go Go.RowKit

theorem Fr2.sameR {k ty ty' lo hi : Nat} {H H' : AH} {v : Value} {ll : List (List Int)} (h : Fr2 k ty ty' lo hi H v ll) (hs : ∀ i r, lo ≤ i → i < hi → H.row i = some r → r.ty = ty ∨ r.ty = ty' → H'.row i = some r) : Fr2 k ty ty' lo hi H' v ll := by
  rcases h with h | ⟨i, vs, b, h1, h2, hv, hr, hl, g0, gn, gi, gm, hh⟩
  · exact .inl h
  · have mono : ∀ j, b 0 ≤ b j := fun j => by
      induction j with
      | zero => exact Nat.le_refl _
      | succ j ih => exact Nat.le_trans ih (gm j)
    have mono2 : ∀ d j, b j ≤ b (j + d) := fun d => by
      induction d with
      | zero => intro j; exact Nat.le_refl _
      | succ d ih => intro j; exact Nat.le_trans (ih j) (gm (j + d))
    refine .inr ⟨i, vs, b, h1, h2, hv, hs i _ h1 h2 hr (.inl rfl), hl, g0, gn, gi, gm, fun j hj => ?_⟩
    obtain ⟨x, m, hx, hf⟩ := hh j hj
    refine ⟨x, m, hx, hf.1, ?_⟩
    rcases hf.2 with h3 | ⟨q, q1, q2, q3, q4⟩
    · exact .inl h3
    · have a1 := mono j
      have a2 := mono2 (ll.length - (j + 1)) (j + 1)
      rw [show j + 1 + (ll.length - (j + 1)) = ll.length by omega] at a2
      exact .inr ⟨q, q1, q2, q3, hs q _ (by omega) (by omega) q4 (.inr rfl)⟩
theorem appE_fr2K {P : Program} {E : TI} {k ty ty' lo hi m : Nat} {H : AH} {v x : Value} {ll : List (List Int)} {l : List Int} {K : Value → AH → Prop} (h : Fr2 k ty ty' lo hi H v ll) (hx : Fr k ty' hi H.next H x m l) (hE : E.size = 1) (hb : E.bytes ≤ 32768) (hn : ll.length + 1 ≤ 4294967296) (hlo : lo ≤ hi) (hhi : hi ≤ H.next)
    (hK : ∀ v' H', H'.next = H.next + 1 → (∀ i, ¬(lo ≤ i ∧ i < hi) → i < H.next → H'.row i = H.row i) → (∀ j r, j < H.next → H.row j = some r → r.ty ≠ ty → H'.row j = some r) → Fr2 k ty ty' lo (H.next + 1) H' v' (ll ++ [l]) → K v' H') :
    runOut P H (appE E ty v [x] 1 H) K := by
  unfold appE
  rw [if_neg (by omega)]
  refine Holds.mp ?_
  rcases h with ⟨rfl, rfl⟩ | ⟨i, vs, b, h1, h2, rfl, hr, hvl, g0, gn, gi, gm, hj⟩ <;> rw [holds_def]
  · simp only [asSl_nil, runOut_need, runOut_val, hE]
    refine ⟨⟨by omega, hb⟩, hK _ _ rfl (fun i _ hi => by rw [AH.push_row, if_neg (by omega)]) (fun j r hj hr _ => by rw [AH.push_row, if_neg (by omega)]; exact hr) (.inr ⟨H.next, [x], fun j => if j = 0 then hi else H.next, by omega, by omega, rfl, by rw [AH.push_row, if_pos rfl], rfl, ?_, ?_, .inr ?_, fun j => ?_, fun j hj => ?_⟩)⟩
    · dsimp only; rw [if_pos rfl]; exact hlo
    · dsimp only [List.nil_append, List.length_singleton]; rw [if_neg (by omega)]; omega
    · dsimp only [List.nil_append, List.length_singleton]; rw [if_neg (by omega)]; omega
    · dsimp only; split
      · rw [if_neg (by omega)]; exact hhi
      · rw [if_neg (by omega)]; omega
    · simp only [List.nil_append, List.length_singleton] at hj
      have : j = 0 := by omega
      subst this
      refine ⟨x, m, rfl, ?_⟩
      dsimp only
      rw [if_pos rfl, if_neg (by omega)]
      exact hx.same fun z _ hz => by rw [AH.push_row, if_neg (by omega)]
  · simp only [asSl_some, hr, bindO_some, runOut_need, Nat.zero_add, hE, Nat.mul_one]
    refine ⟨⟨hn, hb, by omega, .inl rfl⟩, ?_⟩
    rw [if_neg (by omega)]
    simp only [runOut_need, runOut_val]
    refine ⟨by simp, hK _ _ rfl (fun j hj hj2 => ?_) (fun j r hj hr' hne => by rw [AH.push_row, if_neg (by rw [AH.drop_next]; omega), AH.drop_row, if_neg (by rintro rfl; rw [hr] at hr'; injection hr' with e; exact hne (by rw [← e]))]; exact hr') (.inr ⟨H.next, vs ++ [x], fun j => if j < ll.length then b j else if j = ll.length then hi else H.next, by omega, by omega, ?_, ?_, ?_, ?_, ?_, .inr ?_, fun j => ?_, fun j hjl => ?_⟩)⟩
    · rw [AH.push_row, if_neg (by rw [AH.drop_next]; omega), AH.drop_row, if_neg (by omega)]
    · rw [List.length_append]; rfl
    · rw [AH.push_row, AH.drop_next, if_pos rfl, seg_all _ _ hvl.symm]
    · rw [List.length_append, List.length_append, hvl]; rfl
    · dsimp only
      split
      · exact g0
      · split
        · exact hlo
        · omega
    · rw [List.length_append, List.length_singleton]
      dsimp only
      rw [if_neg (by omega), if_neg (by omega)]; omega
    · rw [List.length_append, List.length_singleton]
      dsimp only
      rw [if_neg (by omega), if_neg (by omega)]; omega
    · dsimp only
      by_cases c1 : j + 1 < ll.length
      · rw [if_pos (by omega), if_pos c1]; exact gm j
      · by_cases c2 : j + 1 = ll.length
        · rw [if_pos (by omega), if_neg c1, if_pos c2]
          have := mono_of_step gm (show j ≤ ll.length by omega); omega
        · by_cases c3 : j = ll.length
          · rw [if_neg (by omega), if_pos c3, if_neg c1, if_neg c2]; exact hhi
          · rw [if_neg (by omega), if_neg c3, if_neg c1, if_neg c2]; omega
    · rw [List.length_append, List.length_singleton] at hjl
      have old : ∀ z, lo ≤ z → z < H.next → ¬ z = i → ((H.drop i).push ⟨ty, true, seg vs 0 ll.length ++ [x]⟩).row z = H.row z := fun z _ z2 z3 => by
        rw [AH.push_row, if_neg (by rw [AH.drop_next]; omega), AH.drop_row, if_neg z3]
      by_cases c : j < ll.length
      · obtain ⟨y, q, hy, hf⟩ := hj j c
        refine ⟨y, q, by rw [List.getElem?_append_left (by omega), hy], ?_⟩
        have e1 : (ll ++ [l]).getD j [] = ll.getD j [] := by simp [List.getD_eq_getElem?_getD, List.getElem?_append_left c]
        rw [e1]
        have c1 := mono_of_step gm (Nat.zero_le j)
        have c2 := mono_of_step gm (show j + 1 ≤ ll.length by omega)
        have f1 : Fr k ty' (b j) (b (j + 1)) ((H.drop i).push ⟨ty, true, seg vs 0 ll.length ++ [x]⟩) y q (ll.getD j []) := hf.same fun z z1 z2 => old z (by omega) (by omega) (by omega)
        dsimp only
        rw [if_pos c]
        by_cases c3 : j + 1 < ll.length
        · rw [if_pos c3]; exact f1
        · rw [if_neg c3, if_pos (by omega)]; exact f1.wide (Nat.le_refl _) (by omega)
      · have c4 : j = ll.length := by omega
        subst c4
        refine ⟨x, m, by rw [← hvl, List.getElem?_append_right (Nat.le_refl _)]; simp, ?_⟩
        have e1 : (ll ++ [l]).getD ll.length [] = l := by simp [List.getD_eq_getElem?_getD]
        rw [e1]
        dsimp only
        rw [if_neg (by omega), if_pos rfl, if_neg (by omega), if_neg (by omega)]
        exact hx.same fun z z1 z2 => old z (by omega) z2 (by omega)

end Go.Abs
end

section
set_option linter.unusedSimpArgs false
set_option linter.unusedVariables false
set_option maxRecDepth 100000
set_option maxHeartbeats 2000000
namespace Go.Proofs.Ytgkmdfjjlghecaa.A
open Go Go.Abs Go.RowKit

def FrE (q : Int) (R : List (List Int)) (H : AH) (v : Value) (H' : AH) : Prop := ∃ u, v = .agg #[.int .i64 q, u] ∧ Up H.next H H' ∧ Fr2 1 38 2 H.next H'.next H' u R

theorem mdX_tmod {m i : Nat} {x : Int} (hx : 0 ≤ x) (h : x < m) : Int.tmod (x + i) m = mdX m i x := by
  unfold mdX
  rw [if_pos h, Int.tmod_eq_emod_of_nonneg (by omega)]
theorem mdX_out {m i : Nat} {x : Int} (h : ¬ x < m) : mdX m i x = x := by unfold mdX; rw [if_neg h]

theorem l06Made_c (n : Nat) (hn : 1 ≤ n ∧ n ≤ 16) (v : Value) (y : List Int) (H : AH) (hv : Rd 1 H v y.length y) (hy : y.length ≤ 64) (hin : ∀ x ∈ y, 0 ≤ x ∧ x < (n : Int)) :
    ACalls Try.prog 216 [.int .i64 n, v] H (FrE n (madeL (mOf n) y (mOf n)) H) := by
  refine ACalls.wf (by kernel_rfl) fun hs => acalls_of_awp [.cell 4 65] Try.func216 (by kernel_rfl) rfl rfl (Nat.le_of_ble_eq_true rfl) (by kernel_rfl) ?_
  have em : Int.tmod (n : Int) 4 = ((n % 4 : Nat) : Int) := rfl
  obtain ⟨m, hm⟩ : ∃ m, m = mOf n := ⟨_, rfl⟩
  have em2 : (n : Int) - 1 + ((n % 4 : Nat) : Int) = (m : Int) := by rw [hm]; unfold mOf; omega
  have hm1 : 1 ≤ m ∨ m = 0 := by omega
  have hm2 : m ≤ 19 := by rw [hm]; unfold mOf; omega
  rw [← hm]
  try simp (disch := first | omega | (simp only [ints_length, List.length_replicate, List.length_set] <;> omega)) only [Sall,evalOp,init,binE,binI,unE,convE,okNil,builtE,gv,TD.isAgg,resV,↓reduceIte,Nat.reduceEqDiff,reduceCtorEq,Nat.reduceAdd,Nat.reduceMul,Nat.reduceLeDiff,quietOp,blindOp,Int.reduceEq,Int.reduceLT,Int.reduceLE,Nat.reduceLT,tiA, w64, em, em2]
  refine awp_loop (fun z t H' => ∃ (a : Nat) (u : Value) (lo hi : Nat), z = m - a ∧ a ≤ m ∧ t 7 = .int .i64 a ∧ t 6 = .int .i64 m ∧ t 1 = v ∧ t 4 = .pointer (some ⟨H.next, 0, none⟩) ∧ t 5 = .pointer (some ⟨H.next + 2, 0, none⟩) ∧ Up H.next H H' ∧ H.next + 3 ≤ H'.next ∧
    H'.row H.next = some ⟨65, true, [.int .i64 0, .slice none 0 0]⟩ ∧ H'.row (H.next + 2) = some ⟨65, true, [.int .i64 n, u]⟩ ∧ H.next + 1 ≤ lo ∧ lo ≤ hi ∧ hi ≤ H'.next ∧ Fr2 1 38 2 lo hi H' u (madeL m y a)) m ?_ ?_
  · refine ⟨0, .slice (some ⟨H.next + 1, 0, some 1⟩) 0 0, H.next + 1, H.next + 2, by omega, by omega, ?_⟩
    try simp (disch := first | omega | (simp only [ints_length, List.length_replicate, List.length_set] <;> omega)) only [Sall,evalOp,init,binE,binI,unE,convE,okNil,builtE,gv,TD.isAgg,resV,↓reduceIte,Nat.reduceEqDiff,reduceCtorEq,Nat.reduceAdd,Nat.reduceMul,Nat.reduceLeDiff,quietOp,blindOp,Int.reduceEq,Int.reduceLT,Int.reduceLE,Nat.reduceLT,tiA, Int.natCast_zero, zeros_zero]
    refine ⟨(((((Up.refl _ H).push (by omega) _).push (by simp only [AH.push_next]; omega) _).push (by simp only [AH.push_next]; omega) _).set (by omega) _), ?_⟩
    (repeat refine And.intro (by omega) ?_)
    exact .inr ⟨H.next + 1, [], fun _ => H.next + 2, by omega, by omega, rfl, by simp [AH.setCells_row, AH.push_row, AH.push_next], rfl, by dsimp only; omega, by dsimp only; omega, .inl (by dsimp only; omega), fun _ => Nat.le_refl _, fun j hj => by simp [madeL] at hj⟩
  · rintro z t H' ⟨a, u, lo, hi, hz, ham, h7, h6, h1, h4, h5, hup, hnx, r0, r1, hlo, hlh, hhi, hf⟩
    have hup1 := hup.next
    try simp (disch := first | omega | (simp only [ints_length, List.length_replicate, List.length_set] <;> omega)) only [Sall,evalOp,init,binE,binI,unE,convE,okNil,builtE,gv,TD.isAgg,resV,↓reduceIte,Nat.reduceEqDiff,reduceCtorEq,Nat.reduceAdd,Nat.reduceMul,Nat.reduceLeDiff,quietOp,blindOp,Int.reduceEq,Int.reduceLT,Int.reduceLE,Nat.reduceLT,tiA, h7, h6]
    refine condC_dec (fun h => ?_) (fun h => ?_)
    · have hv1 : Rd 1 H' v y.length y := hv.same (hup.le hs).row
      have hln := hv1.len
      have hln2 : ∀ H2 : AH, (asSl v (Out.val (Value.int IntKind.i64 0) H2) fun _ _ _ n _ => Out.val (Value.int IntKind.i64 (n : Int)) H2) = Out.val (Value.int IntKind.i64 y.length) H2 := fun H2 => hln H2
      try simp (disch := first | omega | (simp only [ints_length, List.length_replicate, List.length_set] <;> omega)) only [Sall,evalOp,init,binE,binI,unE,convE,okNil,builtE,gv,TD.isAgg,resV,↓reduceIte,Nat.reduceEqDiff,reduceCtorEq,Nat.reduceAdd,Nat.reduceMul,Nat.reduceLeDiff,quietOp,blindOp,Int.reduceEq,Int.reduceLT,Int.reduceLE,Nat.reduceLT,tiA, h7, h6, h1, h4, h5, zeros_zero]
      refine awp_loop (fun z t H3 => ∃ (c : Nat) (w : Value) (lo2 hi2 : Nat), z = y.length - c ∧ c ≤ y.length ∧ t 9 = .int .i64 c ∧ t 8 = w ∧ t 7 = .int .i64 a ∧ t 6 = .int .i64 m ∧ t 1 = v ∧ t 4 = .pointer (some ⟨H.next, 0, none⟩) ∧ t 5 = .pointer (some ⟨H.next + 2, 0, none⟩) ∧ Up H'.next H' H3 ∧ H'.next ≤ lo2 ∧ lo2 ≤ hi2 ∧ hi2 ≤ H3.next ∧ Fr 1 2 lo2 hi2 H3 w c (mdL m a (y.take c))) y.length ?_ ?_
      · refine ⟨0, .slice (some ⟨H'.next, 0, some 1⟩) 0 0, H'.next, H'.next + 1, by omega, by omega, ?_⟩
        try simp (disch := first | omega | (simp only [ints_length, List.length_replicate, List.length_set] <;> omega)) only [Sall,evalOp,init,binE,binI,unE,convE,okNil,builtE,gv,TD.isAgg,resV,↓reduceIte,Nat.reduceEqDiff,reduceCtorEq,Nat.reduceAdd,Nat.reduceMul,Nat.reduceLeDiff,quietOp,blindOp,Int.reduceEq,Int.reduceLT,Int.reduceLE,Nat.reduceLT,tiA, Int.natCast_zero, h7, h6, h1, h4, h5]
        refine ⟨(Up.refl _ H').push (by omega) _, ?_⟩
        (repeat refine And.intro (by omega) ?_)
        exact ⟨by simp [mdL], .inr ⟨H'.next, Nat.le_refl _, Nat.lt_succ_self _, rfl, by rw [AH.push_row, if_pos rfl]; rfl⟩⟩
      · rintro z t H3 ⟨c, w, lo2, hi2, hz, hcn, h9, h8, h7, h6, h1, h4, h5, hup3, hlo2, hlh2, hhi2, hw⟩
        have hup31 := hup3.next
        have hv30 : Rd 1 H3 v y.length y := hv.same fun i r hr => by rw [hup3.row i (by have := hs _ _ hr; omega), hup.row i (hs _ _ hr)]; exact hr
        try simp (disch := first | omega | (simp only [ints_length, List.length_replicate, List.length_set] <;> omega)) only [Sall,evalOp,init,binE,binI,unE,convE,okNil,builtE,gv,TD.isAgg,resV,↓reduceIte,Nat.reduceEqDiff,reduceCtorEq,Nat.reduceAdd,Nat.reduceMul,Nat.reduceLeDiff,quietOp,blindOp,Int.reduceEq,Int.reduceLT,Int.reduceLE,Nat.reduceLT,tiA, h9, h1, builtE, hv30.len]
        refine condC_dec (fun hh => ?_) (fun hh => ?_)
        · have hv3 : Rd 1 H3 v y.length y := hv.same fun i r hr => by rw [hup3.row i (by have := hs _ _ hr; omega), hup.row i (hs _ _ hr)]; exact hr
          obtain ⟨i, o, uu, cc, r, rfl, hr, hc, hg, _⟩ := hv3.get (by omega)
          have g1 := hg c (by omega)
          have hx := hin (y.getD c 0) (by rw [List.getD_eq_getElem?_getD, List.getElem?_eq_getElem (by omega)]; exact List.getElem_mem _)
          have hsn := mdL_snoc m a y c (by omega)
          revert g1 hx hsn
          generalize y.getD c 0 = x
          intro g1 hx hsn
          have zz : zeros 1 [.int .i64 0] = [.int .i64 0] := rfl
          by_cases hxm : x < (m : Int)
          · have hE := mdX_tmod (m := m) (i := a) hx.1 hxm
            try simp (disch := first | omega | (simp only [ints_length, List.length_replicate, List.length_set] <;> omega)) only [Sall,evalOp,init,binE,binI,unE,convE,okNil,builtE,gv,TD.isAgg,resV,↓reduceIte,Nat.reduceEqDiff,reduceCtorEq,Nat.reduceAdd,Nat.reduceMul,Nat.reduceLeDiff,quietOp,blindOp,Int.reduceEq,Int.reduceLT,Int.reduceLE,Nat.reduceLT,tiA, h9, h8, h7, h6, h1, h4, h5, hr, g1, hxm, decide_true, zz, slCells, w64, hE]
            (repeat refine And.intro (by omega) ?_)
            obtain ⟨H4, e4⟩ : ∃ H4, H4 = H3.push ⟨2, true, [.int .i64 (mdX m a x)]⟩ := ⟨_, rfl⟩
            have n4 : H4.next = H3.next + 1 := by rw [e4]; rfl
            have s4 : ∀ i, i < H3.next → H4.row i = H3.row i := fun i hi => by rw [e4, AH.push_row, if_neg (by omega)]
            rw [← e4]
            clear e4
            refine appE_fr (k := 1) (lo := lo2) (hi := hi2) (l := mdL m a (y.take c)) (m := [mdX m a x]) (hw.same fun i _ hi => s4 i (by omega)) rfl (by omega) rfl (by omega) (by decide) (by omega) (by omega) ?_
            intro v' H5 n5 s5 f5
            try simp (disch := first | omega | (simp only [ints_length, List.length_replicate, List.length_set] <;> omega)) only [Sall,evalOp,init,binE,binI,unE,convE,okNil,builtE,gv,TD.isAgg,resV,↓reduceIte,Nat.reduceEqDiff,reduceCtorEq,Nat.reduceAdd,Nat.reduceMul,Nat.reduceLeDiff,quietOp,blindOp,Int.reduceEq,Int.reduceLT,Int.reduceLE,Nat.reduceLT,tiA, h9, h7, h6, h1, h4, h5, w64]
            refine ⟨y.length - (c + 1), by omega, c + 1, v', H4.next, H4.next + 1, rfl, by omega, rfl, rfl, ⟨by omega, fun i hi => by rw [s5 i (by omega) (by omega), s4 i (by omega), hup3.row i hi]⟩, by omega, by omega, by omega, ?_⟩
            rw [hsn]; exact f5
          · have hE := mdX_out (m := m) (i := a) hxm
            try simp (disch := first | omega | (simp only [ints_length, List.length_replicate, List.length_set] <;> omega)) only [Sall,evalOp,init,binE,binI,unE,convE,okNil,builtE,gv,TD.isAgg,resV,↓reduceIte,Nat.reduceEqDiff,reduceCtorEq,Nat.reduceAdd,Nat.reduceMul,Nat.reduceLeDiff,quietOp,blindOp,Int.reduceEq,Int.reduceLT,Int.reduceLE,Nat.reduceLT,tiA, h9, h8, h7, h6, h1, h4, h5, hr, g1, hxm, decide_false, zz, slCells, w64]
            (repeat refine And.intro (by omega) ?_)
            obtain ⟨H4, e4⟩ : ∃ H4, H4 = H3.push ⟨2, true, [.int .i64 (x)]⟩ := ⟨_, rfl⟩
            have n4 : H4.next = H3.next + 1 := by rw [e4]; rfl
            have s4 : ∀ i, i < H3.next → H4.row i = H3.row i := fun i hi => by rw [e4, AH.push_row, if_neg (by omega)]
            rw [← e4]
            clear e4
            refine appE_fr (k := 1) (lo := lo2) (hi := hi2) (l := mdL m a (y.take c)) (m := [x]) (hw.same fun i _ hi => s4 i (by omega)) rfl (by omega) rfl (by omega) (by decide) (by omega) (by omega) ?_
            intro v' H5 n5 s5 f5
            try simp (disch := first | omega | (simp only [ints_length, List.length_replicate, List.length_set] <;> omega)) only [Sall,evalOp,init,binE,binI,unE,convE,okNil,builtE,gv,TD.isAgg,resV,↓reduceIte,Nat.reduceEqDiff,reduceCtorEq,Nat.reduceAdd,Nat.reduceMul,Nat.reduceLeDiff,quietOp,blindOp,Int.reduceEq,Int.reduceLT,Int.reduceLE,Nat.reduceLT,tiA, h9, h7, h6, h1, h4, h5, w64]
            refine ⟨y.length - (c + 1), by omega, c + 1, v', H4.next, H4.next + 1, rfl, by omega, rfl, rfl, ⟨by omega, fun i hi => by rw [s5 i (by omega) (by omega), s4 i (by omega), hup3.row i hi]⟩, by omega, by omega, by omega, ?_⟩
            rw [hsn, hE]; exact f5
        · have hc : c = y.length := by omega
          subst hc
          rw [List.take_length] at hw
          have zz : zeros 1 [.slice none 0 0] = [.slice none 0 0] := rfl
          have ho := hw.rd.one
          have hc1 := cells_of_one ho
          have hc2 := noTuple_of_one ho
          have r3 : H3.row (H.next + 2) = some ⟨65, true, [.int .i64 n, u]⟩ := by rw [hup3.row _ (by omega), r1]
          have r30 : H3.row H.next = some ⟨65, true, [.int .i64 0, .slice none 0 0]⟩ := by rw [hup3.row _ (by omega), r0]
          have hne : ¬ H.next + 2 = H3.next := by omega
          try simp (disch := first | omega | (simp only [ints_length, List.length_replicate, List.length_set] <;> omega)) only [Sall,evalOp,init,binE,binI,unE,convE,okNil,builtE,gv,TD.isAgg,resV,↓reduceIte,Nat.reduceEqDiff,reduceCtorEq,Nat.reduceAdd,Nat.reduceMul,Nat.reduceLeDiff,quietOp,blindOp,Int.reduceEq,Int.reduceLT,Int.reduceLE,Nat.reduceLT,tiA, h8, h7, h6, h1, h4, h5, r3, zz, slCells, ho, hc1, hc2, hne]
          obtain ⟨H4, e4⟩ : ∃ H4, H4 = H3.push ⟨38, true, [w]⟩ := ⟨_, rfl⟩
          have n4 : H4.next = H3.next + 1 := by rw [e4]; rfl
          have s4 : ∀ i, i < H3.next → H4.row i = H3.row i := fun i hi => by rw [e4, AH.push_row, if_neg (by omega)]
          rw [← e4]
          clear e4
          refine appE_fr2K (lo := lo) (hi := hi) (hf.same fun i _ hi => by rw [s4 i (by omega), hup3.row i (by omega)]) ((hw.same fun i _ hi => s4 i (by omega)).wide (by omega) (by omega)) rfl (by decide) (by rw [madeL_length]; omega) hlh (by omega) ?_
          intro v' H5 n5 s5 k5 f5
          have r5 : H5.row (H.next + 2) = some ⟨65, true, [.int .i64 n, u]⟩ := k5 _ _ (by omega) (by rw [s4 _ (by omega), r3]) (show ¬ (65 : Nat) = 38 by decide)
          have r50 : H5.row H.next = some ⟨65, true, [.int .i64 0, .slice none 0 0]⟩ := by rw [s5 _ (by omega) (by omega), s4 _ (by omega), r30]
          have o5 := f5.rd.one
          try simp (disch := first | omega | (simp only [ints_length, List.length_replicate, List.length_set] <;> omega)) only [Sall,evalOp,init,binE,binI,unE,convE,okNil,builtE,gv,TD.isAgg,resV,↓reduceIte,Nat.reduceEqDiff,reduceCtorEq,Nat.reduceAdd,Nat.reduceMul,Nat.reduceLeDiff,quietOp,blindOp,Int.reduceEq,Int.reduceLT,Int.reduceLE,Nat.reduceLT,tiA, h7, h6, h1, h4, h5, r5, o5, w64]
          refine ⟨m - (a + 1), by omega, a + 1, v', lo, H4.next + 1, rfl, by omega, rfl, Up.set ⟨by omega, fun i hi => by rw [s5 i (by omega) (by omega), s4 i (by omega), hup3.row i (by omega), hup.row i hi]⟩ (by omega) _, by omega, ?_, ?_, by omega, by omega, by omega, ?_⟩
          · exact r50
          · rfl
          · rw [madeL_succ]
            refine f5.sameR fun i r hi1 hi2 hir hty => ?_
            rw [AH.setCells_row, if_neg]
            · exact hir
            · rintro rfl
              rw [r5] at hir
              injection hir with hir
              rw [← hir] at hty
              rcases hty with e | e
              · exact absurd (show (65 : Nat) = 38 from e) (by decide)
              · exact absurd (show (65 : Nat) = 2 from e) (by decide)
    · have ha : a = m := by omega
      subst ha
      have ho := hf.rd.one
      try simp (disch := first | omega | (simp only [ints_length, List.length_replicate, List.length_set] <;> omega)) only [Sall,evalOp,init,binE,binI,unE,convE,okNil,builtE,gv,TD.isAgg,resV,↓reduceIte,Nat.reduceEqDiff,reduceCtorEq,Nat.reduceAdd,Nat.reduceMul,Nat.reduceLeDiff,quietOp,blindOp,Int.reduceEq,Int.reduceLT,Int.reduceLE,Nat.reduceLT,tiA, h5, h4, r0, r1, ho]
      refine ⟨u, rfl, hup.set (Nat.le_refl _) _, ?_⟩
      exact (hf.same (H' := H'.setCells H.next [.int .i64 n, u]) fun i hi _ => by rw [AH.setCells_row, if_neg (by omega)]).wide (by omega) (by simp only [AH.setCells_next]; omega)
end Go.Proofs.Ytgkmdfjjlghecaa.A
end

section
set_option linter.unusedSimpArgs false
set_option linter.unusedVariables false
set_option maxRecDepth 100000
set_option maxHeartbeats 2000000
namespace Go.Proofs.Ytgkmdfjjlghecaa.A
open Go Go.Abs Go.RowKit

def wayL (ws : List (Nat × Nat)) : List Int := ws.flatMap fun w => [(w.1 : Int), (w.2 : Int)]
theorem wayL_at : ∀ (ws : List (Nat × Nat)) (d : Nat), d < ws.length → ((wayL ws).drop (d * 2)).take 2 = [((ws.getD d (0, 0)).1 : Int), ((ws.getD d (0, 0)).2 : Int)]
  | [], d, h => by simp at h
  | w :: ws, 0, h => by simp [wayL]
  | w :: ws, d + 1, h => by
    have e : wayL (w :: ws) = [(w.1 : Int), (w.2 : Int)] ++ wayL ws := by simp [wayL]
    rw [e, show (d + 1) * 2 = 2 + d * 2 by omega, ← List.drop_drop]
    have := wayL_at ws d (by simpa using h)
    simpa using this
theorem ways_snoc (ws : List (Nat × Nat)) (d : Nat) (hd : d < ws.length) : ws.take (d + 1) = ws.take d ++ [ws.getD d (0, 0)] := take_snoc ws (0, 0) d hd

theorem together_c (n : Nat) (hn : 1 ≤ n ∧ n ≤ 16) (u : Value) (R : List (List Int)) (wv : Value) (ws : List (Nat × Nat)) (H : AH) (hu : Rd2 1 H u R) (hw : Rd 2 H wv ws.length (wayL ws)) (hws : ∀ w ∈ ws, w.1 < 4 ∧ w.2 < 4) (hwl : ws.length ≤ 4)
    (hRl : R.length ≤ 20) (hR : ∀ i, i < R.length → (R.getD i []).length ≤ 16 ∧ ∀ x ∈ R.getD i [], 0 ≤ x ∧ x < (n : Int)) :
    ACalls Try.prog 184 [.agg #[.int .i64 n, u], wv] H (fun r H' => Up H.next H H' ∧ Fr2 1 38 2 H.next H'.next H' r (tabM n ws R)) := by
  refine ACalls.wf (by kernel_rfl) fun hs => acalls_of_awp [.tmp 4] Try.func184 (by kernel_rfl) rfl rfl (Nat.le_of_ble_eq_true rfl) (by kernel_rfl) ?_
  have hone := hu.one
  have hwone := hw.one
  have up : Up H.next H (H.push ⟨65, true, [.int .i64 n, u]⟩) := (Up.refl _ H).push (Nat.le_refl _) _
  have e1 : (H.push ⟨65, true, [.int .i64 n, u]⟩).row H.next = some ⟨65, true, [.int .i64 n, u]⟩ := by rw [AH.push_row, if_pos rfl]
  have n1 : (H.push ⟨65, true, [.int .i64 n, u]⟩).next = H.next + 1 := rfl
  have sc1 : Sc (H.push ⟨65, true, [.int .i64 n, u]⟩) := Sc.push hs _
  try simp (disch := first | omega | (simp only [ints_length, List.length_replicate, List.length_set] <;> omega)) only [Sall,evalOp,init,binE,binI,unE,convE,okNil,builtE,gv,TD.isAgg,resV,↓reduceIte,Nat.reduceEqDiff,reduceCtorEq,Nat.reduceAdd,Nat.reduceMul,Nat.reduceLeDiff,quietOp,blindOp,Int.reduceEq,Int.reduceLT,Int.reduceLE,Nat.reduceLT,tiA, hone]
  revert up e1 n1 sc1
  generalize H.push ⟨65, true, [.int .i64 n, u]⟩ = H1
  intro up e1 n1 sc1
  try simp (disch := first | omega | (simp only [ints_length, List.length_replicate, List.length_set] <;> omega)) only [Sall,evalOp,init,binE,binI,unE,convE,okNil,builtE,gv,TD.isAgg,resV,↓reduceIte,Nat.reduceEqDiff,reduceCtorEq,Nat.reduceAdd,Nat.reduceMul,Nat.reduceLeDiff,quietOp,blindOp,Int.reduceEq,Int.reduceLT,Int.reduceLE,Nat.reduceLT,tiA, e1]
  refine (square_c n (by omega) H1).mono ?_
  rintro o H2 ⟨up2, hf2⟩
  have n2 := up2.next
  have e2 : H2.row H.next = some ⟨65, true, [.int .i64 n, u]⟩ := by rw [up2.row _ (by omega), e1]
  have u2 : Up H.next H H2 := up.trans up2 (by omega)
  refine Holds.mp ?_
  try simp (disch := first | omega | (simp only [ints_length, List.length_replicate, List.length_set] <;> omega)) only [Sall,evalOp,init,binE,binI,unE,convE,okNil,builtE,gv,TD.isAgg,resV,↓reduceIte,Nat.reduceEqDiff,reduceCtorEq,Nat.reduceAdd,Nat.reduceMul,Nat.reduceLeDiff,quietOp,blindOp,Int.reduceEq,Int.reduceLT,Int.reduceLE,Nat.reduceLT,tiA, e2, builtE, hu.len]
  refine awp_loop (fun z t H' => ∃ a : Nat, z = R.length - a ∧ a ≤ R.length ∧ t 19 = .int .i64 a ∧ t 18 = .int .i64 R.length ∧ t 17 = u ∧ t 5 = o ∧ t 1 = wv ∧ Up H.next H H' ∧ H2.next ≤ H'.next ∧ Fr2 1 38 2 H1.next H2.next H' o (cntMx n (evA n ws R a))) R.length ?_ ?_
  · refine ⟨0, by omega, by omega, ?_⟩
    try simp (disch := first | omega | (simp only [ints_length, List.length_replicate, List.length_set] <;> omega)) only [Sall,evalOp,init,binE,binI,unE,convE,okNil,builtE,gv,TD.isAgg,resV,↓reduceIte,Nat.reduceEqDiff,reduceCtorEq,Nat.reduceAdd,Nat.reduceMul,Nat.reduceLeDiff,quietOp,blindOp,Int.reduceEq,Int.reduceLT,Int.reduceLE,Nat.reduceLT,tiA, Int.natCast_zero]
    exact ⟨u2, by rw [show evA n ws R 0 = [] from rfl, cntMx_nil]; exact hf2⟩
  · rintro z t H' ⟨a, hz, ha, h19, h18, h17, h5, h1, hup, hnx, hf⟩
    try simp (disch := first | omega | (simp only [ints_length, List.length_replicate, List.length_set] <;> omega)) only [Sall,evalOp,init,binE,binI,unE,convE,okNil,builtE,gv,TD.isAgg,resV,↓reduceIte,Nat.reduceEqDiff,reduceCtorEq,Nat.reduceAdd,Nat.reduceMul,Nat.reduceLeDiff,quietOp,blindOp,Int.reduceEq,Int.reduceLT,Int.reduceLE,Nat.reduceLT,tiA, h19, h18]
    refine condC_dec (fun h => ?_) (fun h => ?_)
    · obtain ⟨xi, xo, xuu, xc, xr, y, my, ex, hxr, hy, hsx, hok⟩ := hu.get (j := a) (by omega)
      have hxr' : H'.row xi = some xr := (hup.le hs).row _ _ hxr
      obtain ⟨hl16, hin⟩ := hR a (by omega)
      have hmm := hsx.lenK1
      have hevS := evA_succ n ws R a
      have hI0 : (evA n ws R a).length ≤ 1000 := by
        have := evA_length (n := n) (ws := ws) (fun i hi => (hR i hi).1) a (by omega)
        have h2 : a * (4 * (2 * ws.length)) ≤ 20 * 32 := Nat.mul_le_mul (by omega) (by omega)
        omega
      revert hsx hl16 hin hmm hevS
      generalize R.getD a [] = l
      intro hsx hl16 hin hmm hevS
      subst hmm
      have hold : ∀ {H3 : AH}, Up H.next H H3 → Rd 1 H3 y l.length l := fun hup3 => hsx.same (hup3.le hs).row
      try simp (disch := first | omega | (simp only [ints_length, List.length_replicate, List.length_set] <;> omega)) only [Sall,evalOp,init,binE,binI,unE,convE,okNil,builtE,gv,TD.isAgg,resV,↓reduceIte,Nat.reduceEqDiff,reduceCtorEq,Nat.reduceAdd,Nat.reduceMul,Nat.reduceLeDiff,quietOp,blindOp,Int.reduceEq,Int.reduceLT,Int.reduceLE,Nat.reduceLT,tiA, h19, h18, h17, h5, h1, ex, hxr', hy, hok]
      (repeat refine And.intro (by omega) ?_)
      refine awp_loop (fun z t H3 => ∃ c : Nat, z = l.length / 4 - c ∧ c ≤ l.length / 4 ∧ t 8 = .int .i64 ((4 * c : Nat) : Int) ∧ t 7 = y ∧ t 19 = .int .i64 a ∧ t 18 = .int .i64 R.length ∧ t 17 = u ∧ t 5 = o ∧ t 1 = wv ∧ Up H.next H H3 ∧ H2.next ≤ H3.next ∧ Fr2 1 38 2 H1.next H2.next H3 o (cntMx n (evA n ws R a ++ evR n ws l c))) (l.length / 4) ?_ ?_
      · refine ⟨0, by omega, by omega, ?_⟩
        try simp (disch := first | omega | (simp only [ints_length, List.length_replicate, List.length_set] <;> omega)) only [Sall,evalOp,init,binE,binI,unE,convE,okNil,builtE,gv,TD.isAgg,resV,↓reduceIte,Nat.reduceEqDiff,reduceCtorEq,Nat.reduceAdd,Nat.reduceMul,Nat.reduceLeDiff,quietOp,blindOp,Int.reduceEq,Int.reduceLT,Int.reduceLE,Nat.reduceLT,tiA, Int.natCast_zero, h19, h18, h17, h5, h1, Nat.mul_zero]
        refine ⟨hup, hnx, ?_⟩
        rw [show evR n ws l 0 = [] from rfl, List.append_nil]; exact hf
      · rintro z t H3 ⟨c, hz, hc, h8, h7, h19, h18, h17, h5, h1, hup3, hnx3, hf3⟩
        have hl3 := (hold hup3).len
        try simp (disch := first | omega | (simp only [ints_length, List.length_replicate, List.length_set] <;> omega)) only [Sall,evalOp,init,binE,binI,unE,convE,okNil,builtE,gv,TD.isAgg,resV,↓reduceIte,Nat.reduceEqDiff,reduceCtorEq,Nat.reduceAdd,Nat.reduceMul,Nat.reduceLeDiff,quietOp,blindOp,Int.reduceEq,Int.reduceLT,Int.reduceLE,Nat.reduceLT,tiA, h8, h7, builtE, hl3, w64]
        refine condC_dec (fun hh => ?_) (fun hh => ?_)
        · have hw3 := hw.same (hup3.le hs).row
          try simp (disch := first | omega | (simp only [ints_length, List.length_replicate, List.length_set] <;> omega)) only [Sall,evalOp,init,binE,binI,unE,convE,okNil,builtE,gv,TD.isAgg,resV,↓reduceIte,Nat.reduceEqDiff,reduceCtorEq,Nat.reduceAdd,Nat.reduceMul,Nat.reduceLeDiff,quietOp,blindOp,Int.reduceEq,Int.reduceLT,Int.reduceLE,Nat.reduceLT,tiA, h8, h7, h19, h18, h17, h5, h1, builtE, hw3.len]
          refine awp_loop (fun z t H4 => ∃ d : Nat, z = ws.length - d ∧ d ≤ ws.length ∧ t 32 = .int .i64 d ∧ t 31 = .int .i64 ws.length ∧ t 30 = wv ∧ t 8 = .int .i64 ((4 * c : Nat) : Int) ∧ t 7 = y ∧ t 19 = .int .i64 a ∧ t 18 = .int .i64 R.length ∧ t 17 = u ∧ t 5 = o ∧ t 1 = wv ∧ Up H.next H H4 ∧ H2.next ≤ H4.next ∧ Fr2 1 38 2 H1.next H2.next H4 o (cntMx n (evA n ws R a ++ evR n ws l c ++ evW n (qd l c) (ws.take d)))) ws.length ?_ ?_
          · refine ⟨0, by omega, by omega, ?_⟩
            try simp (disch := first | omega | (simp only [ints_length, List.length_replicate, List.length_set] <;> omega)) only [Sall,evalOp,init,binE,binI,unE,convE,okNil,builtE,gv,TD.isAgg,resV,↓reduceIte,Nat.reduceEqDiff,reduceCtorEq,Nat.reduceAdd,Nat.reduceMul,Nat.reduceLeDiff,quietOp,blindOp,Int.reduceEq,Int.reduceLT,Int.reduceLE,Nat.reduceLT,tiA, Int.natCast_zero, h8, h7, h19, h18, h17, h5, h1]
            refine ⟨hup3, hnx3, ?_⟩
            rw [List.take_zero, show evW n (qd l c) [] = [] from rfl, List.append_nil]; exact hf3
          · rintro z t H4 ⟨d, hz, hd, h32, h31, h30, h8, h7, h19, h18, h17, h5, h1, hup4, hnx4, hf4⟩
            try simp (disch := first | omega | (simp only [ints_length, List.length_replicate, List.length_set] <;> omega)) only [Sall,evalOp,init,binE,binI,unE,convE,okNil,builtE,gv,TD.isAgg,resV,↓reduceIte,Nat.reduceEqDiff,reduceCtorEq,Nat.reduceAdd,Nat.reduceMul,Nat.reduceLeDiff,quietOp,blindOp,Int.reduceEq,Int.reduceLT,Int.reduceLE,Nat.reduceLT,tiA, h32, h31]
            refine condC_dec (fun hhh => ?_) (fun hhh => ?_)
            · have hw4 := hw.same (hup4.le hs).row
              obtain ⟨wi, wo, wu, wc, wr, ew, hwr, _, _, hwg⟩ := hw4.get (by omega)
              have hwa := hwg (d * 2) 2 (by omega)
              rw [wayL_at ws d (by omega)] at hwa
              obtain ⟨w1, w2⟩ := hws (ws.getD d (0, 0)) (getD_mem2 ws d (by omega))
              have hsn := ways_snoc ws d (by omega)
              revert hwa w1 w2 hsn
              generalize ws.getD d (0, 0) = w
              intro hwa w1 w2 hsn
              obtain ⟨yi, yo, yu, yc, yr, ey, hyr, _, hyg, _⟩ := (hold (Up.refl H.next H)).get (by omega)
              have hyi := hs _ _ hyr
              have hyr4 : H4.row yi = some yr := by rw [hup4.row _ hyi]; exact hyr
              have hup41 := hup4.next
              have hyne : ¬ yi = H4.next := by omega
              have mem : ∀ j, j < l.length → 0 ≤ l.getD j 0 ∧ l.getD j 0 < (n : Int) := fun j hj => hin _ (by rw [List.getD_eq_getElem?_getD, List.getElem?_eq_getElem hj]; exact List.getElem_mem _)
              have m1 := mem (4 * c + w.1) (by omega)
              have m2 := mem (4 * c + w.2) (by omega)
              have g1 := hyg (4 * c + w.1) (by omega)
              have g2 := hyg (4 * c + w.2) (by omega)
              have ep : l.getD (4 * c + w.1) 0 = ((qd l c w.1 : Nat) : Int) := by unfold qd; omega
              have eq : l.getD (4 * c + w.2) 0 = ((qd l c w.2 : Nat) : Int) := by unfold qd; omega
              rw [ep] at g1 m1
              rw [eq] at g2 m2
              have hA1 : (((4 * c : Nat) : Int) + (w.1 : Int)).toNat = 4 * c + w.1 := by omega
              have hA2 : (((4 * c : Nat) : Int) + (w.2 : Int)).toNat = 4 * c + w.2 := by omega
              have hev := evW_snoc n (qd l c) (ws.take d) w
              rw [← hsn] at hev
              revert g1 g2 m1 m2 hev
              generalize qd l c w.1 = p
              generalize qd l c w.2 = q
              intro m1 m2 g1 g2 hev
              have hlenI : (evA n ws R a ++ evR n ws l c ++ evW n (qd l c) (ws.take d)).length ≤ 10000 := by
                rw [List.length_append, List.length_append, evR_length, evW_length, List.length_take]
                have h1 : c * (2 * ws.length) ≤ 4 * 8 := Nat.mul_le_mul (by omega) (by omega)
                omega
              have hevX : evA n ws R a ++ evR n ws l c ++ evW n (qd l c) (ws.take (d + 1)) = (evA n ws R a ++ evR n ws l c ++ evW n (qd l c) (ws.take d)) ++ [ixN n p q] ++ [ixN n q p] := by rw [hev]; simp
              obtain ⟨I, eI⟩ : ∃ I, I = evA n ws R a ++ evR n ws l c ++ evW n (qd l c) (ws.take d) := ⟨_, rfl⟩
              rw [← eI] at hevX hlenI hf4
              try simp (disch := first | omega | (simp only [ints_length, List.length_replicate, List.length_set] <;> omega)) only [Sall,evalOp,init,binE,binI,unE,convE,okNil,builtE,gv,TD.isAgg,resV,↓reduceIte,Nat.reduceEqDiff,reduceCtorEq,Nat.reduceAdd,Nat.reduceMul,Nat.reduceLeDiff,quietOp,blindOp,Int.reduceEq,Int.reduceLT,Int.reduceLE,Nat.reduceLT,tiA, h32, h31, h30, h8, h7, h19, h18, h17, h5, h1, ew, hwr, hwa]
              (repeat refine And.intro (by omega) ?_)
              refine awp_cutQ (fun t H5 => t 11 = .int .i64 p ∧ t 12 = .int .i64 q ∧ t 32 = .int .i64 d ∧ t 31 = .int .i64 ws.length ∧ t 30 = wv ∧ t 8 = .int .i64 ((4 * c : Nat) : Int) ∧ t 7 = y ∧ t 19 = .int .i64 a ∧ t 18 = .int .i64 R.length ∧ t 17 = u ∧ t 5 = o ∧ t 1 = wv ∧ Up H4.next H4 H5) ?_ ?_
              · refine draw_id (by kernel_rfl) (by kernel_rfl) ?_
                have sp0 : (splice [Value.int IntKind.i64 0, Value.int IntKind.i64 0] 0 (ints [(w.1 : Int), (w.2 : Int)]))[Int.toNat 0]? = some (.int .i64 w.1) := rfl
                have sp1 : (splice [Value.int IntKind.i64 0, Value.int IntKind.i64 0] 0 (ints [(w.1 : Int), (w.2 : Int)]))[Int.toNat 1]? = some (.int .i64 w.2) := rfl
                try simp (disch := first | omega | (simp only [ints_length, List.length_replicate, List.length_set] <;> omega)) only [Sall,evalOp,init,binE,binI,unE,convE,okNil,builtE,gv,TD.isAgg,resV,↓reduceIte,Nat.reduceEqDiff,reduceCtorEq,Nat.reduceAdd,Nat.reduceMul,Nat.reduceLeDiff,quietOp,blindOp,Int.reduceEq,Int.reduceLT,Int.reduceLE,Nat.reduceLT,tiA, h32, h31, h30, h8, h7, h19, h18, h17, h5, h1, ey, hyr4, hyne, hA1, hA2, g1, g2, sp0, sp1, w64]
                (repeat refine And.intro (by omega) ?_)
                exact ((Up.refl _ H4).push (Nat.le_refl _) _).set (Nat.le_refl _) _
              · rintro t H5 ⟨h11, h12, h32, h31, h30, h8, h7, h19, h18, h17, h5, h1, up5⟩
                have hf5 : Fr2 1 38 2 H1.next H2.next H5 o (cntMx n I) := hf4.same fun i _ hi => up5.row i (by omega)
                have up51 := up5.next
                have hup5 : Up H.next H H5 := hup4.trans up5 hup41
                rw [awp_seq]
                refine awp_cutQ (fun t H6 => t 11 = .int .i64 p ∧ t 12 = .int .i64 q ∧ t 32 = .int .i64 d ∧ t 31 = .int .i64 ws.length ∧ t 30 = wv ∧ t 8 = .int .i64 ((4 * c : Nat) : Int) ∧ t 7 = y ∧ t 19 = .int .i64 a ∧ t 18 = .int .i64 R.length ∧ t 17 = u ∧ t 5 = o ∧ t 1 = wv ∧ Up H.next H H6 ∧ H2.next ≤ H6.next ∧ Fr2 1 38 2 H1.next H2.next H6 o (cntMx n (I ++ [ixN n p q]))) ?_ ?_
                · have hsq1 := cntMx_sq n (I)
                  have hinc1 := cntMx_inc n (I) p q (by omega) (by omega) (by omega)
                  have hrow1 := hsq1.2 p (by omega)
                  obtain ⟨mi, mvs, i6, eo, q1, q2, q3, q4, q5, q6, q7, q8, q9⟩ := hf5.setF (j := p) (by rw [hsq1.1]; omega) (by omega)
                  have hMl1 := hsq1.1
                  have q10 := q9 (incR ((cntMx n (I)).getD p []) (q : Int)) (incR_length _ _)
                  rw [hrow1] at q4
                  try simp (disch := first | omega | (simp only [ints_length, List.length_replicate, List.length_set] <;> omega)) only [Sall,evalOp,init,binE,binI,unE,convE,okNil,builtE,gv,TD.isAgg,resV,↓reduceIte,Nat.reduceEqDiff,reduceCtorEq,Nat.reduceAdd,Nat.reduceMul,Nat.reduceLeDiff,quietOp,blindOp,Int.reduceEq,Int.reduceLT,Int.reduceLE,Nat.reduceLT,tiA, h11, h12, h32, h31, h30, h8, h7, h19, h18, h17, h5, h1, eo, q3, q4, q8, hMl1, Int.toNat_natCast, ints_get?, ints_set, w64]
                  (repeat refine And.intro (by omega) ?_)
                  refine ⟨hup5.set (by omega) _, by omega, ?_⟩
                  rw [← hinc1]
                  rw [eo, hMl1] at q10
                  exact q10
                · rintro t H6 ⟨h11, h12, h32, h31, h30, h8, h7, h19, h18, h17, h5, h1, up6, hn6, hf6⟩
                  have hsq2 := cntMx_sq n (I ++ [ixN n p q])
                  have hinc2 := cntMx_inc n (I ++ [ixN n p q]) q p (by omega) (by omega) (by rw [List.length_append, List.length_singleton]; omega)
                  have hrow2 := hsq2.2 q (by omega)
                  obtain ⟨mi, mvs, i6, eo, q1, q2, q3, q4, q5, q6, q7, q8, q9⟩ := hf6.setF (j := q) (by rw [hsq2.1]; omega) (by omega)
                  have hMl2 := hsq2.1
                  have q10 := q9 (incR ((cntMx n (I ++ [ixN n p q])).getD q []) (p : Int)) (incR_length _ _)
                  rw [hrow2] at q4
                  try simp (disch := first | omega | (simp only [ints_length, List.length_replicate, List.length_set] <;> omega)) only [Sall,evalOp,init,binE,binI,unE,convE,okNil,builtE,gv,TD.isAgg,resV,↓reduceIte,Nat.reduceEqDiff,reduceCtorEq,Nat.reduceAdd,Nat.reduceMul,Nat.reduceLeDiff,quietOp,blindOp,Int.reduceEq,Int.reduceLT,Int.reduceLE,Nat.reduceLT,tiA, h11, h12, h32, h31, h30, h8, h7, h19, h18, h17, h5, h1, eo, q3, q4, q8, hMl2, Int.toNat_natCast, ints_get?, ints_set, w64]
                  (repeat refine And.intro (by omega) ?_)
                  refine ⟨ws.length - (d + 1), by omega, d + 1, rfl, by omega, by omega, up6.set (by omega) _, hn6, ?_⟩
                  rw [hevX, ← hinc2]
                  rw [eo, hMl2] at q10
                  exact q10
            · have hd2 : d = ws.length := by omega
              subst hd2
              rw [List.take_length] at hf4
              try simp (disch := first | omega | (simp only [ints_length, List.length_replicate, List.length_set] <;> omega)) only [Sall,evalOp,init,binE,binI,unE,convE,okNil,builtE,gv,TD.isAgg,resV,↓reduceIte,Nat.reduceEqDiff,reduceCtorEq,Nat.reduceAdd,Nat.reduceMul,Nat.reduceLeDiff,quietOp,blindOp,Int.reduceEq,Int.reduceLT,Int.reduceLE,Nat.reduceLT,tiA, h8, h7, h19, h18, h17, h5, h1, w64]
              refine ⟨l.length / 4 - (c + 1), by omega, c + 1, rfl, by omega, by omega, hup4, hnx4, ?_⟩
              rw [evR_succ, ← List.append_assoc]; exact hf4
        · have hc2 : c = l.length / 4 := by omega
          subst hc2
          try simp (disch := first | omega | (simp only [ints_length, List.length_replicate, List.length_set] <;> omega)) only [Sall,evalOp,init,binE,binI,unE,convE,okNil,builtE,gv,TD.isAgg,resV,↓reduceIte,Nat.reduceEqDiff,reduceCtorEq,Nat.reduceAdd,Nat.reduceMul,Nat.reduceLeDiff,quietOp,blindOp,Int.reduceEq,Int.reduceLT,Int.reduceLE,Nat.reduceLT,tiA, h19, h18, h17, h5, h1, w64]
          refine ⟨R.length - (a + 1), by omega, a + 1, rfl, by omega, by omega, hup3, hnx3, ?_⟩
          rw [hevS]; exact hf3
    · have ha2 : a = R.length := by omega
      subst ha2
      try simp (disch := first | omega | (simp only [ints_length, List.length_replicate, List.length_set] <;> omega)) only [Sall,evalOp,init,binE,binI,unE,convE,okNil,builtE,gv,TD.isAgg,resV,↓reduceIte,Nat.reduceEqDiff,reduceCtorEq,Nat.reduceAdd,Nat.reduceMul,Nat.reduceLeDiff,quietOp,blindOp,Int.reduceEq,Int.reduceLT,Int.reduceLE,Nat.reduceLT,tiA, h5]
      exact ⟨hup, hf.wide (by omega) hnx⟩
end Go.Proofs.Ytgkmdfjjlghecaa.A
end

section
set_option linter.unusedSimpArgs false
set_option linter.unusedVariables false
set_option maxRecDepth 100000
set_option maxHeartbeats 2000000
namespace Go.Proofs.Ytgkmdfjjlghecaa.A
open Go Go.Abs Go.RowKit

def EvOk (n : Nat) (R : List (List Int)) : Prop := R.length ≤ 20 ∧ ∀ i, i < R.length → (R.getD i []).length ≤ 16 ∧ ∀ x ∈ R.getD i [], 0 ≤ x ∧ x < (n : Int)

theorem partners_c (n : Nat) (hn : 1 ≤ n ∧ n ≤ 16) (u : Value) (R : List (List Int)) (H : AH) (hu : Rd2 1 H u R) (hR : EvOk n R) :
    ACalls Try.prog 120 [.agg #[.int .i64 n, u]] H (fun r H' => Up H.next H H' ∧ Fr2 1 38 2 H.next H'.next H' r (tabM n wP R)) := by
  refine ACalls.wf (by kernel_rfl) fun hs => acalls_of_awp [.tmp 2] Try.func120 (by kernel_rfl) rfl rfl (Nat.le_of_ble_eq_true rfl) (by kernel_rfl) ?_
  have hone := hu.one
  have zz : zeros 2 [.int .i64 0, .int .i64 0] = [.int .i64 0, .int .i64 0, .int .i64 0, .int .i64 0] := rfl
  have sp0 : splice ([.int .i64 0, .int .i64 0, .int .i64 0, .int .i64 0] : List Value) 0 [.int .i64 0, .int .i64 1] = [.int .i64 0, .int .i64 1, .int .i64 0, .int .i64 0] := rfl
  have sp1 : splice ([.int .i64 0, .int .i64 1, .int .i64 0, .int .i64 0] : List Value) 2 [.int .i64 2, .int .i64 3] = [.int .i64 0, .int .i64 1, .int .i64 2, .int .i64 3] := rfl
  try simp (disch := first | omega | (simp only [ints_length, List.length_replicate, List.length_set] <;> omega)) only [Sall,evalOp,init,binE,binI,unE,convE,okNil,builtE,gv,TD.isAgg,resV,↓reduceIte,Nat.reduceEqDiff,reduceCtorEq,Nat.reduceAdd,Nat.reduceMul,Nat.reduceLeDiff,quietOp,blindOp,Int.reduceEq,Int.reduceLT,Int.reduceLE,Nat.reduceLT,tiA, hone, slCells, zz, sp0, sp1]
  obtain ⟨H2, e2⟩ : ∃ H2, H2 = (H.push ⟨65, true, [.int .i64 n, u]⟩).push ⟨165, true, [.int .i64 0, .int .i64 1, .int .i64 2, .int .i64 3]⟩ := ⟨_, rfl⟩
  have up2 : Up H.next H H2 := by rw [e2]; exact ((Up.refl _ H).push (Nat.le_refl _) _).push (by simp only [AH.push_next]; omega) _
  have r2 : H2.row (H.next + 1) = some ⟨165, true, [.int .i64 0, .int .i64 1, .int .i64 2, .int .i64 3]⟩ := by rw [e2, AH.push_row, AH.push_next, if_pos rfl]
  have n2 : H2.next = H.next + 2 := by rw [e2]; rfl
  rw [← e2]
  clear e2
  refine (together_c n hn u R (.slice (some ⟨H.next + 1, 0, some 2⟩) 2 2) wP H2 (hu.same (up2.le hs).row) ⟨rfl, .inr ⟨H.next + 1, 0, _, _, _, rfl, r2, Nat.le_refl _, rfl⟩⟩ (by decide) (by decide) hR.1 hR.2).mono ?_
  rintro r H3 ⟨up3, f3⟩
  have n3 := up3.next
  have ho := f3.rd.one
  refine Holds.mp ?_
  try simp (disch := first | omega | (simp only [ints_length, List.length_replicate, List.length_set] <;> omega)) only [Sall,evalOp,init,binE,binI,unE,convE,okNil,builtE,gv,TD.isAgg,resV,↓reduceIte,Nat.reduceEqDiff,reduceCtorEq,Nat.reduceAdd,Nat.reduceMul,Nat.reduceLeDiff,quietOp,blindOp,Int.reduceEq,Int.reduceLT,Int.reduceLE,Nat.reduceLT,tiA, ho]
  exact ⟨up2.trans up3 (by omega), f3.wide (by omega) (Nat.le_refl _)⟩

theorem opponents0_c (n : Nat) (hn : 1 ≤ n ∧ n ≤ 16) (u : Value) (R : List (List Int)) (H : AH) (hu : Rd2 1 H u R) (hR : EvOk n R) :
    ACalls Try.prog 117 [.agg #[.int .i64 n, u], .int .i64 0] H (fun r H' => Up H.next H H' ∧ Fr2 1 38 2 H.next H'.next H' r (tabM n wO R)) := by
  have hone := hu.one
  have zz : zeros 4 [.int .i64 0, .int .i64 0] = [.int .i64 0, .int .i64 0, .int .i64 0, .int .i64 0, .int .i64 0, .int .i64 0, .int .i64 0, .int .i64 0] := rfl
  have sp0 : splice ([.int .i64 0, .int .i64 0, .int .i64 0, .int .i64 0, .int .i64 0, .int .i64 0, .int .i64 0, .int .i64 0] : List Value) 0 [.int .i64 0, .int .i64 2] = [.int .i64 0, .int .i64 2, .int .i64 0, .int .i64 0, .int .i64 0, .int .i64 0, .int .i64 0, .int .i64 0] := rfl
  have sp1 : splice ([.int .i64 0, .int .i64 2, .int .i64 0, .int .i64 0, .int .i64 0, .int .i64 0, .int .i64 0, .int .i64 0] : List Value) 2 [.int .i64 1, .int .i64 3] = [.int .i64 0, .int .i64 2, .int .i64 1, .int .i64 3, .int .i64 0, .int .i64 0, .int .i64 0, .int .i64 0] := rfl
  have sp2 : splice ([.int .i64 0, .int .i64 2, .int .i64 1, .int .i64 3, .int .i64 0, .int .i64 0, .int .i64 0, .int .i64 0] : List Value) 4 [.int .i64 0, .int .i64 3] = [.int .i64 0, .int .i64 2, .int .i64 1, .int .i64 3, .int .i64 0, .int .i64 3, .int .i64 0, .int .i64 0] := rfl
  have sp3 : splice ([.int .i64 0, .int .i64 2, .int .i64 1, .int .i64 3, .int .i64 0, .int .i64 3, .int .i64 0, .int .i64 0] : List Value) 6 [.int .i64 1, .int .i64 2] = [.int .i64 0, .int .i64 2, .int .i64 1, .int .i64 3, .int .i64 0, .int .i64 3, .int .i64 1, .int .i64 2] := rfl
  refine ACalls.wf (by kernel_rfl) fun hs => acalls_of_awp [.tmp 4] Try.func117 (by kernel_rfl) rfl rfl (Nat.le_of_ble_eq_true rfl) (by kernel_rfl) ?_
  have e1 : ((0 : Int) == 1) = false := rfl
  have e2' : ((0 : Int) == 2) = false := rfl
  try simp (disch := first | omega | (simp only [ints_length, List.length_replicate, List.length_set] <;> omega)) only [Sall,evalOp,init,binE,binI,unE,convE,okNil,builtE,gv,TD.isAgg,resV,↓reduceIte,Nat.reduceEqDiff,reduceCtorEq,Nat.reduceAdd,Nat.reduceMul,Nat.reduceLeDiff,quietOp,blindOp,Int.reduceEq,Int.reduceLT,Int.reduceLE,Nat.reduceLT,tiA, hone, slCells, zz, sp0, sp1, sp2, sp3, e1, e2']
  obtain ⟨H2, e2⟩ : ∃ H2, H2 = (H.push ⟨65, true, [.int .i64 n, u]⟩).push ⟨165, true, [.int .i64 0, .int .i64 2, .int .i64 1, .int .i64 3, .int .i64 0, .int .i64 3, .int .i64 1, .int .i64 2]⟩ := ⟨_, rfl⟩
  have up2 : Up H.next H H2 := by rw [e2]; exact ((Up.refl _ H).push (Nat.le_refl _) _).push (by simp only [AH.push_next]; omega) _
  have r2 : H2.row (H.next + 1) = some ⟨165, true, [.int .i64 0, .int .i64 2, .int .i64 1, .int .i64 3, .int .i64 0, .int .i64 3, .int .i64 1, .int .i64 2]⟩ := by rw [e2, AH.push_row, AH.push_next, if_pos rfl]
  have n2 : H2.next = H.next + 2 := by rw [e2]; rfl
  rw [← e2]
  clear e2
  refine (together_c n hn u R (.slice (some ⟨H.next + 1, 0, some 2⟩) 4 4) wO H2 (hu.same (up2.le hs).row) ⟨rfl, .inr ⟨H.next + 1, 0, _, _, _, rfl, r2, by decide, rfl⟩⟩ (by decide) (by decide) hR.1 hR.2).mono ?_
  rintro r H3 ⟨up3, f3⟩
  have n3 := up3.next
  have ho := f3.rd.one
  refine Holds.mp ?_
  try simp (disch := first | omega | (simp only [ints_length, List.length_replicate, List.length_set] <;> omega)) only [Sall,evalOp,init,binE,binI,unE,convE,okNil,builtE,gv,TD.isAgg,resV,↓reduceIte,Nat.reduceEqDiff,reduceCtorEq,Nat.reduceAdd,Nat.reduceMul,Nat.reduceLeDiff,quietOp,blindOp,Int.reduceEq,Int.reduceLT,Int.reduceLE,Nat.reduceLT,tiA, ho]
  exact ⟨up2.trans up3 (by omega), f3.wide (by omega) (Nat.le_refl _)⟩

end Go.Proofs.Ytgkmdfjjlghecaa.A
end

section
set_option linter.unusedSimpArgs false
set_option linter.unusedVariables false
set_option maxRecDepth 100000
set_option maxHeartbeats 2000000
namespace Go.Proofs.Ytgkmdfjjlghecaa.A
open Go Go.Abs Go.RowKit

theorem xor4 : ∀ a w : Fin 4, IntKind.i64.wrap ((BitVec.ofInt IntKind.i64.bits ((a.val : Nat) : Int) ^^^ BitVec.ofInt IntKind.i64.bits ((w.val : Nat) : Int)).toNat : Int) = ((a.val ^^^ w.val : Nat) : Int) := by decide
theorem xor4' {a w : Nat} (ha : a < 4) (hw : w < 4) : IntKind.i64.wrap ((BitVec.ofInt IntKind.i64.bits (a : Int) ^^^ BitVec.ofInt IntKind.i64.bits (w : Int)).toNat : Int) = ((a ^^^ w : Nat) : Int) := xor4 ⟨a, ha⟩ ⟨w, hw⟩
theorem xor_lt4 {a w : Nat} (ha : a < 4) (hw : w < 4) : a ^^^ w < 4 := Nat.xor_lt_two_pow (n := 2) ha hw

theorem l06Table_c (n : Nat) (hn : 1 ≤ n ∧ n ≤ 16) (u : Value) (R : List (List Int)) (wv : Value) (us : List Nat) (ws : List (Nat × Nat)) (hway : wayOk us ws) (H : AH) (hu : Rd2 1 H u R) (hw : Rd 1 H wv us.length (us.map fun (w : Nat) => (w : Int))) (hus : ∀ w ∈ us, w < 4) (hul : us.length ≤ 4)
    (hR : EvOk n R) (hR4 : ∀ i, i < R.length → (R.getD i []).length % 4 = 0) :
    ACalls Try.prog 119 [.agg #[.int .i64 n, u], wv] H (fun r H' => Up H.next H H' ∧ Fr2 1 38 2 H.next H'.next H' r (tabM n ws R)) := by
  refine ACalls.wf (by kernel_rfl) fun hs => acalls_of_awp [.tmp 4] Try.func119 (by kernel_rfl) rfl rfl (Nat.le_of_ble_eq_true rfl) (by kernel_rfl) ?_
  have hone := hu.one
  have hRl := hR.1
  rw [← svA_tab hway hR4]
  have up : Up H.next H (H.push ⟨65, true, [.int .i64 n, u]⟩) := (Up.refl _ H).push (Nat.le_refl _) _
  have e1 : (H.push ⟨65, true, [.int .i64 n, u]⟩).row H.next = some ⟨65, true, [.int .i64 n, u]⟩ := by rw [AH.push_row, if_pos rfl]
  have n1 : (H.push ⟨65, true, [.int .i64 n, u]⟩).next = H.next + 1 := rfl
  try simp (disch := first | omega | (simp only [ints_length, List.length_replicate, List.length_set] <;> omega)) only [Sall,evalOp,init,binE,binI,unE,convE,okNil,builtE,gv,TD.isAgg,resV,↓reduceIte,Nat.reduceEqDiff,reduceCtorEq,Nat.reduceAdd,Nat.reduceMul,Nat.reduceLeDiff,quietOp,blindOp,Int.reduceEq,Int.reduceLT,Int.reduceLE,Nat.reduceLT,tiA, hone]
  revert up e1 n1
  generalize H.push ⟨65, true, [.int .i64 n, u]⟩ = H1
  intro up e1 n1
  try simp (disch := first | omega | (simp only [ints_length, List.length_replicate, List.length_set] <;> omega)) only [Sall,evalOp,init,binE,binI,unE,convE,okNil,builtE,gv,TD.isAgg,resV,↓reduceIte,Nat.reduceEqDiff,reduceCtorEq,Nat.reduceAdd,Nat.reduceMul,Nat.reduceLeDiff,quietOp,blindOp,Int.reduceEq,Int.reduceLT,Int.reduceLE,Nat.reduceLT,tiA, zeros_zero]
  refine awp_loop (fun m t H' => ∃ (a : Nat) (o : Value) (lo hi : Nat), m = n - a ∧ a ≤ n ∧ t 6 = .int .i64 a ∧ t 5 = o ∧ t 1 = wv ∧ t 2 = .pointer (some ⟨H.next, 0, none⟩) ∧ Up H.next H H' ∧ H'.row H.next = some ⟨65, true, [.int .i64 n, u]⟩ ∧ H.next < lo ∧ lo ≤ hi ∧ hi ≤ H'.next ∧ Fr2 1 38 2 lo hi H' o (List.replicate a (List.replicate n 0))) n ?_ ?_
  · refine ⟨0, .slice (some ⟨H1.next, 0, some 1⟩) 0 0, H1.next, H1.next + 1, by omega, by omega, ?_⟩
    try simp (disch := first | omega | (simp only [ints_length, List.length_replicate, List.length_set] <;> omega)) only [Sall,evalOp,init,binE,binI,unE,convE,okNil,builtE,gv,TD.isAgg,resV,↓reduceIte,Nat.reduceEqDiff,reduceCtorEq,Nat.reduceAdd,Nat.reduceMul,Nat.reduceLeDiff,quietOp,blindOp,Int.reduceEq,Int.reduceLT,Int.reduceLE,Nat.reduceLT,tiA, Int.natCast_zero]
    refine ⟨by rw [n1], up.push (by omega) _, by rw [if_neg (by omega), e1], ?_⟩
    (repeat refine And.intro (by omega) ?_)
    exact .inr ⟨H1.next, [], fun _ => H1.next + 1, by omega, by omega, rfl, by rw [AH.push_row, if_pos rfl], rfl, by dsimp only; omega, by dsimp only; omega, .inl (by dsimp only; omega), fun _ => Nat.le_refl _, fun j hj => by simp at hj⟩
  · rintro m t H' ⟨a, o, lo, hi, hm, han, h6, h5, h1, h2, hup, hr1, hlo, hlh, hhi, hfr⟩
    have hup1 := hup.next
    try simp (disch := first | omega | (simp only [ints_length, List.length_replicate, List.length_set] <;> omega)) only [Sall,evalOp,init,binE,binI,unE,convE,okNil,builtE,gv,TD.isAgg,resV,↓reduceIte,Nat.reduceEqDiff,reduceCtorEq,Nat.reduceAdd,Nat.reduceMul,Nat.reduceLeDiff,quietOp,blindOp,Int.reduceEq,Int.reduceLT,Int.reduceLE,Nat.reduceLT,tiA, h6, h2, hr1]
    refine condC_dec (fun h => ?_) (fun h => ?_)
    · have zz : zeros 1 [.slice none 0 0] = [.slice none 0 0] := rfl
      have ne1 : ¬ H'.next = H'.next + 1 := by omega
      try simp (disch := first | omega | (simp only [ints_length, List.length_replicate, List.length_set] <;> omega)) only [Sall,evalOp,init,binE,binI,unE,convE,okNil,builtE,gv,TD.isAgg,resV,↓reduceIte,Nat.reduceEqDiff,reduceCtorEq,Nat.reduceAdd,Nat.reduceMul,Nat.reduceLeDiff,quietOp,blindOp,Int.reduceEq,Int.reduceLT,Int.reduceLE,Nat.reduceLT,tiA, h6, h5, h1, h2, hr1, zeros_int0, zz, slCells]
      (repeat refine And.intro (by omega) ?_)
      obtain ⟨H2, e2⟩ : ∃ H2, H2 = (H'.push ⟨2, true, ints (List.replicate n 0)⟩).push ⟨38, true, [.slice (some ⟨H'.next, 0, some 1⟩) n n]⟩ := ⟨_, rfl⟩
      have n2 : H2.next = H'.next + 2 := by rw [e2]; rfl
      have s2 : ∀ i, i < H'.next → H2.row i = H'.row i := fun i hi => by rw [e2, AH.push_row, if_neg (by rw [AH.push_next]; omega), AH.push_row, if_neg (by omega)]
      have x2 : H2.row H'.next = some ⟨2, true, ints (List.replicate n 0)⟩ := by rw [e2, AH.push_row, if_neg (by rw [AH.push_next]; omega), AH.push_row, if_pos rfl]
      rw [← e2]
      clear e2
      refine appE_fr2 (hfr.same fun i _ hi => s2 i (by omega)) (m := n) (l := List.replicate n 0) ⟨by simp, .inr ⟨H'.next, by omega, by omega, rfl, x2⟩⟩ rfl (by decide) (by rw [List.length_replicate]; omega) hlh (by omega) ?_
      intro v' H3 n3 s3 f3
      try simp (disch := first | omega | (simp only [ints_length, List.length_replicate, List.length_set] <;> omega)) only [Sall,evalOp,init,binE,binI,unE,convE,okNil,builtE,gv,TD.isAgg,resV,↓reduceIte,Nat.reduceEqDiff,reduceCtorEq,Nat.reduceAdd,Nat.reduceMul,Nat.reduceLeDiff,quietOp,blindOp,Int.reduceEq,Int.reduceLT,Int.reduceLE,Nat.reduceLT,tiA, h6, h1, h2, w64]
      refine ⟨n - (a + 1), by omega, a + 1, v', lo, H2.next + 1, rfl, by omega, rfl, rfl, ⟨by omega, fun i hi => ?_⟩, ?_, by omega, by omega, by omega, ?_⟩
      · rw [s3 i (by omega) (by omega), s2 i (by omega), hup.row i hi]
      · rw [s3 _ (by omega) (by omega), s2 _ (by omega), hr1]
      · rw [replicate_snoc]; exact f3
    · have ha : a = n := by omega
      subst ha
      try simp (disch := first | omega | (simp only [ints_length, List.length_replicate, List.length_set] <;> omega)) only [Sall,evalOp,init,binE,binI,unE,convE,okNil,builtE,gv,TD.isAgg,resV,↓reduceIte,Nat.reduceEqDiff,reduceCtorEq,Nat.reduceAdd,Nat.reduceMul,Nat.reduceLeDiff,quietOp,blindOp,Int.reduceEq,Int.reduceLT,Int.reduceLE,Nat.reduceLT,tiA, h5, h1, h2]
      have hf0 : Fr2 1 38 2 lo hi H' o (cntMx a (svA a us R 0)) := by rw [show svA a us R 0 = [] from rfl, cntMx_nil]; exact hfr
      refine awp_loop (fun m t H2 => ∃ i : Nat, m = R.length - i ∧ i ≤ R.length ∧ t 7 = .int .i64 i ∧ t 5 = o ∧ t 1 = wv ∧ t 2 = .pointer (some ⟨H.next, 0, none⟩) ∧ Up H.next H H2 ∧ hi ≤ H2.next ∧ H2.row H.next = some ⟨65, true, [.int .i64 a, u]⟩ ∧ Fr2 1 38 2 lo hi H2 o (cntMx a (svA a us R i))) R.length ?_ ?_
      · refine ⟨0, by omega, by omega, ?_⟩
        try simp (disch := first | omega | (simp only [ints_length, List.length_replicate, List.length_set] <;> omega)) only [Sall,evalOp,init,binE,binI,unE,convE,okNil,builtE,gv,TD.isAgg,resV,↓reduceIte,Nat.reduceEqDiff,reduceCtorEq,Nat.reduceAdd,Nat.reduceMul,Nat.reduceLeDiff,quietOp,blindOp,Int.reduceEq,Int.reduceLT,Int.reduceLE,Nat.reduceLT,tiA, Int.natCast_zero, h5, h1, h2]
        exact ⟨hup, hhi, hr1, hf0⟩
      · rintro m t H2 ⟨i, hm, hik, h7, h5, h1, h2, hup2, hn2, hr2, hf2⟩
        have hu2 := (hu.same (hup2.le hs).row).len
        try simp (disch := first | omega | (simp only [ints_length, List.length_replicate, List.length_set] <;> omega)) only [Sall,evalOp,init,binE,binI,unE,convE,okNil,builtE,gv,TD.isAgg,resV,↓reduceIte,Nat.reduceEqDiff,reduceCtorEq,Nat.reduceAdd,Nat.reduceMul,Nat.reduceLeDiff,quietOp,blindOp,Int.reduceEq,Int.reduceLT,Int.reduceLE,Nat.reduceLT,tiA, h7, h2, hr2, builtE, hu2]
        refine condC_dec (fun hh => ?_) (fun hh => ?_)
        · obtain ⟨xi, xo, xuu, xc, xr, y, my, ex, hxr, hy, hsx, hok⟩ := hu.get (j := i) (by omega)
          have hxr' : H2.row xi = some xr := (hup2.le hs).row _ _ hxr
          obtain ⟨hl16, hin⟩ := hR.2 i (by omega)
          have hl4 := hR4 i (by omega)
          have hmm := hsx.lenK1
          have hevS := svA_succ a us R i
          have hI0 : (svA a us R i).length ≤ 2000 := by
            have := svA_length (n := a) (ws := us) (fun i hi => (hR.2 i hi).1) i (by omega)
            have h2 : i * (16 * us.length) ≤ 20 * 64 := Nat.mul_le_mul (by have := hR.1; omega) (by omega)
            omega
          revert hsx hl16 hin hl4 hmm hevS
          generalize R.getD i [] = l
          intro hsx hl16 hin hl4 hmm hevS
          subst hmm
          have hold : ∀ {H3 : AH}, Up H.next H H3 → Rd 1 H3 y l.length l := fun hup3 => hsx.same (hup3.le hs).row
          try simp (disch := first | omega | (simp only [ints_length, List.length_replicate, List.length_set] <;> omega)) only [Sall,evalOp,init,binE,binI,unE,convE,okNil,builtE,gv,TD.isAgg,resV,↓reduceIte,Nat.reduceEqDiff,reduceCtorEq,Nat.reduceAdd,Nat.reduceMul,Nat.reduceLeDiff,quietOp,blindOp,Int.reduceEq,Int.reduceLT,Int.reduceLE,Nat.reduceLT,tiA, h7, h5, h1, h2, hr2, ex, hxr', hy, hok]
          (repeat refine And.intro (by omega) ?_)
          refine awp_loop (fun m t H3 => ∃ k : Nat, m = l.length - k ∧ k ≤ l.length ∧ t 9 = .int .i64 k ∧ t 8 = y ∧ t 7 = .int .i64 i ∧ t 5 = o ∧ t 1 = wv ∧ t 2 = .pointer (some ⟨H.next, 0, none⟩) ∧ Up H.next H H3 ∧ hi ≤ H3.next ∧ H3.row H.next = some ⟨65, true, [.int .i64 a, u]⟩ ∧ Fr2 1 38 2 lo hi H3 o (cntMx a (svA a us R i ++ svR a us l k))) l.length ?_ ?_
          · refine ⟨0, by omega, by omega, ?_⟩
            try simp (disch := first | omega | (simp only [ints_length, List.length_replicate, List.length_set] <;> omega)) only [Sall,evalOp,init,binE,binI,unE,convE,okNil,builtE,gv,TD.isAgg,resV,↓reduceIte,Nat.reduceEqDiff,reduceCtorEq,Nat.reduceAdd,Nat.reduceMul,Nat.reduceLeDiff,quietOp,blindOp,Int.reduceEq,Int.reduceLT,Int.reduceLE,Nat.reduceLT,tiA, Int.natCast_zero, h7, h5, h1, h2]
            refine ⟨hup2, hn2, ?_, ?_⟩
            · exact hr2
            · rw [show svR a us l 0 = [] from rfl, List.append_nil]; exact hf2
          · rintro m t H3 ⟨k, hm, hk, h9, h8, h7, h5, h1, h2, hup3, hn3, hr3, hf3⟩
            have hl3 := (hold hup3).len
            try simp (disch := first | omega | (simp only [ints_length, List.length_replicate, List.length_set] <;> omega)) only [Sall,evalOp,init,binE,binI,unE,convE,okNil,builtE,gv,TD.isAgg,resV,↓reduceIte,Nat.reduceEqDiff,reduceCtorEq,Nat.reduceAdd,Nat.reduceMul,Nat.reduceLeDiff,quietOp,blindOp,Int.reduceEq,Int.reduceLT,Int.reduceLE,Nat.reduceLT,tiA, h9, h8, builtE, hl3]
            refine condC_dec (fun hhh => ?_) (fun hhh => ?_)
            · obtain ⟨yi, yo, yu, yc, yr, ey, hyr, _, hyg, _⟩ := (hold (Up.refl H.next H)).get (by omega)
              have hyi := hs _ _ hyr
              have hyr3 : H3.row yi = some yr := by rw [hup3.row _ hyi]; exact hyr
              have mem : ∀ j, j < l.length → 0 ≤ l.getD j 0 ∧ l.getD j 0 < (a : Int) := fun j hj => hin _ (by rw [List.getD_eq_getElem?_getD, List.getElem?_eq_getElem hj]; exact List.getElem_mem _)
              have m1 := mem k (by omega)
              have g1 := hyg k (by omega)
              obtain ⟨p, ep⟩ : ∃ p : Nat, l.getD k 0 = (p : Int) := ⟨(l.getD k 0).toNat, by omega⟩
              rw [ep] at g1 m1
              have hsq0 := cntMx_sq a (svA a us R i ++ svR a us l k)
              have hrow0 := hsq0.2 p (by omega)
              obtain ⟨mi, mvs, i6, eo, q1, q2, q3, q4, q5, q6, q7, q8, q9⟩ := hf3.setF (j := p) (by rw [hsq0.1]; omega) (by omega)
              rw [hsq0.1] at eo
              rw [hrow0] at q4
              try simp (disch := first | omega | (simp only [ints_length, List.length_replicate, List.length_set] <;> omega)) only [Sall,evalOp,init,binE,binI,unE,convE,okNil,builtE,gv,TD.isAgg,resV,↓reduceIte,Nat.reduceEqDiff,reduceCtorEq,Nat.reduceAdd,Nat.reduceMul,Nat.reduceLeDiff,quietOp,blindOp,Int.reduceEq,Int.reduceLT,Int.reduceLE,Nat.reduceLT,tiA, h9, h8, h7, h5, h1, h2, ey, hyr3, g1, eo, q3, q4]
              (repeat refine And.intro (by omega) ?_)
              refine awp_loop (fun m t H4 => ∃ d : Nat, m = us.length - d ∧ d ≤ us.length ∧ t 11 = .int .i64 d ∧ t 10 = .slice (some ⟨i6, 0, some 1⟩) a a ∧ t 9 = .int .i64 k ∧ t 8 = y ∧ t 7 = .int .i64 i ∧ t 5 = o ∧ t 1 = wv ∧ t 2 = .pointer (some ⟨H.next, 0, none⟩) ∧ Up H.next H H4 ∧ hi ≤ H4.next ∧ H4.row H.next = some ⟨65, true, [.int .i64 a, u]⟩ ∧ H4.row mi = some ⟨38, true, mvs⟩ ∧ Fr2 1 38 2 lo hi H4 o (cntMx a (svA a us R i ++ svR a us l k ++ svW a l k (us.take d)))) us.length ?_ ?_
              · refine ⟨0, by omega, by omega, ?_⟩
                try simp (disch := first | omega | (simp only [ints_length, List.length_replicate, List.length_set] <;> omega)) only [Sall,evalOp,init,binE,binI,unE,convE,okNil,builtE,gv,TD.isAgg,resV,↓reduceIte,Nat.reduceEqDiff,reduceCtorEq,Nat.reduceAdd,Nat.reduceMul,Nat.reduceLeDiff,quietOp,blindOp,Int.reduceEq,Int.reduceLT,Int.reduceLE,Nat.reduceLT,tiA, Int.natCast_zero, h9, h8, h7, h5, h1, h2]
                refine ⟨hup3, hn3, hr3, q3, ?_⟩
                rw [List.take_zero, show svW a l k [] = [] from rfl, List.append_nil]; exact hf3
              · rintro m t H4 ⟨d, hm, hd, h11, h10, h9, h8, h7, h5, h1, h2, hup4, hn4, hr4, hmi4, hf4⟩
                have hw4 := hw.same (hup4.le hs).row
                try simp (disch := first | omega | (simp only [ints_length, List.length_replicate, List.length_set] <;> omega)) only [Sall,evalOp,init,binE,binI,unE,convE,okNil,builtE,gv,TD.isAgg,resV,↓reduceIte,Nat.reduceEqDiff,reduceCtorEq,Nat.reduceAdd,Nat.reduceMul,Nat.reduceLeDiff,quietOp,blindOp,Int.reduceEq,Int.reduceLT,Int.reduceLE,Nat.reduceLT,tiA, h11, h1, builtE, hw4.len]
                refine condC_dec (fun hh4 => ?_) (fun hh4 => ?_)
                · obtain ⟨wi, wo, wu, wc, wr, ew, hwr, _, hwg, _⟩ := hw4.get (by omega)
                  have hwa := hwg d (by omega)
                  have hwd : (us.map fun (w : Nat) => (w : Int)).getD d 0 = ((us.getD d 0 : Nat) : Int) := by
                    rw [List.getD_eq_getElem?_getD, List.getElem?_map, List.getD_eq_getElem?_getD, List.getElem?_eq_getElem (by omega)]; rfl
                  rw [hwd] at hwa
                  have w4 := hus (us.getD d 0) (by rw [List.getD_eq_getElem?_getD, List.getElem?_eq_getElem (by omega)]; exact List.getElem_mem _)
                  have hsn := take_snoc us 0 d (by omega)
                  revert hwa w4 hsn
                  generalize us.getD d 0 = w
                  intro hwa w4 hsn
                  have hyr4 : H4.row yi = some yr := by rw [hup4.row _ hyi]; exact hyr
                  have x4 := xor_lt4 (a := k % 4) (by omega) w4
                  have hxor := xor4' (a := k % 4) (by omega) w4
                  obtain ⟨q, hq⟩ : ∃ q, q = k / 4 * 4 + (k % 4 ^^^ w) := ⟨_, rfl⟩
                  have hql : q < l.length := by omega
                  have m2 := mem q hql
                  have g2 := hyg q (by omega)
                  have hsv := svW_snoc a l k (us.take d) w
                  rw [← hsn, ← hq, ep, Int.toNat_natCast] at hsv
                  obtain ⟨z, ez⟩ : ∃ z : Nat, l.getD q 0 = (z : Int) := ⟨(l.getD q 0).toNat, by omega⟩
                  rw [ez] at g2 m2 hsv
                  rw [Int.toNat_natCast] at hsv
                  have hq1 : Int.tdiv (k : Int) 4 = ((k / 4 : Nat) : Int) := rfl
                  have hq2 : Int.tmod (k : Int) 4 = ((k % 4 : Nat) : Int) := rfl
                  have hq3 : (((k / 4 : Nat) : Int) * 4 + ((k % 4 ^^^ w : Nat) : Int)).toNat = q := by omega
                  have hlenI : (svA a us R i ++ svR a us l k ++ svW a l k (us.take d)).length ≤ 10000 := by
                    rw [List.length_append, List.length_append, svR_length, svW_length, List.length_take]
                    have h1 : k * us.length ≤ 16 * 4 := Nat.mul_le_mul (by omega) (by omega)
                    omega
                  have hevX : svA a us R i ++ svR a us l k ++ svW a l k (us.take (d + 1)) = (svA a us R i ++ svR a us l k ++ svW a l k (us.take d)) ++ [ixN a p z] := by rw [hsv]; simp
                  obtain ⟨I, eI⟩ : ∃ I, I = svA a us R i ++ svR a us l k ++ svW a l k (us.take d) := ⟨_, rfl⟩
                  rw [← eI] at hevX hlenI hf4
                  have hsq1 := cntMx_sq a I
                  have hinc1 := cntMx_inc a I p z (by omega) (by omega) (by omega)
                  have hrow1 := hsq1.2 p (by omega)
                  obtain ⟨mj, mvt, i7, eo', p1, p2, p3, p4, p5, p6, p7, p8, p9⟩ := hf4.setF (j := p) (by rw [hsq1.1]; omega) (by omega)
                  have hMl1 := hsq1.1
                  have p10 := p9 (incR ((cntMx a I).getD p []) (z : Int)) (incR_length _ _)
                  rw [hrow1] at p4
                  have emj : mi = mj := by
                    rw [eo] at eo'
                    injection eo' with e
                    injection e with e
                    injection e with e
                  subst emj
                  have emv : mvs = mvt := by
                    rw [hmi4] at p3
                    injection p3 with e
                    injection e
                  subst emv
                  have ei : i6 = i7 := by
                    rw [q4] at p4
                    injection p4 with e
                    injection e with e
                    injection e with e
                    injection e with e
                  subst ei
                  have ne2 : ¬ H.next = i6 := by omega
                  try simp (disch := first | omega | (simp only [ints_length, List.length_replicate, List.length_set] <;> omega)) only [Sall,evalOp,init,binE,binI,unE,convE,okNil,builtE,gv,TD.isAgg,resV,↓reduceIte,Nat.reduceEqDiff,reduceCtorEq,Nat.reduceAdd,Nat.reduceMul,Nat.reduceLeDiff,quietOp,blindOp,Int.reduceEq,Int.reduceLT,Int.reduceLE,Nat.reduceLT,tiA, h11, h10, h9, h8, h7, h5, h1, h2, ey, hyr4, g2, ew, hwr, hwa, hq1, hq2, hxor, hq3, p8, Int.toNat_natCast, ints_get?, ints_set, w64]
                  (repeat refine And.intro (by omega) ?_)
                  refine ⟨us.length - (d + 1), by omega, d + 1, rfl, by omega, by omega, hup4.set (by omega) _, hn4, by rw [if_neg ne2]; exact hr4, by rw [if_neg p7]; exact hmi4, ?_⟩
                  rw [hevX, ← hinc1]
                  exact p10
                · have hd2 : d = us.length := by omega
                  subst hd2
                  rw [List.take_length] at hf4
                  try simp (disch := first | omega | (simp only [ints_length, List.length_replicate, List.length_set] <;> omega)) only [Sall,evalOp,init,binE,binI,unE,convE,okNil,builtE,gv,TD.isAgg,resV,↓reduceIte,Nat.reduceEqDiff,reduceCtorEq,Nat.reduceAdd,Nat.reduceMul,Nat.reduceLeDiff,quietOp,blindOp,Int.reduceEq,Int.reduceLT,Int.reduceLE,Nat.reduceLT,tiA, h9, h8, h7, h5, h1, h2, w64]
                  refine ⟨l.length - (k + 1), by omega, k + 1, rfl, by omega, by omega, hup4, hn4, hr4, ?_⟩
                  rw [svR_succ, ← List.append_assoc]; exact hf4
            · have hk2 : k = l.length := by omega
              subst hk2
              try simp (disch := first | omega | (simp only [ints_length, List.length_replicate, List.length_set] <;> omega)) only [Sall,evalOp,init,binE,binI,unE,convE,okNil,builtE,gv,TD.isAgg,resV,↓reduceIte,Nat.reduceEqDiff,reduceCtorEq,Nat.reduceAdd,Nat.reduceMul,Nat.reduceLeDiff,quietOp,blindOp,Int.reduceEq,Int.reduceLT,Int.reduceLE,Nat.reduceLT,tiA, h7, h5, h1, h2, w64]
              refine ⟨R.length - (i + 1), by omega, i + 1, rfl, by omega, by omega, hup3, hn3, hr3, ?_⟩
              rw [hevS]; exact hf3
        · have hi2 : i = R.length := by omega
          subst hi2
          try simp (disch := first | omega | (simp only [ints_length, List.length_replicate, List.length_set] <;> omega)) only [Sall,evalOp,init,binE,binI,unE,convE,okNil,builtE,gv,TD.isAgg,resV,↓reduceIte,Nat.reduceEqDiff,reduceCtorEq,Nat.reduceAdd,Nat.reduceMul,Nat.reduceLeDiff,quietOp,blindOp,Int.reduceEq,Int.reduceLT,Int.reduceLE,Nat.reduceLT,tiA, h5]
          exact ⟨hup2, hf2.wide (by omega) hn2⟩

end Go.Proofs.Ytgkmdfjjlghecaa.A
end

section
set_option linter.unusedSimpArgs false
set_option linter.unusedVariables false
namespace Go.Abs
open Go Go.RowKit

structure PoolJ (P : Program) (ops : Array Oper) (Q : T → AH → Prop) (post : OT) (J : List Nat → List Nat → T → AH → Prop) : Prop where
  call : ∀ c cs fs t H, J (c :: cs) fs t H → stepI P ops (J cs fs) c (ops.toList[c]?) t H
  free : ∀ a cs fs t H, a ∈ fs → J cs fs t H → stepI P ops (J cs (fs.erase a)) a (ops.toList[a]?) t H
  done : ∀ t H, J [] [] t H → awpT P ops Q post t H

end Go.Abs
end

section
set_option linter.unusedSimpArgs false
set_option linter.unusedVariables false
set_option maxRecDepth 100000
set_option maxHeartbeats 2000000
namespace Go.Proofs.Ytgkmdfjjlghecaa.A
open Go Go.Abs Go.RowKit

structure FtJ (A : AH) (n : Nat) (R : List (List Int)) (sv : Value) (cs fs : List Nat) (t : T) (H : AH) : Prop where
  hcs : cs = [1, 2] ∨ cs = [2] ∨ cs = []
  hfs : fs = [4] ∨ fs = []
  t13 : t 13 = sv
  t16 : t 16 = sv
  up : Up A.next A H
  sc : Sc H
  p1 : 1 ∉ cs → ∃ i, t 14 = .slice (some ⟨i, 0, some 1⟩) 1 1 ∧ i < H.next ∧ H.row i = some ⟨3, true, [.int .i64 1]⟩
  s2 : 2 ∉ cs → Fr2 1 38 2 A.next H.next H (t 15) (tabM n wP R)
  p4 : 4 ∉ fs → ∃ i, t 17 = .slice (some ⟨i, 0, some 1⟩) 2 2 ∧ i < H.next ∧ H.row i = some ⟨3, true, [.int .i64 2, .int .i64 3]⟩
end Go.Proofs.Ytgkmdfjjlghecaa.A
end

section
set_option linter.unusedSimpArgs false
set_option linter.unusedVariables false
set_option maxRecDepth 100000
set_option maxHeartbeats 2000000
namespace Go.Proofs.Ytgkmdfjjlghecaa.A
open Go Go.Abs Go.RowKit

theorem indexI_c (v : Value) (y : List Int) (x : Int) (H : AH) (hv : Rd 1 H v y.length y) (hy : y.length ≤ 4294967296) :
    ACalls Try.prog 162 [v, .int .i64 x] H (is (.int .i64 (firstI (fun i => y.getD i 0 == x) y.length)) H) := by
  refine acalls_up rfl (acalls_of_awp [.tmp 4] Try.func162 (by kernel_rfl) rfl rfl (Nat.le_of_ble_eq_true rfl) (by kernel_rfl) ?_)
  try simp (disch := first | omega | (simp only [ints_length, List.length_replicate, List.length_set] <;> omega)) only [Sall,evalOp,init,binE,binI,unE,convE,okNil,builtE,gv,TD.isAgg,resV,↓reduceIte,Nat.reduceEqDiff,reduceCtorEq,Nat.reduceAdd,Nat.reduceMul,Nat.reduceLeDiff,quietOp,blindOp,Int.reduceEq,Int.reduceLT,Int.reduceLE,Nat.reduceLT,tiA, builtE, hv.len]
  refine awp_loop (fun m t H' => ∃ a : Nat, m = y.length - a ∧ a ≤ y.length ∧ t 8 = .int .i64 a ∧ t 7 = .int .i64 y.length ∧ t 0 = v ∧ t 1 = .int .i64 x ∧ H' = H ∧ (∀ i, i < a → (y.getD i 0 == x) = false)) y.length ?_ ?_
  · refine ⟨0, by omega, by omega, ?_⟩
    try simp (disch := first | omega | (simp only [ints_length, List.length_replicate, List.length_set] <;> omega)) only [Sall,evalOp,init,binE,binI,unE,convE,okNil,builtE,gv,TD.isAgg,resV,↓reduceIte,Nat.reduceEqDiff,reduceCtorEq,Nat.reduceAdd,Nat.reduceMul,Nat.reduceLeDiff,quietOp,blindOp,Int.reduceEq,Int.reduceLT,Int.reduceLE,Nat.reduceLT,tiA, Int.natCast_zero, Nat.not_lt_zero, false_implies]
  · rintro m t H' ⟨a, hm, han, h8, h7, h0, h1, rfl, hall⟩
    try simp (disch := first | omega | (simp only [ints_length, List.length_replicate, List.length_set] <;> omega)) only [Sall,evalOp,init,binE,binI,unE,convE,okNil,builtE,gv,TD.isAgg,resV,↓reduceIte,Nat.reduceEqDiff,reduceCtorEq,Nat.reduceAdd,Nat.reduceMul,Nat.reduceLeDiff,quietOp,blindOp,Int.reduceEq,Int.reduceLT,Int.reduceLE,Nat.reduceLT,tiA, h8, h7]
    refine condC_dec (fun h => ?_) (fun h => ?_)
    · obtain ⟨i, o, u, c, r, rfl, hr, hc, hs, _⟩ := hv.get (by omega)
      have g1 := hs a (by omega)
      by_cases hx : y.getD a 0 = x
      · have e1 : (x == y.getD a 0) = true := by rw [hx]; exact beq_self_eq_true _
        try simp (disch := first | omega | (simp only [ints_length, List.length_replicate, List.length_set] <;> omega)) only [Sall,evalOp,init,binE,binI,unE,convE,okNil,builtE,gv,TD.isAgg,resV,↓reduceIte,Nat.reduceEqDiff,reduceCtorEq,Nat.reduceAdd,Nat.reduceMul,Nat.reduceLeDiff,quietOp,blindOp,Int.reduceEq,Int.reduceLT,Int.reduceLE,Nat.reduceLT,tiA, h8, h0, h1, hr, g1, e1]
        (repeat refine And.intro (by omega) ?_)
        rw [firstI_at (by omega) (by rw [hx]; exact beq_self_eq_true _) hall]
        exact ⟨rfl, Up.refl _ _⟩
      · have e1 : (x == y.getD a 0) = false := beq_eq_false_iff_ne.2 (Ne.symm hx)
        try simp (disch := first | omega | (simp only [ints_length, List.length_replicate, List.length_set] <;> omega)) only [Sall,evalOp,init,binE,binI,unE,convE,okNil,builtE,gv,TD.isAgg,resV,↓reduceIte,Nat.reduceEqDiff,reduceCtorEq,Nat.reduceAdd,Nat.reduceMul,Nat.reduceLeDiff,quietOp,blindOp,Int.reduceEq,Int.reduceLT,Int.reduceLE,Nat.reduceLT,tiA, h8, h7, h0, h1, hr, g1, e1, w64]
        (repeat refine And.intro (by omega) ?_)
        refine ⟨y.length - (a + 1), by omega, a + 1, rfl, by omega, rfl, fun i hi => ?_⟩
        by_cases e : i = a
        · rw [e]; exact beq_eq_false_iff_ne.2 hx
        · exact hall i (by omega)
    · try simp (disch := first | omega | (simp only [ints_length, List.length_replicate, List.length_set] <;> omega)) only [Sall,evalOp,init,binE,binI,unE,convE,okNil,builtE,gv,TD.isAgg,resV,↓reduceIte,Nat.reduceEqDiff,reduceCtorEq,Nat.reduceAdd,Nat.reduceMul,Nat.reduceLeDiff,quietOp,blindOp,Int.reduceEq,Int.reduceLT,Int.reduceLE,Nat.reduceLT,tiA, true_and]
      rw [firstI_none (fun i hi => hall i (by omega))]
      exact ⟨rfl, Up.refl _ _⟩

theorem containsI_c (v : Value) (y : List Int) (x : Int) (H : AH) (hv : Rd 1 H v y.length y) (hy : y.length ≤ 4294967296) :
    ACalls Try.prog 122 [v, .int .i64 x] H (is (.bool (y.contains x)) H) := by
  refine acalls_of_awp [.tmp 4] Try.func122 (by kernel_rfl) rfl rfl (Nat.le_of_ble_eq_true rfl) (by kernel_rfl) ?_
  try simp (disch := first | omega | (simp only [ints_length, List.length_replicate, List.length_set] <;> omega)) only [Sall,evalOp,init,binE,binI,unE,convE,okNil,builtE,gv,TD.isAgg,resV,↓reduceIte,Nat.reduceEqDiff,reduceCtorEq,Nat.reduceAdd,Nat.reduceMul,Nat.reduceLeDiff,quietOp,blindOp,Int.reduceEq,Int.reduceLT,Int.reduceLE,Nat.reduceLT,tiA, true_and]
  refine (indexI_c v y x H hv hy).to ?_
  try simp (disch := first | omega | (simp only [ints_length, List.length_replicate, List.length_set] <;> omega)) only [Sall,evalOp,init,binE,binI,unE,convE,okNil,builtE,gv,TD.isAgg,resV,↓reduceIte,Nat.reduceEqDiff,reduceCtorEq,Nat.reduceAdd,Nat.reduceMul,Nat.reduceLeDiff,quietOp,blindOp,Int.reduceEq,Int.reduceLT,Int.reduceLE,Nat.reduceLT,tiA, is, firstI_any]
  exact any_contains y x

theorem rd_seg {k n i o c : Nat} {u : Option Nat} {H : AH} {l : List Int} (h : Rd k H (.slice (some ⟨i, o, u⟩) n c) n l) (hn : 0 < n) : ∃ r, H.row i = some r ∧ o + n * k ≤ r.cells.length ∧ seg r.cells o (n * k) = ints l := by
  rcases h.2 with ⟨h0, _⟩ | ⟨i', o', u', c', r, e, hr, h3, h4⟩
  · omega
  · cases e; exact ⟨r, hr, h3, h4⟩

def Cp (H : AH) (v : Value) (y : List Int) : Prop := Rd 1 H v y.length y ∧ (y.length = 0 → v = .slice none 0 0 ∨ ∃ i c r, v = .slice (some ⟨i, 0, some 1⟩) 0 c ∧ H.row i = some r ∧ r.rw = true)

theorem Cp.of_fr {ty lo hi : Nat} {H : AH} {v : Value} {y : List Int} (h : Fr 1 ty lo hi H v y.length y) : Cp H v y := by
  refine ⟨h.rd, fun h0 => ?_⟩
  rcases h.2 with ⟨_, rfl⟩ | ⟨i, h1, h2, rfl, hr⟩
  · exact .inl rfl
  · rw [h0]; exact .inr ⟨i, 0, _, rfl, hr, rfl⟩

theorem cloneI_c (v : Value) (y : List Int) (H : AH) (hv : Cp H v y) (hy : y.length ≤ 4194304) :
    ACalls Try.prog 188 [v] H (fun u H' => Up H.next H H' ∧ Fr 1 2 H.next H'.next H' u y.length y) := by
  refine ACalls.wf (by kernel_rfl) fun hs => acalls_of_awp [.tmp 2] Try.func188 (by kernel_rfl) rfl rfl (Nat.le_of_ble_eq_true rfl) (by kernel_rfl) ?_
  obtain ⟨hrd, hz⟩ := hv
  by_cases h0 : y.length = 0
  · have hy0 : y = [] := List.eq_nil_of_length_eq_zero h0
    subst hy0
    rcases hz h0 with rfl | ⟨i, c, r, rfl, hr, hw⟩
    · try simp (disch := first | omega | (simp only [ints_length, List.length_replicate, List.length_set] <;> omega)) only [Sall,evalOp,init,binE,binI,unE,convE,okNil,builtE,gv,TD.isAgg,resV,↓reduceIte,Nat.reduceEqDiff,reduceCtorEq,Nat.reduceAdd,Nat.reduceMul,Nat.reduceLeDiff,quietOp,blindOp,Int.reduceEq,Int.reduceLT,Int.reduceLE,Nat.reduceLT,tiA, binE, Option.isNone_none]
      exact ⟨Up.refl _ _, ⟨rfl, .inl ⟨rfl, rfl⟩⟩⟩
    · have hi := hs _ _ hr
      have ne : ¬ i = H.next := by omega
      have hok : Go.Abs.Row.ok r [] = True := eq_true (.inl hw)
      try simp (disch := first | omega | (simp only [ints_length, List.length_replicate, List.length_set] <;> omega)) only [Sall,evalOp,init,binE,binI,unE,convE,okNil,builtE,gv,TD.isAgg,resV,↓reduceIte,Nat.reduceEqDiff,reduceCtorEq,Nat.reduceAdd,Nat.reduceMul,Nat.reduceLeDiff,quietOp,blindOp,Int.reduceEq,Int.reduceLT,Int.reduceLE,Nat.reduceLT,tiA, binE, zeros_zero, slCells, hr, ne, hok, appE]
      (repeat refine And.intro (by omega) ?_)
      refine ⟨(Up.refl _ H).push (Nat.le_refl _) _, ⟨rfl, .inr ⟨H.next, Nat.le_refl _, Nat.lt_succ_self _, rfl, by rw [AH.push_row, if_pos rfl]; rfl⟩⟩⟩
  · obtain ⟨i, o, u, c, r, rfl, hr, hc, _, _⟩ := hrd.get (by omega)
    obtain ⟨r', hr', hc', hseg⟩ := rd_seg hrd (by omega)
    rw [hr] at hr'
    cases hr'
    rw [Nat.mul_one] at hseg hc
    have hi := hs _ _ hr
    have ne : ¬ i = H.next := by omega
    try simp (disch := first | omega | (simp only [ints_length, List.length_replicate, List.length_set] <;> omega)) only [Sall,evalOp,init,binE,binI,unE,convE,okNil,builtE,gv,TD.isAgg,resV,↓reduceIte,Nat.reduceEqDiff,reduceCtorEq,Nat.reduceAdd,Nat.reduceMul,Nat.reduceLeDiff,quietOp,blindOp,Int.reduceEq,Int.reduceLT,Int.reduceLE,Nat.reduceLT,tiA, binE, zeros_zero, slCells, hr, ne, hseg]
    (repeat refine And.intro (by omega) ?_)
    have h3 : Fr 1 2 H.next (H.next + 1) (H.push ⟨2, true, []⟩) (.slice (some ⟨H.next, 0, some 1⟩) 0 0) 0 [] := ⟨rfl, .inr ⟨H.next, Nat.le_refl _, Nat.lt_succ_self _, rfl, by rw [AH.push_row, if_pos rfl]; rfl⟩⟩
    refine appE_fr h3 rfl (by omega) (by omega) (by omega) (by decide) (by omega) (by rw [AH.push_next]; omega) ?_
    intro v' H4 k1 k2 k3
    rw [AH.push_next] at k1 k2 k3
    rw [Nat.zero_add, List.nil_append] at k3
    have k5 := k3.rd.one
    try simp (disch := first | omega | (simp only [ints_length, List.length_replicate, List.length_set] <;> omega)) only [Sall,evalOp,init,binE,binI,unE,convE,okNil,builtE,gv,TD.isAgg,resV,↓reduceIte,Nat.reduceEqDiff,reduceCtorEq,Nat.reduceAdd,Nat.reduceMul,Nat.reduceLeDiff,quietOp,blindOp,Int.reduceEq,Int.reduceLT,Int.reduceLE,Nat.reduceLT,tiA, true_and]
    exact ⟨⟨by omega, fun i hi => by rw [k2 i (by omega) (by omega), AH.push_row, if_neg (by omega)]⟩, k3.wide (by omega) (by omega)⟩

theorem l01Own_c (v : Value) (y : List Int) (H : AH) (hv : Cp H v y) (hy : y.length ≤ 4194304) :
    ACalls Try.prog 196 [v] H (fun u H' => Up H.next H H' ∧ Fr 1 2 H.next H'.next H' u y.length y) := by
  refine ACalls.wf (by kernel_rfl) fun hs => acalls_of_awp [.tmp 2] Try.func196 (by kernel_rfl) rfl rfl (Nat.le_of_ble_eq_true rfl) (by kernel_rfl) ?_
  obtain ⟨hrd, hz⟩ := hv
  by_cases h0 : y.length = 0
  · have hy0 : y = [] := List.eq_nil_of_length_eq_zero h0
    subst hy0
    rcases hz h0 with rfl | ⟨i, c, r, rfl, hr, hw⟩
    · try simp (disch := first | omega | (simp only [ints_length, List.length_replicate, List.length_set] <;> omega)) only [Sall,evalOp,init,binE,binI,unE,convE,okNil,builtE,gv,TD.isAgg,resV,↓reduceIte,Nat.reduceEqDiff,reduceCtorEq,Nat.reduceAdd,Nat.reduceMul,Nat.reduceLeDiff,quietOp,blindOp,Int.reduceEq,Int.reduceLT,Int.reduceLE,Nat.reduceLT,tiA, zeros_zero, slCells, appE]
      refine ⟨(Up.refl _ H).push (Nat.le_refl _) _, ⟨rfl, .inr ⟨H.next, Nat.le_refl _, Nat.lt_succ_self _, rfl, by rw [AH.push_row, if_pos rfl]; rfl⟩⟩⟩
    · have hi := hs _ _ hr
      have ne : ¬ i = H.next := by omega
      have hok : Go.Abs.Row.ok r [] = True := eq_true (.inl hw)
      try simp (disch := first | omega | (simp only [ints_length, List.length_replicate, List.length_set] <;> omega)) only [Sall,evalOp,init,binE,binI,unE,convE,okNil,builtE,gv,TD.isAgg,resV,↓reduceIte,Nat.reduceEqDiff,reduceCtorEq,Nat.reduceAdd,Nat.reduceMul,Nat.reduceLeDiff,quietOp,blindOp,Int.reduceEq,Int.reduceLT,Int.reduceLE,Nat.reduceLT,tiA, zeros_zero, slCells, hr, ne, hok, appE]
      (repeat refine And.intro (by omega) ?_)
      refine ⟨(Up.refl _ H).push (Nat.le_refl _) _, ⟨rfl, .inr ⟨H.next, Nat.le_refl _, Nat.lt_succ_self _, rfl, by rw [AH.push_row, if_pos rfl]; rfl⟩⟩⟩
  · obtain ⟨i, o, u, c, r, rfl, hr, hc, _, _⟩ := hrd.get (by omega)
    obtain ⟨r', hr', hc', hseg⟩ := rd_seg hrd (by omega)
    rw [hr] at hr'
    cases hr'
    rw [Nat.mul_one] at hseg hc
    have hi := hs _ _ hr
    have ne : ¬ i = H.next := by omega
    try simp (disch := first | omega | (simp only [ints_length, List.length_replicate, List.length_set] <;> omega)) only [Sall,evalOp,init,binE,binI,unE,convE,okNil,builtE,gv,TD.isAgg,resV,↓reduceIte,Nat.reduceEqDiff,reduceCtorEq,Nat.reduceAdd,Nat.reduceMul,Nat.reduceLeDiff,quietOp,blindOp,Int.reduceEq,Int.reduceLT,Int.reduceLE,Nat.reduceLT,tiA, zeros_zero, slCells, hr, ne, hseg]
    (repeat refine And.intro (by omega) ?_)
    have h3 : Fr 1 2 H.next (H.next + 1) (H.push ⟨2, true, []⟩) (.slice (some ⟨H.next, 0, some 1⟩) 0 0) 0 [] := ⟨rfl, .inr ⟨H.next, Nat.le_refl _, Nat.lt_succ_self _, rfl, by rw [AH.push_row, if_pos rfl]; rfl⟩⟩
    refine appE_fr h3 rfl (by omega) (by omega) (by omega) (by decide) (by omega) (by rw [AH.push_next]; omega) ?_
    intro v' H4 k1 k2 k3
    rw [AH.push_next] at k1 k2 k3
    rw [Nat.zero_add, List.nil_append] at k3
    have k5 := k3.rd.one
    try simp (disch := first | omega | (simp only [ints_length, List.length_replicate, List.length_set] <;> omega)) only [Sall,evalOp,init,binE,binI,unE,convE,okNil,builtE,gv,TD.isAgg,resV,↓reduceIte,Nat.reduceEqDiff,reduceCtorEq,Nat.reduceAdd,Nat.reduceMul,Nat.reduceLeDiff,quietOp,blindOp,Int.reduceEq,Int.reduceLT,Int.reduceLE,Nat.reduceLT,tiA, true_and]
    exact ⟨⟨by omega, fun i hi => by rw [k2 i (by omega) (by omega), AH.push_row, if_neg (by omega)]⟩, k3.wide (by omega) (by omega)⟩

/-! ### All orders -/
def Per (b0 : Nat) (H : AH) (v : Value) (y : List Int) : Prop := ∀ H', (∀ i, b0 ≤ i → i < H.next → H'.row i = H.row i) → Cp H' v y
theorem Per.nil (b0 : Nat) (H : AH) : Per b0 H (.slice none 0 0) [] := fun H' _ => ⟨⟨rfl, .inl ⟨rfl, none, 0, rfl, fun _ => rfl⟩⟩, fun _ => .inl rfl⟩
theorem Per.fr {b0 ty lo hi : Nat} {H : AH} {v : Value} {y : List Int} (h : Fr 1 ty lo hi H v y.length y) (hb : b0 ≤ lo) (hn : hi ≤ H.next) : Per b0 H v y := by
  intro H' hr
  refine Cp.of_fr (ty := ty) (lo := lo) (hi := hi) ⟨h.1, ?_⟩
  rcases h.2 with h2 | ⟨i, h1, h2, hv, hri⟩
  · exact .inl h2
  · exact .inr ⟨i, h1, h2, hv, by rw [hr i (by omega) (by omega)]; exact hri⟩

end Go.Proofs.Ytgkmdfjjlghecaa.A
end

section
set_option linter.unusedSimpArgs false
set_option linter.unusedVariables false
set_option maxRecDepth 100000
set_option maxHeartbeats 2000000
namespace Go.Proofs.Ytgkmdfjjlghecaa.A
open Go Go.Abs Go.RowKit Go.Shelf Go.Sort

def compactRen : Go.Shelf.Ren := ⟨fun | 43 => 187 | n => n, fun | 22 => 38 | 23 => 2 | 3 => 3 | 4 => 4 | 0 => 0 | n => n, fun | n => n⟩
theorem compactLy : Go.Proofs.SlLaysN.n43 Try.prog compactRen := {
  mixed := by kernel_rfl
  f43 := ⟨Try.f187.name, by decide, Try.func187.trans (congrArg some (by kernel_rfl))⟩
  t0 := Try.underlying0
  a0 := Try.isAgg0
  z0 := Try.sizeOf0
  v0 := Try.zeroValue0
  t3 := Try.underlying3
  a3 := Try.isAgg3
  z3 := Try.sizeOf3
  v3 := Try.zeroValue3
  t4 := Try.underlying4
  a4 := Try.isAgg4
  z4 := Try.sizeOf4
  v4 := Try.zeroValue4
  t22 := Try.underlying38
  a22 := Try.isAgg38
  z22 := Try.sizeOf38
  v22 := Try.zeroValue38
  t23 := Try.underlying2
  a23 := Try.isAgg2
  z23 := Try.sizeOf2
  v23 := Try.zeroValue2
  i23 := by kernel_rfl }

theorem compact_c (v : Value) (y : List Int) (lo hi : Nat) (H : AH) (hv : Fr 1 2 lo hi H v y.length y) (hy : y.length ≤ 4294967296) :
    ACalls Try.prog 187 [v] H (fun u H' => (∀ H2, asSl u (.val (.int .i64 0) H2) (fun _ _ _ n _ => .val (.int .i64 (n : Int)) H2) = .val (.int .i64 (Lib.compact y).length) H2) ∧ H'.next = H.next ∧ ∀ i, ¬ (lo ≤ i ∧ i < hi) → H'.row i = H.row i) := by
  refine ⟨by kernel_rfl, fun base ρ w args' R hL => ?_⟩
  obtain ⟨hl, hx⟩ := hL
  match args', hl, hx with
  | [a], _, hx =>
    have hva := hx 0 _ _ rfl rfl
    obtain ⟨_, ⟨h0, rfl⟩ | ⟨i, h1, h2, rfl, hr⟩⟩ := hv
    · obtain ⟨_, _, rfl⟩ := hva.nils
      have hy0 : y = [] := List.eq_nil_of_length_eq_zero h0
      subst hy0
      refine (AnyG.slices_Compact_int_empty compactLy none 0 w).mono ?_
      rintro e w' ⟨rfl, rfl⟩
      exact ⟨_, .slice none 0 0, H, ρ, rfl, ⟨fun _ => rfl, rfl, fun _ _ => rfl⟩, R, .scal rfl, Ext.refl _ _ _ _⟩
    · obtain ⟨hi1, a', c', rfl, hc, ⟨rfl, hb, hmx⟩ | ⟨_, h⟩⟩ := hva.slu
      · obtain ⟨hbase, cs, hcs, hL1⟩ := R.rwr i _ hr rfl
        have hL2 : L1 ρ H.next w (ints y) (cs.toList.take y.length) := by simpa [ints_length] using hL1
        have ht : cs.toList.take y.length = y.map (Value.int .i64) := by
          have e : cs.toList.take y.length = ints y := by
            apply List.ext_getElem?
            intro j
            by_cases hj : j < (ints y).length
            · obtain ⟨z, hz, hv1⟩ := hL2.get (ints_get? y j (by rwa [ints_length] at hj))
              rw [hz, ints_get? y j (by rwa [ints_length] at hj), VR.int (.one hv1)]
            · rw [List.getElem?_eq_none (l := ints y) (by omega), List.getElem?_eq_none (by have := hL2.1; omega)]
          exact e
        have hH : Holds (Value.int .i64) w (ρ i) 0 y.toArray := holds_of_blockI hcs ht
        refine (AnyG.slices_Compact_int compactLy (ρ i) 0 c' y w hH (by omega) hc).mono ?_
        rintro e w' ⟨rfl, q, hw'⟩
        obtain ⟨d, hd⟩ : ∃ d, d = Lib.compact y ++ List.replicate (y.length - (Lib.compact y).length) 0 := ⟨_, rfl⟩
        have hle : (Lib.compact y).length ≤ y.length := by
          unfold Lib.compact Lib.compactUpTo
          rw [List.length_map]
          exact Nat.le_trans (List.length_filter_le _ _) (by simp)
        have hdl : d.length = y.length := by rw [hd, List.length_append, List.length_replicate]; omega
        rw [← hd] at hw'
        have hw2 : w' = grow (putRow (Value.int .i64) (Sort.ahead w q) (ρ i) 0 d.toArray) #[] := by rw [hw', grow_empty]
        have hg : w.grownBy w' (some (ρ i)) := by rw [hw2]; exact grownBy_sortedI _
        have h1' := heap_sortedI (n := q) (os := #[]) d.toArray hcs
        rw [← hw2] at h1'
        have hbs : cs.size = c' := by have := hb; simp [bsz, hcs] at this; omega
        have hx2 : L1 ρ H.next w (ints d) ((putCells (Value.int .i64) 0 d.toArray cs).toList.take (ints d).length) := by
          rw [ints_length, take_putCellsI cs d (by omega)]
          exact L1.self fun v hv => by obtain ⟨z, _, rfl⟩ := List.mem_map.1 hv; rfl
        obtain ⟨R', E⟩ := R.turned hr rfl hg hcs h1' (by simp [putCells]) hx2
        refine ⟨_, .slice (some ⟨i, 0, some 1⟩) (Lib.compact y).length (Lib.compact y).length, H.setCells i (ints d), ρ, rfl, ⟨fun _ => rfl, rfl, fun j hj => by rw [AH.setCells_row, if_neg (by rintro rfl; exact hj ⟨h1, h2⟩)]⟩, R', .one (.slu _ _ _ _ _ _ _ hi1 (by omega) (.inl ⟨rfl, ?_, hmx⟩)), E⟩
        have := E.st _ _ hb
        exact this
      · exact absurd h (by omega)
end Go.Proofs.Ytgkmdfjjlghecaa.A
end

section
set_option linter.unusedSimpArgs false
set_option linter.unusedVariables false
set_option maxRecDepth 100000
set_option maxHeartbeats 2000000
namespace Go.Proofs.Ytgkmdfjjlghecaa.A
open Go Go.Abs Go.RowKit

end Go.Proofs.Ytgkmdfjjlghecaa.A
end

section
set_option linter.unusedSimpArgs false
set_option linter.unusedVariables false
namespace Go.Abs

def distB (n : Nat) (l : List Int) : Bool := (l.all fun x => decide (0 ≤ x ∧ x < (n : Int))) && decide l.Nodup
theorem distB_at {n : Nat} {l : List Int} (h : distB n l = true) : (∀ x ∈ l, 0 ≤ x ∧ x < (n : Int)) ∧ l.Nodup := by
  unfold distB at h
  rw [Bool.and_eq_true, List.all_eq_true, decide_eq_true_iff] at h
  exact ⟨fun x hx => of_decide_eq_true (h.1 x hx), h.2⟩
theorem distB_len {n : Nat} {l : List Int} (h : distB n l = true) : l.length ≤ n := by
  obtain ⟨h1, h2⟩ := distB_at h
  by_cases hl : l.length ≤ n
  · exact hl
  · have hp := perm_of_nodup l (seqL 0 n) h2 (fun x hx => (mem_seqL_iff 0 n x).2 (by have := h1 x hx; omega)) (by rw [seqL_length]; omega)
    have := hp.length_eq
    rw [seqL_length] at this
    omega
theorem distB_bad {n : Nat} {y : List Int} {i : Nat} (hi : i < y.length) (h : ¬ (0 ≤ y.getD i 0 ∧ y.getD i 0 < (n : Int)) ∨ (y.take i).contains (y.getD i 0) = true) : distB n y = false := by
  rw [Bool.eq_false_iff]
  intro ho
  obtain ⟨h1, h2⟩ := distB_at ho
  rcases h with h | h
  · exact h (h1 _ (by rw [List.getD_eq_getElem?_getD, List.getElem?_eq_getElem hi]; exact List.getElem_mem _))
  · have h3 := nodup_take h2 (i + 1)
    rw [take_snoc y 0 i hi] at h3
    exact (nodup_snoc.1 h3).2 (List.contains_iff_mem.1 h)
theorem distB_all {n : Nat} {y : List Int} (h : goodTo n y y.length) : distB n y = true := by
  unfold goodTo at h
  rw [List.take_length] at h
  unfold distB
  rw [Bool.and_eq_true, List.all_eq_true]
  exact ⟨fun x hx => decide_eq_true (h.1 x hx), decide_eq_true h.2⟩
theorem sorted_first {y : List Int} (h : 0 < y.length) : (0 ≤ (sortedL y).getD 0 0) ↔ ∀ x ∈ y, 0 ≤ x := by
  have hl := sortedL_length y
  have hs := sortedL_sorted y
  have hp := sortedL_perm y
  cases e : sortedL y with
  | nil => rw [e] at hl; simp at hl; omega
  | cons a z =>
    rw [e] at hs hp
    constructor
    · intro h0 x hx
      have hx2 := hp.symm.subset hx
      rcases List.mem_cons.1 hx2 with h3 | h3
      · rw [h3]; simpa using h0
      · have := List.rel_of_pairwise_cons hs h3
        have h4 : 0 ≤ a := by simpa using h0
        omega
    · intro h0
      have := h0 a (hp.subset List.mem_cons_self)
      simpa using this
theorem sorted_last {y : List Int} {n : Int} (h : 0 < y.length) : ((sortedL y).getD (y.length - 1) 0 < n) ↔ ∀ x ∈ y, x < n := by
  have hl := sortedL_length y
  have hs := sortedL_sorted y
  have hp := sortedL_perm y
  rw [List.pairwise_iff_getElem] at hs
  constructor
  · intro h0 x hx
    obtain ⟨i, hi, rfl⟩ := List.getElem_of_mem (hp.symm.subset hx)
    rw [List.getD_eq_getElem?_getD, List.getElem?_eq_getElem (by omega)] at h0
    simp only [Option.getD_some] at h0
    by_cases e : i = y.length - 1
    · subst e; exact h0
    · have := hs i (y.length - 1) hi (by omega) (by omega)
      omega
  · intro h0
    rw [List.getD_eq_getElem?_getD, List.getElem?_eq_getElem (by omega)]
    exact h0 _ (hp.subset (List.getElem_mem _))
theorem distB_sorted {n : Nat} {y : List Int} (h : 0 < y.length) : distB n y = (decide (0 ≤ (sortedL y).getD 0 0) && decide ((sortedL y).getD (y.length - 1) 0 < (n : Int)) && decide y.Nodup) := by
  unfold distB
  congr 1
  rw [Bool.eq_iff_iff, List.all_eq_true, Bool.and_eq_true, decide_eq_true_iff, decide_eq_true_iff, sorted_first h, sorted_last h]
  constructor
  · intro h1
    exact ⟨fun x hx => (of_decide_eq_true (h1 x hx)).1, fun x hx => (of_decide_eq_true (h1 x hx)).2⟩
  · rintro ⟨h1, h2⟩ x hx
    exact decide_eq_true ⟨h1 x hx, h2 x hx⟩
def evRow (n : Nat) (l : List Int) : Bool := decide (l.length % 4 = 0) && distB n l
def evB (q : Int) (R : List (List Int)) : Bool := decide (4 ≤ q ∧ q ≤ 16) && (decide (R.length ≤ 20) && (List.range R.length).all fun i => evRow q.toNat (R.getD i []))
theorem evB_at {q : Int} {R : List (List Int)} (h : evB q R = true) : ∃ n : Nat, q = n ∧ 4 ≤ n ∧ n ≤ 16 ∧ R.length ≤ 20 ∧ ∀ i, i < R.length → (R.getD i []).length % 4 = 0 ∧ (R.getD i []).length ≤ 16 ∧ (∀ x ∈ R.getD i [], 0 ≤ x ∧ x < (n : Int)) ∧ (R.getD i []).Nodup := by
  unfold evB at h
  rw [Bool.and_eq_true, Bool.and_eq_true, decide_eq_true_iff, decide_eq_true_iff, List.all_eq_true] at h
  obtain ⟨h1, h2, h3⟩ := h
  refine ⟨q.toNat, by omega, by omega, by omega, h2, fun i hi => ?_⟩
  have h4 := h3 i (by simpa using hi)
  unfold evRow at h4
  rw [Bool.and_eq_true, decide_eq_true_iff] at h4
  have h5 := distB_len h4.2
  have h6 := distB_at h4.2
  exact ⟨h4.1, by omega, h6.1, h6.2⟩
def evC (q : Int) (R : List (List Int)) : Int := if evB q R = true then 0 else 1
def poL (q : Int) (R : List (List Int)) : List (List Int) := if evB q R = true then tabM q.toNat wP R else []
end Go.Abs
end
