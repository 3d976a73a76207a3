/- The small logic, ninth text: slices of integers (k cells an element) that are read, and fresh ones. No program is named here. And what follows. -/
import Derived.Test.YtpienljnoaendaaGreatM1
import Derived.Test.YtpienljnoaendaaGreatProg
import Derived.KernelRfl
import Derived.ChangeArms
import Derived.OpenShut
import Derived.DataReads
set_option linter.unusedSimpArgs false
set_option linter.unusedVariables false
section
namespace Go.Abs
open Go Go.RowKit
def Rd (k : Nat) (H : AH) (v : Value) (n : Nat) (l : List Int) : Prop :=
  l.length = n * k ∧ ((n = 0 ∧ ∃ a c, v = .slice a 0 c ∧ (a = none → c = 0)) ∨ ∃ i o u c r, v = .slice (some ⟨i, o, u⟩) n c ∧ H.row i = some r ∧ o + n * k ≤ r.cells.length ∧ seg r.cells o (n * k) = ints l)
def Fr (k : Nat) (ty : TypeId) (lo hi : Nat) (H : AH) (v : Value) (n : Nat) (l : List Int) : Prop :=
  l.length = n * k ∧ ((n = 0 ∧ v = .slice none 0 0) ∨ ∃ i, lo ≤ i ∧ i < hi ∧ v = .slice (some ⟨i, 0, some k⟩) n n ∧ H.row i = some ⟨ty, true, ints l⟩)
theorem Fr.rd {k ty lo hi n : Nat} {H : AH} {v : Value} {l : List Int} (h : Fr k ty lo hi H v n l) : Rd k H v n l := by
  refine ⟨h.1, ?_⟩
  rcases h.2 with h2 | ⟨i, h1, h2, rfl, hr⟩
  · exact .inl ⟨h2.1, none, 0, h2.2, fun _ => rfl⟩
  · exact .inr ⟨i, 0, some k, n, _, rfl, hr, by rw [ints_length, h.1]; omega, seg_all _ _ (by rw [ints_length, h.1])⟩
theorem Fr.same {k ty lo hi n : Nat} {H H' : AH} {v : Value} {l : List Int} (h : Fr k ty lo hi H v n l) (hs : ∀ i, lo ≤ i → i < hi → H'.row i = H.row i) : Fr k ty lo hi H' v n l := by
  refine ⟨h.1, ?_⟩
  rcases h.2 with h2 | ⟨i, h1, h2, hv, hr⟩
  · exact .inl h2
  · exact .inr ⟨i, h1, h2, hv, by rw [hs i h1 h2]; exact hr⟩
theorem Fr.wide {k ty lo hi lo' hi' n : Nat} {H : AH} {v : Value} {l : List Int} (h : Fr k ty lo hi H v n l) (h1 : lo' ≤ lo) (h2 : hi ≤ hi') : Fr k ty lo' hi' H v n l := by
  refine ⟨h.1, ?_⟩
  rcases h.2 with h3 | ⟨i, h3, h4, hv, hr⟩
  · exact .inl h3
  · exact .inr ⟨i, by omega, by omega, hv, hr⟩
theorem Rd.same {k n : Nat} {H H' : AH} {v : Value} {l : List Int} (h : Rd k H v n l) (hs : ∀ i r, H.row i = some r → H'.row i = some r) : Rd k H' v n l := by
  refine ⟨h.1, ?_⟩
  rcases h.2 with h2 | ⟨i, o, u, c, r, hv, hr, h3⟩
  · exact .inl h2
  · exact .inr ⟨i, o, u, c, r, hv, hs _ _ hr, h3⟩
theorem Rd.len {k n : Nat} {H : AH} {v : Value} {l : List Int} (h : Rd k H v n l) (H' : AH) : asSl v (.val (.int .i64 0) H') (fun _ _ _ n _ => .val (.int .i64 (n : Int)) H') = .val (.int .i64 (n : Int)) H' := by
  rcases h.2 with ⟨rfl, a, c, rfl, _⟩ | ⟨i, o, u, c, r, rfl, hr, h3⟩
  · cases a <;> rfl
  · rfl
theorem Rd.get {k n : Nat} {H : AH} {v : Value} {l : List Int} (h : Rd k H v n l) (hn : 0 < n) :
    ∃ i o u c r, v = .slice (some ⟨i, o, u⟩) n c ∧ H.row i = some r ∧ o + n * k ≤ r.cells.length ∧ (∀ j, j < n * k → r.cells[o + j]? = some (.int .i64 (l.getD j 0))) ∧
      (∀ j m, j + m ≤ n * k → seg r.cells (o + j) m = ints ((l.drop j).take m)) := by
  rcases h.2 with ⟨rfl, _⟩ | ⟨i, o, u, c, r, rfl, hr, h3, h4⟩
  · omega
  · have key : ∀ j, j < n * k → r.cells[o + j]? = (ints l)[j]? := by
      intro j hj
      rw [← h4]; simp [seg, hj]
    refine ⟨i, o, u, c, r, rfl, hr, h3, fun j hj => ?_, fun j m hjm => ?_⟩
    · rw [key j hj, ints_get? l j (by rw [h.1]; exact hj)]
    · rw [← ints_seg, ← h4]
      apply List.ext_getElem?
      intro x
      simp only [seg, List.getElem?_take, List.getElem?_drop]
      by_cases hx : x < m
      · rw [if_pos hx, if_pos hx, if_pos (by omega)]
        congr 1; omega
      · rw [if_neg hx, if_neg hx]
theorem Rd.one {k n : Nat} {H : AH} {v : Value} {l : List Int} (h : Rd k H v n l) : v.oneCell' = true := by
  rcases h.2 with ⟨_, a, c, rfl, _⟩ | ⟨i, o, u, c, r, rfl, _⟩ <;> rfl
theorem Fr.get {k ty lo hi n : Nat} {H : AH} {v : Value} {l : List Int} (h : Fr k ty lo hi H v n l) (hn : 0 < n) :
    ∃ i, lo ≤ i ∧ i < hi ∧ v = .slice (some ⟨i, 0, some k⟩) n n ∧ H.row i = some ⟨ty, true, ints l⟩ := by
  rcases h.2 with ⟨h3, _⟩ | h3
  · omega
  · exact h3
theorem Fr.set {k ty lo hi n i : Nat} {H : AH} {l l' : List Int} (h : Fr k ty lo hi H (.slice (some ⟨i, 0, some k⟩) n n) n l) (hr : H.row i = some ⟨ty, true, ints l⟩) (h1 : lo ≤ i) (h2 : i < hi) (hl : l'.length = l.length) :
    Fr k ty lo hi (H.setCells i (ints l')) (.slice (some ⟨i, 0, some k⟩) n n) n l' :=
  ⟨by rw [hl]; exact h.1, .inr ⟨i, h1, h2, rfl, by rw [AH.setCells_row, if_pos rfl, hr]; rfl⟩⟩
def seqL (a : Int) (n : Nat) : List Int := (List.range n).map fun (i : Nat) => a + i
theorem seqL_length (a : Int) (n : Nat) : (seqL a n).length = n := by simp [seqL]
theorem seqL_getD (a : Int) (n i : Nat) (h : i < n) : (seqL a n).getD i 0 = a + i := by simp [seqL, h]
theorem zeros_one (z : List Value) : zeros 1 z = z := by simp [zeros]
theorem zeros_zero (z : List Value) : zeros 0 z = [] := by simp [zeros]
theorem AH.setCells_setCells (H : AH) (i : Nat) (a b : List Value) : (H.setCells i a).setCells i b = H.setCells i b := by
  unfold AH.setCells
  simp only [AH.mk.injEq, true_and]
  funext j
  by_cases h : j = i
  · subst h; simp only [if_true]; cases H.row j <;> rfl
  · simp only [h, if_false]
theorem appE_fr {P : Program} {E : TI} {k ty lo hi n c : Nat} {H : AH} {v : Value} {l m : List Int} {K : Value → AH → Prop} (h : Fr k ty lo hi H v n l) (hk : E.size = k) (hk0 : 0 < k) (hm : m.length = c * k) (hc : 0 < c) (hb : E.bytes ≤ 32768) (hn : n + c ≤ 4294967296) (hhi : hi ≤ H.next)
    (hK : ∀ v' H', H'.next = H.next + 1 → (∀ i, ¬(lo ≤ i ∧ i < hi) → i < H.next → H'.row i = H.row i) → Fr k ty H.next (H.next + 1) H' v' (n + c) (l ++ m) → K v' H') :
    runOut P H (appE E ty v (ints m) c H) K := by
  subst hk
  have hl := h.1
  unfold appE
  rw [if_neg (by omega)]
  rcases h.2 with ⟨rfl, rfl⟩ | ⟨i, h1, h2, rfl, hr⟩
  · simp only [asSl_nil, runOut_need, runOut_val]
    have : l = [] := List.eq_nil_of_length_eq_zero (by omega)
    subst this
    refine ⟨⟨by omega, hb⟩, hK _ _ rfl (fun i _ hi => by rw [AH.push_row, if_neg (by omega)]) ⟨by simp [hm], .inr ⟨H.next, by omega, by omega, by simp, by rw [AH.push_row, if_pos rfl]; rfl⟩⟩⟩
  · simp only [asSl_some, hr, bindO_some, runOut_need, Nat.zero_add, ints_length, hl]
    refine ⟨⟨by omega, hb, Nat.le_refl _, .inl rfl⟩, ?_⟩
    rw [if_neg (by rw [Nat.add_mul]; have := Nat.mul_pos hc hk0; omega)]
    simp only [runOut_need, runOut_val]
    refine ⟨⟨trivial, trivial, hk0, trivial, trivial⟩, hK _ _ rfl (fun j hj hj2 => ?_) ⟨by simp [hm, hl, Nat.add_mul], .inr ⟨H.next, by omega, by omega, rfl, ?_⟩⟩⟩
    · rw [AH.push_row, if_neg (by rw [AH.drop_next]; omega), AH.drop_row, if_neg (by omega)]
    · rw [AH.push_row, AH.drop_next, if_pos rfl, seg_all _ _ (by rw [ints_length, hl]), ints_append]
theorem push_setCells (H : AH) (ty : TypeId) (rw : Bool) (cs ds : List Value) : (H.push ⟨ty, rw, cs⟩).setCells H.next ds = H.push ⟨ty, rw, ds⟩ := by
  unfold AH.setCells AH.push
  simp only [AH.mk.injEq, true_and]
  funext j
  by_cases h : j = H.next
  · subst h; simp
  · simp only [h, if_false]
theorem zeros_ints (n k : Nat) : zeros n (ints (List.replicate k 0)) = ints (List.replicate (n * k) 0) := by
  unfold zeros
  induction n with
  | zero => simp [ints]
  | succ n ih =>
    rw [List.replicate_succ, List.flatten_cons, ih, ints_append, List.replicate_append_replicate, Nat.succ_mul, Nat.add_comm]
end Go.Abs
end

section
set_option maxRecDepth 100000
set_option linter.defProp false
namespace Go.Abs
open Go Go.RowKit
def Sall := And.intro (And.intro (And.intro (And.intro (And.intro (And.intro (And.intro (@awp_skip) (@awp_ret)) (And.intro (@awp_exit) (And.intro (@awp_seq) (@awp_cond)))) (And.intro (And.intro (@awp_block) (And.intro (@awp_region) (@awpOps_cons))) (And.intro (@awpOps_guard) (And.intro (@awpOps_nil) (@evo_tmp))))) (And.intro (And.intro (And.intro (@evo_int) (@evo_bool)) (And.intro (@evo_func) (And.intro (@evo_nil) (@evo_str)))) (And.intro (And.intro (@evs_nil) (And.intro (@evs_cons) (@evp_nil))) (And.intro (@evp_cons) (And.intro (@bindO_some) (@asI_int)))))) (And.intro (And.intro (And.intro (And.intro (@asB_bool) (@asP_ptr)) (And.intro (@asSl_nil) (And.intro (@asSl_some) (@asAgg_agg)))) (And.intro (And.intro (@asTup_tup) (And.intro (@asStr_str) (@asFn_fn))) (And.intro (@asCells_agg) (And.intro (@asCells_int) (@asCells_bool))))) (And.intro (And.intro (And.intro (@asCells_slice) (@asCells_str)) (And.intro (@asCells_fn) (And.intro (@asCells_ptr) (@slT_sl)))) (And.intro (And.intro (@stT_st) (And.intro (@oI_none) (@oI_some))) (And.intro (@runOut_val) (And.intro (@runOut_unit) (@runOut_call))))))) (And.intro (And.intro (And.intro (And.intro (And.intro (@runOut_need) (@condW_tt)) (And.intro (@condW_tf) (And.intro (@condW_ft) (@condW_ff)))) (And.intro (And.intro (@condW_undef) (And.intro (@condC_true) (@condC_false))) (And.intro (@updO_some) (And.intro (@updO_none) (@upd_apply))))) (And.intro (And.intro (And.intro (@seqQ_normal) (@seqQ_ret)) (And.intro (@seqQ_exit) (And.intro (@blockQ_normal) (@blockQ_ret)))) (And.intro (And.intro (@blockQ_exit) (And.intro (@retQ_ret) (@retQ_normal))) (And.intro (@resL_nil) (And.intro (@resL_cons) (@res1_tmp)))))) (And.intro (And.intro (And.intro (And.intro (@pack_0) (@pack_1)) (And.intro (@pack_2) (And.intro (@AH.push_row) (@AH.push_next)))) (And.intro (And.intro (@AH.setCells_row) (And.intro (@AH.setCells_next) (@AH.drop_row))) (And.intro (@AH.drop_next) (And.intro (@List.getD_cons_zero.{0}) (@List.getD_cons_succ.{0}))))) (And.intro (And.intro (And.intro (@List.getD_nil.{0}) (And.intro (@List.getElem?_cons_zero.{0}) (@List.getElem?_cons_succ.{0}))) (And.intro (@Option.bind_some.{0, 0}) (And.intro (@Option.some.injEq.{0}) (And.intro (@exists_eq_left'.{0}) (@exists_eq_left'.{1}))))) (And.intro (And.intro (@Bool.false_eq_true) (And.intro (@true_and) (@and_true))) (And.intro (@List.toList_toArray.{0}) (And.intro (@List.cons_append.{0}) (@List.nil_append.{0})))))))) (And.intro (And.intro (And.intro (And.intro (And.intro (And.intro (@placeT_array) (@placeT_struct)) (And.intro (@placesOf_nil) (And.intro (@placesOf_cons) (@fillL_nil)))) (And.intro (And.intro (@fillL_cons) (And.intro (@cells_int) (@cells_bool))) (And.intro (@cells_slice) (And.intro (@cells_str) (@cells_agg))))) (And.intro (And.intro (And.intro (@noTuple_int) (@noTuple_bool)) (And.intro (@noTuple_slice) (And.intro (@noTuple_str) (@noTuple_agg)))) (And.intro (And.intro (@one_int) (And.intro (@one_bool) (@one_slice))) (And.intro (@one_str) (And.intro (@one_ptr) (@one_func)))))) (And.intro (And.intro (And.intro (And.intro (@splice_nil0) (@splice_cons0)) (And.intro (@splice_succ) (And.intro (@seg_zero) (@seg_cons0)))) (And.intro (And.intro (@seg_succ) (And.intro (@seg_ints14) (@splice_ints14))) (And.intro (@ints_zero) (And.intro (@ints_length) (@List.length_replicate.{0}))))) (And.intro (And.intro (And.intro (@List.length_cons.{0}) (And.intro (@List.length_nil.{0}) (@Nat.zero_add))) (And.intro (@Nat.add_zero) (And.intro (@Nat.zero_mul) (@Nat.mul_one)))) (And.intro (And.intro (@Nat.one_mul) (And.intro (@List.size_toArray.{0}) (@and_self))) (And.intro (@Nat.le_refl) (And.intro (@Option.map_some.{0, 0}) (And.intro (@ite_true.{0}) (@ite_true.{1})))))))) (And.intro (And.intro (And.intro (And.intro (And.intro (And.intro (@ite_false.{0}) (@ite_false.{1})) (@res1_cell)) (And.intro (@resC_ptr) (And.intro (@Nat.left_eq_add) (@Nat.add_eq_left)))) (And.intro (And.intro (@Nat.succ_ne_self) (And.intro (@Nat.add_left_cancel_iff) (@Nat.add_right_cancel_iff))) (And.intro (@awpD_nil) (And.intro (@awpD_cons) (@awpD_guard))))) (And.intro (And.intro (And.intro (@true_or) (And.intro (@ne_eq.{0}) (@ne_eq.{1}))) (And.intro (@Nat.one_ne_zero) (And.intro (@not_false_eq_true) (@Int.toNat_natCast)))) (And.intro (And.intro (@Value.int.injEq) (And.intro (@Value.bool.injEq) (And.intro (@implies_true.{0}) (@implies_true.{1})))) (And.intro (@awpI_nil) (And.intro (@awpI_cons) (@stepI_op)))))) (And.intro (And.intro (And.intro (And.intro (@stepI_guard) (@add_n2)) (And.intro (@add_n3) (And.intro (@add_n4) (@add_n5)))) (And.intro (And.intro (@add_n6) (And.intro (@add_n7) (@add_n8))) (And.intro (@add_n9) (And.intro (@add_n10) (@add_n11))))) (And.intro (And.intro (And.intro (@add_n12) (And.intro (@ok_rw) (@ok_int))) (And.intro (@ok_bool) (And.intro (@ok_str) (@ok_slice)))) (And.intro (And.intro (@ok_ints) (And.intro (@holds_def) (@List.set_cons_zero.{0}))) (And.intro (@List.set_cons_succ.{0}) (And.intro (@Bool.not_true) (@Bool.not_false))))))))
def L3 := And.intro (@ints_length) (And.intro (@List.length_replicate.{0}) (@List.length_set.{0}))
end Go.Abs
end

section
namespace Go.Proofs.YtpienljnoaendaaGreat.A
open Go Go.Abs Go.RowKit
theorem ti2 : ti Tryz.prog 2 = some ⟨.int .i64, 1, 8, [.int .i64 0]⟩ := by kernel_rfl
theorem ti3 : ti Tryz.prog 3 = some ⟨.int .i64, 1, 8, [.int .i64 0]⟩ := by kernel_rfl
theorem ti4 : ti Tryz.prog 4 = some ⟨.bool, 1, 1, [.bool false]⟩ := by kernel_rfl
theorem ti68 : ti Tryz.prog 68 = some ⟨.array 14 2, 14, 112, ints (List.replicate 14 0)⟩ := by kernel_rfl
theorem ti69 : ti Tryz.prog 69 = some ⟨.array 14 2, 14, 112, ints (List.replicate 14 0)⟩ := by kernel_rfl
theorem ti33 : ti Tryz.prog 33 = some ⟨.slice 2, 1, 24, [.slice none 0 0]⟩ := by kernel_rfl
theorem ti30 : ti Tryz.prog 30 = some ⟨.slice 33, 1, 24, [.slice none 0 0]⟩ := by kernel_rfl
theorem ti24 : ti Tryz.prog 24 = some ⟨.slice 69, 1, 24, [.slice none 0 0]⟩ := by kernel_rfl
theorem ti26 : ti Tryz.prog 26 = some ⟨.struct [(0, 2), (1, 24)], 2, 32, [.int .i64 0, .slice none 0 0]⟩ := by kernel_rfl
theorem ti100 : ti Tryz.prog 100 = some ⟨.other, 1, 8, [.nilFunc]⟩ := by kernel_rfl
theorem ti203 : ti Tryz.prog 203 = some ⟨.other, 1, 8, [.nilFunc]⟩ := by kernel_rfl
theorem ti191 : ti Tryz.prog 191 = some ⟨.slice 3, 1, 24, [.slice none 0 0]⟩ := by kernel_rfl
theorem ti188 : ti Tryz.prog 188 = some ⟨.array 2 3, 2, 16, [.int .i64 0, .int .i64 0]⟩ := by kernel_rfl
theorem ti189 : ti Tryz.prog 189 = some ⟨.slice 188, 1, 24, [.slice none 0 0]⟩ := by kernel_rfl
theorem ti55 : ti Tryz.prog 55 = some ⟨.struct [(0, 2), (1, 30)], 2, 32, [.int .i64 0, .slice none 0 0]⟩ := by kernel_rfl
theorem ti199 : ti Tryz.prog 199 = some ⟨.other, 1, 8, [.nilFunc]⟩ := by kernel_rfl
theorem ti89 : ti Tryz.prog 89 = some ⟨.slice 4, 1, 24, [.slice none 0 0]⟩ := by kernel_rfl
theorem tiA : ti Tryz.prog 2 = some ⟨.int .i64, 1, 8, [.int .i64 0]⟩ ∧ ti Tryz.prog 3 = some ⟨.int .i64, 1, 8, [.int .i64 0]⟩ ∧ ti Tryz.prog 4 = some ⟨.bool, 1, 1, [.bool false]⟩ ∧ ti Tryz.prog 68 = some ⟨.array 14 2, 14, 112, ints (List.replicate 14 0)⟩ ∧ ti Tryz.prog 69 = some ⟨.array 14 2, 14, 112, ints (List.replicate 14 0)⟩ ∧ ti Tryz.prog 33 = some ⟨.slice 2, 1, 24, [.slice none 0 0]⟩ ∧ ti Tryz.prog 30 = some ⟨.slice 33, 1, 24, [.slice none 0 0]⟩ ∧ ti Tryz.prog 24 = some ⟨.slice 69, 1, 24, [.slice none 0 0]⟩ ∧ ti Tryz.prog 26 = some ⟨.struct [(0, 2), (1, 24)], 2, 32, [.int .i64 0, .slice none 0 0]⟩ ∧ ti Tryz.prog 100 = some ⟨.other, 1, 8, [.nilFunc]⟩ ∧ ti Tryz.prog 203 = some ⟨.other, 1, 8, [.nilFunc]⟩ ∧ ti Tryz.prog 191 = some ⟨.slice 3, 1, 24, [.slice none 0 0]⟩ ∧ ti Tryz.prog 188 = some ⟨.array 2 3, 2, 16, [.int .i64 0, .int .i64 0]⟩ ∧ ti Tryz.prog 189 = some ⟨.slice 188, 1, 24, [.slice none 0 0]⟩ ∧ ti Tryz.prog 55 = some ⟨.struct [(0, 2), (1, 30)], 2, 32, [.int .i64 0, .slice none 0 0]⟩ ∧ ti Tryz.prog 199 = some ⟨.other, 1, 8, [.nilFunc]⟩ ∧ ti Tryz.prog 89 = some ⟨.slice 4, 1, 24, [.slice none 0 0]⟩ := ⟨ti2, ti3, ti4, ti68, ti69, ti33, ti30, ti24, ti26, ti100, ti203, ti191, ti188, ti189, ti55, ti199, ti89⟩
theorem listed (a b : Nat) : a + b = b + a ∧ True := by
  simp only [Sall,evalOp,init,binA_s,binE,binI,unE,convE,okNil,builtE,gv,TD.isAgg,resV,↓reduceIte,Nat.reduceEqDiff,reduceCtorEq,Nat.reduceAdd,Nat.reduceMul,Nat.reduceLeDiff,quietOp,blindOp,Int.reduceEq,Int.reduceLT,Int.reduceLE,Nat.reduceLT, tiA]
  exact Nat.add_comm a b
end Go.Proofs.YtpienljnoaendaaGreat.A
end

section
namespace Go.Abs
def okAt (n : Int) (r : List Int) (a : Nat) : Bool := if n ≤ a then r.getD a 0 == 0 else decide (0 ≤ r.getD a 0 ∧ r.getD a 0 ≤ n - 1) && r.getD (r.getD a 0).toNat 0 == a
def roundB (n : Int) (r : List Int) : Bool := decide (2 ≤ n ∧ n ≤ 14) && (List.range 14).all (okAt n r)
def rnd (l : List Int) (i : Nat) : List Int := (l.drop (i * 14)).take 14
def schedB (n : Int) (k : Nat) (l : List Int) : Bool := decide (2 ≤ n ∧ n ≤ 14) && decide (k ≤ 40) && (List.range k).all fun i => roundB n (rnd l i)
theorem rnd_length (l : List Int) (i k : Nat) (h : l.length = k * 14) (hi : i < k) : (rnd l i).length = 14 := by
  unfold rnd; rw [List.length_take, List.length_drop]; omega
theorem all_false_of {n i : Nat} {p : Nat → Bool} (hi : i < n) (h : p i = false) : (List.range n).all p = false := by
  rw [List.all_eq_false]; exact ⟨i, by simpa using hi, by simp [h]⟩
theorem all_true_of {n : Nat} {p : Nat → Bool} (h : ∀ x, x < n → p x = true) : (List.range n).all p = true := by
  rw [List.all_eq_true]; intro x hx; exact h x (by simpa using hx)
theorem roundB_bad {n : Int} {r : List Int} {a : Nat} (ha : a < 14) (h : okAt n r a = false) : roundB n r = false := by
  unfold roundB; rw [all_false_of ha h, Bool.and_false]
theorem roundB_good {n : Int} {r : List Int} (hn : 2 ≤ n ∧ n ≤ 14) (h : ∀ x, x < 14 → okAt n r x = true) : roundB n r = true := by
  unfold roundB; rw [all_true_of h, Bool.and_true]; simp [hn]
theorem roundB_range {n : Int} {r : List Int} (hn : ¬ (2 ≤ n ∧ n ≤ 14)) : roundB n r = false := by
  unfold roundB; simp only [hn, decide_false, Bool.false_and]
def firstI (p : Nat → Bool) (k : Nat) : Int := match (List.range k).find? p with | some i => (i : Int) | none => -1
theorem find_at {p : Nat → Bool} {k a : Nat} (ha : a < k) (h : p a = true) (hb : ∀ x, x < a → p x = false) : (List.range k).find? p = some a := by
  rw [List.find?_range_eq_some]
  refine ⟨h, by simpa using ha, fun x hx => by simp [hb x hx]⟩
theorem firstI_at {p : Nat → Bool} {k a : Nat} (ha : a < k) (h : p a = true) (hb : ∀ x, x < a → p x = false) : firstI p k = a := by
  unfold firstI; rw [find_at ha h hb]
theorem firstI_none {p : Nat → Bool} {k : Nat} (hb : ∀ x, x < k → p x = false) : firstI p k = -1 := by
  unfold firstI
  rw [List.find?_eq_none.2 (by intro x hx; simp [hb x (by simpa using hx)])]
theorem firstI_any (p : Nat → Bool) (k : Nat) : decide (0 ≤ firstI p k) = (List.range k).any p := by
  unfold firstI
  cases h : (List.range k).find? p with
  | none => rw [List.find?_eq_none] at h; rw [List.any_eq_false.2 h]; rfl
  | some i =>
    have h1 := List.find?_some h
    have h2 := List.mem_of_find?_eq_some h
    rw [List.any_eq_true.2 ⟨i, h2, h1⟩]
    simp
theorem schedB_any (n : Int) (k : Nat) (l : List Int) : schedB n k l = (decide (2 ≤ n ∧ n ≤ 14) && decide (k ≤ 40) && !((List.range k).any fun i => !roundB n (rnd l i))) := by
  unfold schedB; congr 1; rw [List.not_any_eq_all_not]; simp
end Go.Abs
end

section
set_option maxRecDepth 100000
namespace Go.Proofs.YtpienljnoaendaaGreat.A
open Go Go.Abs Go.RowKit
theorem between_c (n lo hi : Int) (H : AH) : ACalls Tryz.prog 116 [.int .i64 n, .int .i64 lo, .int .i64 hi] H (is (.bool (decide (lo ≤ n ∧ n ≤ hi))) H) := by
  refine acalls_of_awp [.tmp 6] Tryz.func116 (by kernel_rfl) rfl rfl (Nat.le_of_ble_eq_true rfl) (by kernel_rfl) ?_
  by_cases h : lo ≤ n
  · try simp (disch := first | omega | (simp only [ints_length, List.length_replicate] <;> omega)) only [Sall,evalOp,init,binA_s,binE,binI,unE,convE,okNil,builtE,gv,TD.isAgg,resV,↓reduceIte,Nat.reduceEqDiff,reduceCtorEq,Nat.reduceAdd,Nat.reduceMul,Nat.reduceLeDiff,quietOp,blindOp,Int.reduceEq,Int.reduceLT,Int.reduceLE,Nat.reduceLT,tiA, h, decide_true, is]
  · try simp (disch := first | omega | (simp only [ints_length, List.length_replicate] <;> omega)) only [Sall,evalOp,init,binA_s,binE,binI,unE,convE,okNil,builtE,gv,TD.isAgg,resV,↓reduceIte,Nat.reduceEqDiff,reduceCtorEq,Nat.reduceAdd,Nat.reduceMul,Nat.reduceLeDiff,quietOp,blindOp,Int.reduceEq,Int.reduceLT,Int.reduceLE,Nat.reduceLT,tiA, h, decide_false, is, false_and]
theorem l01In_c (n lo hi : Int) (H : AH) : ACalls Tryz.prog 117 [.int .i64 n, .int .i64 lo, .int .i64 hi] H (is (.bool (decide (lo ≤ n ∧ n ≤ hi))) H) := by
  refine acalls_of_awp [.tmp 6] Tryz.func117 (by kernel_rfl) rfl rfl (Nat.le_of_ble_eq_true rfl) (by kernel_rfl) ?_
  by_cases h : lo ≤ n
  · try simp (disch := first | omega | (simp only [ints_length, List.length_replicate] <;> omega)) only [Sall,evalOp,init,binA_s,binE,binI,unE,convE,okNil,builtE,gv,TD.isAgg,resV,↓reduceIte,Nat.reduceEqDiff,reduceCtorEq,Nat.reduceAdd,Nat.reduceMul,Nat.reduceLeDiff,quietOp,blindOp,Int.reduceEq,Int.reduceLT,Int.reduceLE,Nat.reduceLT,tiA, h, decide_true, is]
  · try simp (disch := first | omega | (simp only [ints_length, List.length_replicate] <;> omega)) only [Sall,evalOp,init,binA_s,binE,binI,unE,convE,okNil,builtE,gv,TD.isAgg,resV,↓reduceIte,Nat.reduceEqDiff,reduceCtorEq,Nat.reduceAdd,Nat.reduceMul,Nat.reduceLeDiff,quietOp,blindOp,Int.reduceEq,Int.reduceLT,Int.reduceLE,Nat.reduceLT,tiA, h, decide_false, is, false_and]
theorem l01Round_c (n : Int) (r : List Int) (hr : r.length = 14) (H : AH) : ACalls Tryz.prog 233 [.int .i64 n, .agg (ints r).toArray] H (is (.bool (roundB n r)) H) := by
  refine acalls_up rfl (acalls_of_awp [.tmp 4] Tryz.func233 (by kernel_rfl) rfl rfl (Nat.le_of_ble_eq_true rfl) (by kernel_rfl) ?_)
  have up : Up H.next H (H.push ⟨69, true, ints r⟩) := (Up.refl _ H).push (Nat.le_refl _) _
  try simp (disch := first | omega | (simp only [ints_length, List.length_replicate] <;> omega)) only [Sall,evalOp,init,binA_s,binE,binI,unE,convE,okNil,builtE,gv,TD.isAgg,resV,↓reduceIte,Nat.reduceEqDiff,reduceCtorEq,Nat.reduceAdd,Nat.reduceMul,Nat.reduceLeDiff,quietOp,blindOp,Int.reduceEq,Int.reduceLT,Int.reduceLE,Nat.reduceLT,tiA, true_and]
  refine (l01In_c _ _ _ _).to ?_
  by_cases hn : 2 ≤ n ∧ n ≤ 14
  · try simp (disch := first | omega | (simp only [ints_length, List.length_replicate] <;> omega)) only [Sall,evalOp,init,binA_s,binE,binI,unE,convE,okNil,builtE,gv,TD.isAgg,resV,↓reduceIte,Nat.reduceEqDiff,reduceCtorEq,Nat.reduceAdd,Nat.reduceMul,Nat.reduceLeDiff,quietOp,blindOp,Int.reduceEq,Int.reduceLT,Int.reduceLE,Nat.reduceLT,tiA, hn, decide_true, Bool.not_true]
    refine awp_loop (fun m t H' => ∃ a : Nat, m = 14 - a ∧ a ≤ 14 ∧ t 5 = .int .i64 a ∧ t 0 = .int .i64 n ∧ t 3 = .pointer (some ⟨H.next, 0, none⟩) ∧ H' = H.push ⟨69, true, ints r⟩ ∧ (∀ x, x < a → okAt n r x = true)) 14 ?_ ?_
    · refine ⟨0, by omega, by omega, ?_⟩
      try simp (disch := first | omega | (simp only [ints_length, List.length_replicate] <;> omega)) only [Sall,evalOp,init,binA_s,binE,binI,unE,convE,okNil,builtE,gv,TD.isAgg,resV,↓reduceIte,Nat.reduceEqDiff,reduceCtorEq,Nat.reduceAdd,Nat.reduceMul,Nat.reduceLeDiff,quietOp,blindOp,Int.reduceEq,Int.reduceLT,Int.reduceLE,Nat.reduceLT,tiA, Int.natCast_zero, Nat.not_lt_zero, false_implies]
    · rintro m t H' ⟨a, hm, h14, h5, h0, h3, rfl, hall⟩
      try simp (disch := first | omega | (simp only [ints_length, List.length_replicate] <;> omega)) only [Sall,evalOp,init,binA_s,binE,binI,unE,convE,okNil,builtE,gv,TD.isAgg,resV,↓reduceIte,Nat.reduceEqDiff,reduceCtorEq,Nat.reduceAdd,Nat.reduceMul,Nat.reduceLeDiff,quietOp,blindOp,Int.reduceEq,Int.reduceLT,Int.reduceLE,Nat.reduceLT,tiA, h5]
      refine condC_dec (fun h => ?_) (fun h => ?_)
      · by_cases h1 : n ≤ (a : Int)
        · have h1' : ¬ (a : Int) < n := by omega
          by_cases h2 : r.getD a 0 = 0
          · have hok : okAt n r a = true := by unfold okAt; rw [if_pos h1, h2]; rfl
            try simp (disch := first | omega | (simp only [ints_length, List.length_replicate] <;> omega)) only [Sall,evalOp,init,binA_s,binE,binI,unE,convE,okNil,builtE,gv,TD.isAgg,resV,↓reduceIte,Nat.reduceEqDiff,reduceCtorEq,Nat.reduceAdd,Nat.reduceMul,Nat.reduceLeDiff,quietOp,blindOp,Int.reduceEq,Int.reduceLT,Int.reduceLE,Nat.reduceLT,tiA, h5, h0, h3, h1, h1', decide_true, decide_false, ints_get?, h2, bne_self_eq_false, w64]
            refine ⟨⟨by omega, by omega⟩, 14 - (a + 1), by omega, a + 1, rfl, by omega, by omega, fun x hx => ?_⟩
            by_cases e : x = a
            · rw [e]; exact hok
            · exact hall x (by omega)
          · have hok : okAt n r a = false := by unfold okAt; rw [if_pos h1]; simpa using h2
            have h2' : (r.getD a 0 != 0) = true := by simpa using h2
            try simp (disch := first | omega | (simp only [ints_length, List.length_replicate] <;> omega)) only [Sall,evalOp,init,binA_s,binE,binI,unE,convE,okNil,builtE,gv,TD.isAgg,resV,↓reduceIte,Nat.reduceEqDiff,reduceCtorEq,Nat.reduceAdd,Nat.reduceMul,Nat.reduceLeDiff,quietOp,blindOp,Int.reduceEq,Int.reduceLT,Int.reduceLE,Nat.reduceLT,tiA, h5, h0, h3, h1, h1', decide_true, decide_false, ints_get?, h2', w64]
            refine ⟨⟨by omega, by omega⟩, ?_⟩
            rw [roundB_bad (by omega) hok]
            exact ⟨rfl, up⟩
        · have h1' : (a : Int) < n := by omega
          try simp (disch := first | omega | (simp only [ints_length, List.length_replicate] <;> omega)) only [Sall,evalOp,init,binA_s,binE,binI,unE,convE,okNil,builtE,gv,TD.isAgg,resV,↓reduceIte,Nat.reduceEqDiff,reduceCtorEq,Nat.reduceAdd,Nat.reduceMul,Nat.reduceLeDiff,quietOp,blindOp,Int.reduceEq,Int.reduceLT,Int.reduceLE,Nat.reduceLT,tiA, h5, h0, h3, h1, h1', decide_true, decide_false, ints_get?, w64]
          refine ⟨⟨by omega, by omega⟩, ?_⟩
          refine (l01In_c _ _ _ _).to ?_
          by_cases h2 : 0 ≤ r.getD a 0 ∧ r.getD a 0 ≤ n - 1
          · by_cases h4 : r.getD (r.getD a 0).toNat 0 = a
            · have hok : okAt n r a = true := by unfold okAt; rw [if_neg h1, h4]; simp only [h2, decide_true, Bool.true_and, beq_self_eq_true, and_self]
              try simp (disch := first | omega | (simp only [ints_length, List.length_replicate] <;> omega)) only [Sall,evalOp,init,binA_s,binE,binI,unE,convE,okNil,builtE,gv,TD.isAgg,resV,↓reduceIte,Nat.reduceEqDiff,reduceCtorEq,Nat.reduceAdd,Nat.reduceMul,Nat.reduceLeDiff,quietOp,blindOp,Int.reduceEq,Int.reduceLT,Int.reduceLE,Nat.reduceLT,tiA, h5, h0, h3, h1, h1', decide_true, decide_false, ints_get?, h2, h4, bne_self_eq_false, w64, Bool.not_true]
              refine ⟨by omega, by omega, 14 - (a + 1), by omega, a + 1, rfl, by omega, by omega, fun x hx => ?_⟩
              by_cases e : x = a
              · rw [e]; exact hok
              · exact hall x (by omega)
            · have hok : okAt n r a = false := by unfold okAt; rw [if_neg h1]; simp only [h2, decide_true, Bool.true_and, and_self]; simpa using h4
              have h4' : (r.getD (r.getD a 0).toNat 0 != (a : Int)) = true := by simpa using h4
              try simp (disch := first | omega | (simp only [ints_length, List.length_replicate] <;> omega)) only [Sall,evalOp,init,binA_s,binE,binI,unE,convE,okNil,builtE,gv,TD.isAgg,resV,↓reduceIte,Nat.reduceEqDiff,reduceCtorEq,Nat.reduceAdd,Nat.reduceMul,Nat.reduceLeDiff,quietOp,blindOp,Int.reduceEq,Int.reduceLT,Int.reduceLE,Nat.reduceLT,tiA, h5, h0, h3, h1, h1', decide_true, decide_false, ints_get?, h2, h4', w64, Bool.not_true]
              refine ⟨by omega, by omega, ?_⟩
              rw [roundB_bad (by omega) hok]
              exact ⟨rfl, up⟩
          · have hok : okAt n r a = false := by unfold okAt; rw [if_neg h1]; simp only [h2, decide_false, Bool.false_and]
            try simp (disch := first | omega | (simp only [ints_length, List.length_replicate] <;> omega)) only [Sall,evalOp,init,binA_s,binE,binI,unE,convE,okNil,builtE,gv,TD.isAgg,resV,↓reduceIte,Nat.reduceEqDiff,reduceCtorEq,Nat.reduceAdd,Nat.reduceMul,Nat.reduceLeDiff,quietOp,blindOp,Int.reduceEq,Int.reduceLT,Int.reduceLE,Nat.reduceLT,tiA, h5, h0, h3, h1, h1', decide_true, decide_false, ints_get?, h2, w64, Bool.not_false]
            rw [roundB_bad (by omega) hok]
            exact ⟨rfl, up⟩
      · try simp (disch := first | omega | (simp only [ints_length, List.length_replicate] <;> omega)) only [Sall,evalOp,init,binA_s,binE,binI,unE,convE,okNil,builtE,gv,TD.isAgg,resV,↓reduceIte,Nat.reduceEqDiff,reduceCtorEq,Nat.reduceAdd,Nat.reduceMul,Nat.reduceLeDiff,quietOp,blindOp,Int.reduceEq,Int.reduceLT,Int.reduceLE,Nat.reduceLT,tiA, true_and]
        rw [roundB_good hn fun x hx => hall x (by omega)]
        exact ⟨rfl, up⟩
  · try simp (disch := first | omega | (simp only [ints_length, List.length_replicate] <;> omega)) only [Sall,evalOp,init,binA_s,binE,binI,unE,convE,okNil,builtE,gv,TD.isAgg,resV,↓reduceIte,Nat.reduceEqDiff,reduceCtorEq,Nat.reduceAdd,Nat.reduceMul,Nat.reduceLeDiff,quietOp,blindOp,Int.reduceEq,Int.reduceLT,Int.reduceLE,Nat.reduceLT,tiA, hn, decide_false, Bool.not_false]
    rw [roundB_range hn]
    exact ⟨rfl, up⟩
theorem IsRound_c (n : Int) (r : List Int) (hr : r.length = 14) (H : AH) : ACalls Tryz.prog 65 [.int .i64 n, .agg (ints r).toArray] H (is (.bool (roundB n r)) H) := by
  refine acalls_up rfl (acalls_of_awp [.tmp 4] Tryz.func65 (by kernel_rfl) rfl rfl (Nat.le_of_ble_eq_true rfl) (by kernel_rfl) ?_)
  have up : Up H.next H (H.push ⟨69, true, ints r⟩) := (Up.refl _ H).push (Nat.le_refl _) _
  try simp (disch := first | omega | (simp only [ints_length, List.length_replicate] <;> omega)) only [Sall,evalOp,init,binA_s,binE,binI,unE,convE,okNil,builtE,gv,TD.isAgg,resV,↓reduceIte,Nat.reduceEqDiff,reduceCtorEq,Nat.reduceAdd,Nat.reduceMul,Nat.reduceLeDiff,quietOp,blindOp,Int.reduceEq,Int.reduceLT,Int.reduceLE,Nat.reduceLT,tiA, true_and]
  refine (between_c _ _ _ _).to ?_
  by_cases hn : 2 ≤ n ∧ n ≤ 14
  · try simp (disch := first | omega | (simp only [ints_length, List.length_replicate] <;> omega)) only [Sall,evalOp,init,binA_s,binE,binI,unE,convE,okNil,builtE,gv,TD.isAgg,resV,↓reduceIte,Nat.reduceEqDiff,reduceCtorEq,Nat.reduceAdd,Nat.reduceMul,Nat.reduceLeDiff,quietOp,blindOp,Int.reduceEq,Int.reduceLT,Int.reduceLE,Nat.reduceLT,tiA, hn, decide_true, Bool.not_true]
    refine ⟨by omega, ?_⟩
    refine awp_loop (fun m t H' => ∃ a : Nat, m = 14 - a ∧ a ≤ 14 ∧ t 11 = .int .i64 a ∧ t 10 = .agg (ints r).toArray ∧ t 0 = .int .i64 n ∧ t 3 = .pointer (some ⟨H.next, 0, none⟩) ∧ H' = H.push ⟨69, true, ints r⟩ ∧ (∀ x, x < a → okAt n r x = true)) 14 ?_ ?_
    · refine ⟨0, by omega, by omega, ?_⟩
      try simp (disch := first | omega | (simp only [ints_length, List.length_replicate] <;> omega)) only [Sall,evalOp,init,binA_s,binE,binI,unE,convE,okNil,builtE,gv,TD.isAgg,resV,↓reduceIte,Nat.reduceEqDiff,reduceCtorEq,Nat.reduceAdd,Nat.reduceMul,Nat.reduceLeDiff,quietOp,blindOp,Int.reduceEq,Int.reduceLT,Int.reduceLE,Nat.reduceLT,tiA, Int.natCast_zero, Nat.not_lt_zero, false_implies]
    · rintro m t H' ⟨a, hm, h14, h5, h10, h0, h3, rfl, hall⟩
      try simp (disch := first | omega | (simp only [ints_length, List.length_replicate] <;> omega)) only [Sall,evalOp,init,binA_s,binE,binI,unE,convE,okNil,builtE,gv,TD.isAgg,resV,↓reduceIte,Nat.reduceEqDiff,reduceCtorEq,Nat.reduceAdd,Nat.reduceMul,Nat.reduceLeDiff,quietOp,blindOp,Int.reduceEq,Int.reduceLT,Int.reduceLE,Nat.reduceLT,tiA, h5]
      refine condC_dec (fun h => ?_) (fun h => ?_)
      · by_cases h1 : n ≤ (a : Int)
        · have h1' : ¬ (a : Int) < n := by omega
          by_cases h2 : r.getD a 0 = 0
          · have hok : okAt n r a = true := by unfold okAt; rw [if_pos h1, h2]; rfl
            try simp (disch := first | omega | (simp only [ints_length, List.length_replicate] <;> omega)) only [Sall,evalOp,init,binA_s,binE,binI,unE,convE,okNil,builtE,gv,TD.isAgg,resV,↓reduceIte,Nat.reduceEqDiff,reduceCtorEq,Nat.reduceAdd,Nat.reduceMul,Nat.reduceLeDiff,quietOp,blindOp,Int.reduceEq,Int.reduceLT,Int.reduceLE,Nat.reduceLT,tiA, h5, h10, h0, h3, h1, h1', decide_true, decide_false, ints_get?, h2, bne_self_eq_false, w64]
            refine ⟨⟨by omega, by omega⟩, 14 - (a + 1), by omega, a + 1, rfl, by omega, by omega, fun x hx => ?_⟩
            by_cases e : x = a
            · rw [e]; exact hok
            · exact hall x (by omega)
          · have hok : okAt n r a = false := by unfold okAt; rw [if_pos h1]; simpa using h2
            have h2' : (r.getD a 0 != 0) = true := by simpa using h2
            try simp (disch := first | omega | (simp only [ints_length, List.length_replicate] <;> omega)) only [Sall,evalOp,init,binA_s,binE,binI,unE,convE,okNil,builtE,gv,TD.isAgg,resV,↓reduceIte,Nat.reduceEqDiff,reduceCtorEq,Nat.reduceAdd,Nat.reduceMul,Nat.reduceLeDiff,quietOp,blindOp,Int.reduceEq,Int.reduceLT,Int.reduceLE,Nat.reduceLT,tiA, h5, h10, h0, h3, h1, h1', decide_true, decide_false, ints_get?, h2', w64]
            refine ⟨⟨by omega, by omega⟩, ?_⟩
            rw [roundB_bad (by omega) hok]
            exact ⟨rfl, up⟩
        · have h1' : (a : Int) < n := by omega
          try simp (disch := first | omega | (simp only [ints_length, List.length_replicate] <;> omega)) only [Sall,evalOp,init,binA_s,binE,binI,unE,convE,okNil,builtE,gv,TD.isAgg,resV,↓reduceIte,Nat.reduceEqDiff,reduceCtorEq,Nat.reduceAdd,Nat.reduceMul,Nat.reduceLeDiff,quietOp,blindOp,Int.reduceEq,Int.reduceLT,Int.reduceLE,Nat.reduceLT,tiA, h5, h10, h0, h3, h1, h1', decide_true, decide_false, ints_get?, w64]
          refine ⟨⟨by omega, by omega⟩, ?_⟩
          refine (between_c _ _ _ _).to ?_
          by_cases h2 : 0 ≤ r.getD a 0 ∧ r.getD a 0 ≤ n - 1
          · by_cases h4 : r.getD (r.getD a 0).toNat 0 = a
            · have hok : okAt n r a = true := by unfold okAt; rw [if_neg h1, h4]; simp only [h2, decide_true, Bool.true_and, beq_self_eq_true, and_self]
              try simp (disch := first | omega | (simp only [ints_length, List.length_replicate] <;> omega)) only [Sall,evalOp,init,binA_s,binE,binI,unE,convE,okNil,builtE,gv,TD.isAgg,resV,↓reduceIte,Nat.reduceEqDiff,reduceCtorEq,Nat.reduceAdd,Nat.reduceMul,Nat.reduceLeDiff,quietOp,blindOp,Int.reduceEq,Int.reduceLT,Int.reduceLE,Nat.reduceLT,tiA, h5, h10, h0, h3, h1, h1', decide_true, decide_false, ints_get?, h2, h4, bne_self_eq_false, w64, Bool.not_true]
              refine ⟨by omega, 14 - (a + 1), by omega, a + 1, rfl, by omega, by omega, fun x hx => ?_⟩
              by_cases e : x = a
              · rw [e]; exact hok
              · exact hall x (by omega)
            · have hok : okAt n r a = false := by unfold okAt; rw [if_neg h1]; simp only [h2, decide_true, Bool.true_and, and_self]; simpa using h4
              have h4' : (r.getD (r.getD a 0).toNat 0 != (a : Int)) = true := by simpa using h4
              try simp (disch := first | omega | (simp only [ints_length, List.length_replicate] <;> omega)) only [Sall,evalOp,init,binA_s,binE,binI,unE,convE,okNil,builtE,gv,TD.isAgg,resV,↓reduceIte,Nat.reduceEqDiff,reduceCtorEq,Nat.reduceAdd,Nat.reduceMul,Nat.reduceLeDiff,quietOp,blindOp,Int.reduceEq,Int.reduceLT,Int.reduceLE,Nat.reduceLT,tiA, h5, h10, h0, h3, h1, h1', decide_true, decide_false, ints_get?, h2, h4', w64, Bool.not_true]
              refine ⟨by omega, ?_⟩
              rw [roundB_bad (by omega) hok]
              exact ⟨rfl, up⟩
          · have hok : okAt n r a = false := by unfold okAt; rw [if_neg h1]; simp only [h2, decide_false, Bool.false_and]
            try simp (disch := first | omega | (simp only [ints_length, List.length_replicate] <;> omega)) only [Sall,evalOp,init,binA_s,binE,binI,unE,convE,okNil,builtE,gv,TD.isAgg,resV,↓reduceIte,Nat.reduceEqDiff,reduceCtorEq,Nat.reduceAdd,Nat.reduceMul,Nat.reduceLeDiff,quietOp,blindOp,Int.reduceEq,Int.reduceLT,Int.reduceLE,Nat.reduceLT,tiA, h5, h10, h0, h3, h1, h1', decide_true, decide_false, ints_get?, h2, w64, Bool.not_false]
            rw [roundB_bad (by omega) hok]
            exact ⟨rfl, up⟩
      · try simp (disch := first | omega | (simp only [ints_length, List.length_replicate] <;> omega)) only [Sall,evalOp,init,binA_s,binE,binI,unE,convE,okNil,builtE,gv,TD.isAgg,resV,↓reduceIte,Nat.reduceEqDiff,reduceCtorEq,Nat.reduceAdd,Nat.reduceMul,Nat.reduceLeDiff,quietOp,blindOp,Int.reduceEq,Int.reduceLT,Int.reduceLE,Nat.reduceLT,tiA, true_and]
        rw [roundB_good hn fun x hx => hall x (by omega)]
        exact ⟨rfl, up⟩
  · try simp (disch := first | omega | (simp only [ints_length, List.length_replicate] <;> omega)) only [Sall,evalOp,init,binA_s,binE,binI,unE,convE,okNil,builtE,gv,TD.isAgg,resV,↓reduceIte,Nat.reduceEqDiff,reduceCtorEq,Nat.reduceAdd,Nat.reduceMul,Nat.reduceLeDiff,quietOp,blindOp,Int.reduceEq,Int.reduceLT,Int.reduceLE,Nat.reduceLT,tiA, hn, decide_false, Bool.not_false]
    rw [roundB_range hn]
    exact ⟨rfl, up⟩
theorem l01Is_c (q : Int) (v : Value) (k : Nat) (l : List Int) (H : AH) (hv : Rd 14 H v k l) (hk : k ≤ 4294967296) : ACalls Tryz.prog 110 [.agg #[.int .i64 q, v]] H (is (.bool (schedB q k l)) H) := by
  refine ACalls.wf (by kernel_rfl) fun hs => acalls_up rfl (acalls_of_awp [.tmp 2] Tryz.func110 (by kernel_rfl) rfl rfl (Nat.le_of_ble_eq_true rfl) (by kernel_rfl) ?_)
  have up : Up H.next H (H.push ⟨26, true, [.int .i64 q, v]⟩) := (Up.refl _ H).push (Nat.le_refl _) _
  have hv1 := hv.same (up.le hs).row
  have e1 : (H.push ⟨26, true, [.int .i64 q, v]⟩).row H.next = some ⟨26, true, [.int .i64 q, v]⟩ := by rw [AH.push_row, if_pos rfl]
  try simp (disch := first | omega | (simp only [ints_length, List.length_replicate] <;> omega)) only [Sall,evalOp,init,binA_s,binE,binI,unE,convE,okNil,builtE,gv,TD.isAgg,resV,↓reduceIte,Nat.reduceEqDiff,reduceCtorEq,Nat.reduceAdd,Nat.reduceMul,Nat.reduceLeDiff,quietOp,blindOp,Int.reduceEq,Int.reduceLT,Int.reduceLE,Nat.reduceLT,tiA, true_and]
  refine (l01In_c _ _ _ _).to ?_
  revert up hv1 e1
  generalize H.push ⟨26, true, [.int .i64 q, v]⟩ = H1
  intro up hv1 e1
  by_cases hn : 2 ≤ q ∧ q ≤ 14
  · by_cases h40 : k ≤ 40
    · have h40' : ¬ (40 : Int) < k := by omega
      try simp (disch := first | omega | (simp only [ints_length, List.length_replicate] <;> omega)) only [Sall,evalOp,init,binA_s,binE,binI,unE,convE,okNil,builtE,gv,TD.isAgg,resV,↓reduceIte,Nat.reduceEqDiff,reduceCtorEq,Nat.reduceAdd,Nat.reduceMul,Nat.reduceLeDiff,quietOp,blindOp,Int.reduceEq,Int.reduceLT,Int.reduceLE,Nat.reduceLT,tiA, hn, decide_true, Bool.not_true, e1, builtE, hv1.len, h40', decide_false]
      refine awp_loop (fun m t H' => ∃ a : Nat, m = k - a ∧ a ≤ k ∧ t 3 = .int .i64 a ∧ t 1 = .pointer (some ⟨H.next, 0, none⟩) ∧ H' = H1 ∧ (∀ x, x < a → roundB q (rnd l x) = true)) k ?_ ?_
      · refine ⟨0, by omega, by omega, ?_⟩
        try simp (disch := first | omega | (simp only [ints_length, List.length_replicate] <;> omega)) only [Sall,evalOp,init,binA_s,binE,binI,unE,convE,okNil,builtE,gv,TD.isAgg,resV,↓reduceIte,Nat.reduceEqDiff,reduceCtorEq,Nat.reduceAdd,Nat.reduceMul,Nat.reduceLeDiff,quietOp,blindOp,Int.reduceEq,Int.reduceLT,Int.reduceLE,Nat.reduceLT,tiA, Int.natCast_zero, Nat.not_lt_zero, false_implies]
      · rintro m t H' ⟨a, hm, h14, h3, h1, rfl, hall⟩
        try simp (disch := first | omega | (simp only [ints_length, List.length_replicate] <;> omega)) only [Sall,evalOp,init,binA_s,binE,binI,unE,convE,okNil,builtE,gv,TD.isAgg,resV,↓reduceIte,Nat.reduceEqDiff,reduceCtorEq,Nat.reduceAdd,Nat.reduceMul,Nat.reduceLeDiff,quietOp,blindOp,Int.reduceEq,Int.reduceLT,Int.reduceLE,Nat.reduceLT,tiA, h3, h1, e1, builtE, hv1.len]
        refine condC_dec (fun h => ?_) (fun h => ?_)
        · obtain ⟨i, o, u, c, r, rfl, hr, hc, hs1, hg⟩ := hv1.get (by omega)
          refine draw_id (by kernel_rfl) (by kernel_rfl) ?_
          try simp (disch := first | omega | (simp only [ints_length, List.length_replicate] <;> omega)) only [Sall,evalOp,init,binA_s,binE,binI,unE,convE,okNil,builtE,gv,TD.isAgg,resV,↓reduceIte,Nat.reduceEqDiff,reduceCtorEq,Nat.reduceAdd,Nat.reduceMul,Nat.reduceLeDiff,quietOp,blindOp,Int.reduceEq,Int.reduceLT,Int.reduceLE,Nat.reduceLT,tiA, h3, h1, e1, hr, hg]
          refine ⟨⟨by omega, by omega⟩, by omega, (l01Round_c _ _ ?_ _).to ⟨.inr (.inr (LE.refl _)), ?_⟩⟩
          · rw [List.length_take, List.length_drop, hv.1]; omega
          · cases hb : roundB q (List.take 14 (List.drop (a * 14) l)) with
            | true =>
              try simp (disch := first | omega | (simp only [ints_length, List.length_replicate] <;> omega)) only [Sall,evalOp,init,binA_s,binE,binI,unE,convE,okNil,builtE,gv,TD.isAgg,resV,↓reduceIte,Nat.reduceEqDiff,reduceCtorEq,Nat.reduceAdd,Nat.reduceMul,Nat.reduceLeDiff,quietOp,blindOp,Int.reduceEq,Int.reduceLT,Int.reduceLE,Nat.reduceLT,tiA, h3, h1, Bool.not_true, w64]
              refine ⟨k - (a + 1), by omega, a + 1, rfl, by omega, by omega, fun x hx => ?_⟩
              by_cases e : x = a
              · rw [e]; exact hb
              · exact hall x (by omega)
            | false =>
              try simp (disch := first | omega | (simp only [ints_length, List.length_replicate] <;> omega)) only [Sall,evalOp,init,binA_s,binE,binI,unE,convE,okNil,builtE,gv,TD.isAgg,resV,↓reduceIte,Nat.reduceEqDiff,reduceCtorEq,Nat.reduceAdd,Nat.reduceMul,Nat.reduceLeDiff,quietOp,blindOp,Int.reduceEq,Int.reduceLT,Int.reduceLE,Nat.reduceLT,tiA, h3, h1, Bool.not_false]
              unfold schedB
              rw [all_false_of (p := fun i => roundB q (rnd l i)) (i := a) (by omega) hb, Bool.and_false]
              exact ⟨rfl, up⟩
        · try simp (disch := first | omega | (simp only [ints_length, List.length_replicate] <;> omega)) only [Sall,evalOp,init,binA_s,binE,binI,unE,convE,okNil,builtE,gv,TD.isAgg,resV,↓reduceIte,Nat.reduceEqDiff,reduceCtorEq,Nat.reduceAdd,Nat.reduceMul,Nat.reduceLeDiff,quietOp,blindOp,Int.reduceEq,Int.reduceLT,Int.reduceLE,Nat.reduceLT,tiA, true_and]
          unfold schedB
          rw [all_true_of (p := fun i => roundB q (rnd l i)) fun x hx => hall x (by omega)]
          simp only [hn, h40, decide_true, and_self, Bool.and_self, true_and]
          exact up
    · have h40' : (40 : Int) < k := by omega
      try simp (disch := first | omega | (simp only [ints_length, List.length_replicate] <;> omega)) only [Sall,evalOp,init,binA_s,binE,binI,unE,convE,okNil,builtE,gv,TD.isAgg,resV,↓reduceIte,Nat.reduceEqDiff,reduceCtorEq,Nat.reduceAdd,Nat.reduceMul,Nat.reduceLeDiff,quietOp,blindOp,Int.reduceEq,Int.reduceLT,Int.reduceLE,Nat.reduceLT,tiA, hn, decide_true, Bool.not_true, e1, builtE, hv1.len, h40']
      unfold schedB
      simp only [h40, decide_false, Bool.and_false, Bool.false_and, true_and]
      exact up
  · try simp (disch := first | omega | (simp only [ints_length, List.length_replicate] <;> omega)) only [Sall,evalOp,init,binA_s,binE,binI,unE,convE,okNil,builtE,gv,TD.isAgg,resV,↓reduceIte,Nat.reduceEqDiff,reduceCtorEq,Nat.reduceAdd,Nat.reduceMul,Nat.reduceLeDiff,quietOp,blindOp,Int.reduceEq,Int.reduceLT,Int.reduceLE,Nat.reduceLT,tiA, hn, decide_false, Bool.not_false]
    unfold schedB
    simp only [hn, decide_false, Bool.false_and, true_and]
    exact up
theorem indexFuncR_c (g : FuncId) (cap : List Value) (p : List Int → Bool) (v : Value) (k : Nat) (l : List Int) (H : AH) (hv : Rd 14 H v k l) (hk : k ≤ 4294967296)
    (hp : ∀ r : List Int, r.length = 14 → ACalls Tryz.prog g (.agg (ints r).toArray :: cap) H (is (.bool (p r)) H)) :
    ACalls Tryz.prog 303 [v, .func (.func g) #[] cap.toArray] H (is (.int .i64 (firstI (fun i => p (rnd l i)) k)) H) := by
  refine acalls_of_awp [.tmp 4] Tryz.func303 (by kernel_rfl) rfl rfl (Nat.le_of_ble_eq_true rfl) (by kernel_rfl) ?_
  try simp (disch := first | omega | (simp only [ints_length, List.length_replicate] <;> omega)) only [Sall,evalOp,init,binA_s,binE,binI,unE,convE,okNil,builtE,gv,TD.isAgg,resV,↓reduceIte,Nat.reduceEqDiff,reduceCtorEq,Nat.reduceAdd,Nat.reduceMul,Nat.reduceLeDiff,quietOp,blindOp,Int.reduceEq,Int.reduceLT,Int.reduceLE,Nat.reduceLT,tiA, builtE, hv.len]
  refine awp_loop (fun m t H' => ∃ a : Nat, m = k - a ∧ a ≤ k ∧ t 8 = .int .i64 a ∧ t 7 = .int .i64 k ∧ t 0 = v ∧ t 1 = .func (.func g) #[] cap.toArray ∧ H' = H ∧ (∀ x, x < a → p (rnd l x) = false)) k ?_ ?_
  · refine ⟨0, by omega, by omega, ?_⟩
    try simp (disch := first | omega | (simp only [ints_length, List.length_replicate] <;> omega)) only [Sall,evalOp,init,binA_s,binE,binI,unE,convE,okNil,builtE,gv,TD.isAgg,resV,↓reduceIte,Nat.reduceEqDiff,reduceCtorEq,Nat.reduceAdd,Nat.reduceMul,Nat.reduceLeDiff,quietOp,blindOp,Int.reduceEq,Int.reduceLT,Int.reduceLE,Nat.reduceLT,tiA, Int.natCast_zero, Nat.not_lt_zero, false_implies]
  · rintro m t H' ⟨a, hm, h14, h8, h7, h0, h1, rfl, hall⟩
    try simp (disch := first | omega | (simp only [ints_length, List.length_replicate] <;> omega)) only [Sall,evalOp,init,binA_s,binE,binI,unE,convE,okNil,builtE,gv,TD.isAgg,resV,↓reduceIte,Nat.reduceEqDiff,reduceCtorEq,Nat.reduceAdd,Nat.reduceMul,Nat.reduceLeDiff,quietOp,blindOp,Int.reduceEq,Int.reduceLT,Int.reduceLE,Nat.reduceLT,tiA, h8, h7]
    refine condC_dec (fun h => ?_) (fun h => ?_)
    · obtain ⟨i, o, u, c, r, rfl, hr, hc, hs1, hg⟩ := hv.get (by omega)
      try simp (disch := first | omega | (simp only [ints_length, List.length_replicate] <;> omega)) only [Sall,evalOp,init,binA_s,binE,binI,unE,convE,okNil,builtE,gv,TD.isAgg,resV,↓reduceIte,Nat.reduceEqDiff,reduceCtorEq,Nat.reduceAdd,Nat.reduceMul,Nat.reduceLeDiff,quietOp,blindOp,Int.reduceEq,Int.reduceLT,Int.reduceLE,Nat.reduceLT,tiA, h8, h7, h0, h1, hr, hg]
      refine ⟨⟨by omega, by omega⟩, by omega, (hp _ ?_).to ?_⟩
      · rw [List.length_take, List.length_drop, hv.1]; omega
      · cases hb : p (List.take 14 (List.drop (a * 14) l)) with
        | true =>
          try simp (disch := first | omega | (simp only [ints_length, List.length_replicate] <;> omega)) only [Sall,evalOp,init,binA_s,binE,binI,unE,convE,okNil,builtE,gv,TD.isAgg,resV,↓reduceIte,Nat.reduceEqDiff,reduceCtorEq,Nat.reduceAdd,Nat.reduceMul,Nat.reduceLeDiff,quietOp,blindOp,Int.reduceEq,Int.reduceLT,Int.reduceLE,Nat.reduceLT,tiA, h8, h7, h0, h1, is]
          rw [firstI_at (p := fun i => p (rnd l i)) (by omega) hb hall]
        | false =>
          try simp (disch := first | omega | (simp only [ints_length, List.length_replicate] <;> omega)) only [Sall,evalOp,init,binA_s,binE,binI,unE,convE,okNil,builtE,gv,TD.isAgg,resV,↓reduceIte,Nat.reduceEqDiff,reduceCtorEq,Nat.reduceAdd,Nat.reduceMul,Nat.reduceLeDiff,quietOp,blindOp,Int.reduceEq,Int.reduceLT,Int.reduceLE,Nat.reduceLT,tiA, h8, h7, h0, h1, w64]
          refine ⟨k - (a + 1), by omega, a + 1, rfl, by omega, by omega, fun x hx => ?_⟩
          by_cases e : x = a
          · rw [e]; exact hb
          · exact hall x (by omega)
    · try simp (disch := first | omega | (simp only [ints_length, List.length_replicate] <;> omega)) only [Sall,evalOp,init,binA_s,binE,binI,unE,convE,okNil,builtE,gv,TD.isAgg,resV,↓reduceIte,Nat.reduceEqDiff,reduceCtorEq,Nat.reduceAdd,Nat.reduceMul,Nat.reduceLeDiff,quietOp,blindOp,Int.reduceEq,Int.reduceLT,Int.reduceLE,Nat.reduceLT,tiA, is]
      rw [firstI_none (p := fun i => p (rnd l i)) fun x hx => hall x (by omega)]
theorem containsFuncR_c (g : FuncId) (cap : List Value) (p : List Int → Bool) (v : Value) (k : Nat) (l : List Int) (H : AH) (hv : Rd 14 H v k l) (hk : k ≤ 4294967296)
    (hp : ∀ r : List Int, r.length = 14 → ACalls Tryz.prog g (.agg (ints r).toArray :: cap) H (is (.bool (p r)) H)) :
    ACalls Tryz.prog 290 [v, .func (.func g) #[] cap.toArray] H (is (.bool ((List.range k).any fun i => p (rnd l i))) H) := by
  refine acalls_of_awp [.tmp 4] Tryz.func290 (by kernel_rfl) rfl rfl (Nat.le_of_ble_eq_true rfl) (by kernel_rfl) ?_
  try simp (disch := first | omega | (simp only [ints_length, List.length_replicate] <;> omega)) only [Sall,evalOp,init,binA_s,binE,binI,unE,convE,okNil,builtE,gv,TD.isAgg,resV,↓reduceIte,Nat.reduceEqDiff,reduceCtorEq,Nat.reduceAdd,Nat.reduceMul,Nat.reduceLeDiff,quietOp,blindOp,Int.reduceEq,Int.reduceLT,Int.reduceLE,Nat.reduceLT,tiA, true_and]
  refine (indexFuncR_c g cap p v k l H hv hk hp).to ?_
  try simp (disch := first | omega | (simp only [ints_length, List.length_replicate] <;> omega)) only [Sall,evalOp,init,binA_s,binE,binI,unE,convE,okNil,builtE,gv,TD.isAgg,resV,↓reduceIte,Nat.reduceEqDiff,reduceCtorEq,Nat.reduceAdd,Nat.reduceMul,Nat.reduceLeDiff,quietOp,blindOp,Int.reduceEq,Int.reduceLT,Int.reduceLE,Nat.reduceLT,tiA, is, firstI_any]
theorem IsSchedule1_c (q : Int) (u : Value) (x : Nat) (r : List Int) (hr : r.length = 14) (H : AH) (hx : H.row x = some ⟨26, true, [.int .i64 q, u]⟩) :
    ACalls Tryz.prog 291 [.agg (ints r).toArray, .pointer (some ⟨x, 0, none⟩)] H (is (.bool (!roundB q r)) H) := by
  refine ACalls.wf (by kernel_rfl) fun hs => acalls_up rfl (acalls_of_awp [.tmp 3] Tryz.func291 (by kernel_rfl) rfl rfl (Nat.le_of_ble_eq_true rfl) (by kernel_rfl) ?_)
  have hne : ¬ x = H.next := by have := hs x _ hx; omega
  try simp (disch := first | omega | (simp only [ints_length, List.length_replicate] <;> omega)) only [Sall,evalOp,init,binA_s,binE,binI,unE,convE,okNil,builtE,gv,TD.isAgg,resV,↓reduceIte,Nat.reduceEqDiff,reduceCtorEq,Nat.reduceAdd,Nat.reduceMul,Nat.reduceLeDiff,quietOp,blindOp,Int.reduceEq,Int.reduceLT,Int.reduceLE,Nat.reduceLT,tiA, hx, hne, hr]
  refine (IsRound_c _ _ hr _).to ?_
  try simp (disch := first | omega | (simp only [ints_length, List.length_replicate] <;> omega)) only [Sall,evalOp,init,binA_s,binE,binI,unE,convE,okNil,builtE,gv,TD.isAgg,resV,↓reduceIte,Nat.reduceEqDiff,reduceCtorEq,Nat.reduceAdd,Nat.reduceMul,Nat.reduceLeDiff,quietOp,blindOp,Int.reduceEq,Int.reduceLT,Int.reduceLE,Nat.reduceLT,tiA, true_and]
  exact (Up.refl _ H).push (Nat.le_refl _) _
theorem IsSchedule_c (q : Int) (v : Value) (k : Nat) (l : List Int) (H : AH) (hv : Rd 14 H v k l) (hk : k ≤ 4294967296) : ACalls Tryz.prog 232 [.agg #[.int .i64 q, v]] H (is (.bool (schedB q k l)) H) := by
  refine ACalls.wf (by kernel_rfl) fun hs => acalls_up rfl (acalls_of_awp [.tmp 2] Tryz.func232 (by kernel_rfl) rfl rfl (Nat.le_of_ble_eq_true rfl) (by kernel_rfl) ?_)
  have up : Up H.next H (H.push ⟨26, true, [.int .i64 q, v]⟩) := (Up.refl _ H).push (Nat.le_refl _) _
  have hv1 := hv.same (up.le hs).row
  have e1 : (H.push ⟨26, true, [.int .i64 q, v]⟩).row H.next = some ⟨26, true, [.int .i64 q, v]⟩ := by rw [AH.push_row, if_pos rfl]
  try simp (disch := first | omega | (simp only [ints_length, List.length_replicate] <;> omega)) only [Sall,evalOp,init,binA_s,binE,binI,unE,convE,okNil,builtE,gv,TD.isAgg,resV,↓reduceIte,Nat.reduceEqDiff,reduceCtorEq,Nat.reduceAdd,Nat.reduceMul,Nat.reduceLeDiff,quietOp,blindOp,Int.reduceEq,Int.reduceLT,Int.reduceLE,Nat.reduceLT,tiA, true_and]
  refine (between_c _ _ _ _).to ?_
  revert up hv1 e1
  generalize H.push ⟨26, true, [.int .i64 q, v]⟩ = H1
  intro up hv1 e1
  by_cases hn : 2 ≤ q ∧ q ≤ 14
  · by_cases h40 : k ≤ 40
    · have h40' : (k : Int) ≤ 40 := by omega
      try simp (disch := first | omega | (simp only [ints_length, List.length_replicate] <;> omega)) only [Sall,evalOp,init,binA_s,binE,binI,unE,convE,okNil,builtE,gv,TD.isAgg,resV,↓reduceIte,Nat.reduceEqDiff,reduceCtorEq,Nat.reduceAdd,Nat.reduceMul,Nat.reduceLeDiff,quietOp,blindOp,Int.reduceEq,Int.reduceLT,Int.reduceLE,Nat.reduceLT,tiA, hn, decide_true, e1, builtE, hv1.len, h40', List.mem_cons, List.not_mem_nil, or_false, forall_eq, Array.size_empty]
      refine (containsFuncR_c 291 [.pointer (some ⟨H.next, 0, none⟩)] (fun r => !roundB q r) v k l H1 hv1 hk fun r hr => IsSchedule1_c q v H.next r hr H1 e1).to ?_
      try simp (disch := first | omega | (simp only [ints_length, List.length_replicate] <;> omega)) only [Sall,evalOp,init,binA_s,binE,binI,unE,convE,okNil,builtE,gv,TD.isAgg,resV,↓reduceIte,Nat.reduceEqDiff,reduceCtorEq,Nat.reduceAdd,Nat.reduceMul,Nat.reduceLeDiff,quietOp,blindOp,Int.reduceEq,Int.reduceLT,Int.reduceLE,Nat.reduceLT,tiA, true_and]
      rw [schedB_any]
      simp only [hn, h40, decide_true, and_self, Bool.true_and, true_and]
      exact up
    · have h40' : ¬ (k : Int) ≤ 40 := by omega
      try simp (disch := first | omega | (simp only [ints_length, List.length_replicate] <;> omega)) only [Sall,evalOp,init,binA_s,binE,binI,unE,convE,okNil,builtE,gv,TD.isAgg,resV,↓reduceIte,Nat.reduceEqDiff,reduceCtorEq,Nat.reduceAdd,Nat.reduceMul,Nat.reduceLeDiff,quietOp,blindOp,Int.reduceEq,Int.reduceLT,Int.reduceLE,Nat.reduceLT,tiA, hn, decide_true, decide_false, e1, builtE, hv1.len, h40']
      rw [schedB_any]
      simp only [h40, decide_false, Bool.and_false, Bool.false_and, true_and]
      exact up
  · try simp (disch := first | omega | (simp only [ints_length, List.length_replicate] <;> omega)) only [Sall,evalOp,init,binA_s,binE,binI,unE,convE,okNil,builtE,gv,TD.isAgg,resV,↓reduceIte,Nat.reduceEqDiff,reduceCtorEq,Nat.reduceAdd,Nat.reduceMul,Nat.reduceLeDiff,quietOp,blindOp,Int.reduceEq,Int.reduceLT,Int.reduceLE,Nat.reduceLT,tiA, hn, decide_false]
    rw [schedB_any]
    simp only [hn, decide_false, Bool.false_and, true_and]
    exact up
end Go.Proofs.YtpienljnoaendaaGreat.A
end

section
namespace Go.Abs
open Go Go.RowKit
end Go.Abs
end

section
namespace Go.Abs
open Go Go.RowKit
def absV (n : Nat) (v : Value) : Value := if scal v = true then v else match v with
  | .slice (some _) 0 c => if 0 < n then .slice (some ⟨0, 1, some 0⟩) 0 c else undef
  | .slice (some ⟨b, o, none⟩) l c => if b < n then .slice (some ⟨b, o, none⟩) l c else undef
  | _ => undef
def absRow (w : World) (b : Nat) : List Value := match bsz w b with
  | some k => (List.range k).map fun j => match w.cell? ⟨b, j, none⟩ with | some v => absV w.heap.size v | none => undef
  | none => []
def given (w : World) : AH := ⟨w.heap.size, fun b => if b < w.heap.size then some ⟨0, false, absRow w b⟩ else none⟩
theorem absV_rel (w : World) (v : Value) (h : (absV w.heap.size v).oneCell' = true) : V1 id w.heap.size w (absV w.heap.size v) v := by
  unfold absV at h ⊢
  by_cases hs : scal v = true
  · rw [if_pos hs]; exact .scal v hs
  · rw [if_neg hs] at h ⊢
    split at h
    · rename_i a c
      by_cases hb : 0 < w.heap.size
      · simp only [hb, if_true]; exact .slu 0 1 0 c 0 a c hb (Nat.zero_le _) (.inr ⟨rfl, Nat.zero_lt_one⟩)
      · simp [hb, undef, Value.oneCell'] at h
    · rename_i b o l c _
      by_cases hb : b < w.heap.size
      · simp only [hb, if_true]; exact V1.sle (ρ := id) b o l c hb
      · simp [hb, undef, Value.oneCell'] at h
    · simp [undef, Value.oneCell'] at h
theorem given_rel (w : World) : Rel w.heap.size id (given w) w := by
  refine ⟨fun i r hr => ?_, fun i r hr hb => ?_, fun i r hr hb => ?_, fun i j r s hr hs hb => ?_, Nat.le_refl _⟩
  · simp only [given] at hr ⊢; split at hr
    · assumption
    · cases hr
  · simp only [given] at hr ⊢; split at hr
    · rename_i hi
      cases hr
      refine ⟨hi, fun j v hv ho => ?_⟩
      unfold absRow at hv
      split at hv
      · simp only [List.getElem?_map, Option.map_eq_some_iff] at hv
        obtain ⟨j', hj', hv⟩ := hv
        have : j' = j := by
          rw [List.getElem?_range (by simpa using (List.getElem?_eq_some_iff.1 hj').1)] at hj'
          simpa using hj'.symm
        subst this
        split at hv
        · rename_i v' hc
          subst hv
          exact ⟨v', hc, absV_rel w v' ho⟩
        · subst hv; simp [undef, Value.oneCell'] at ho
      · simp at hv
    · cases hr
  · simp only [given] at hr; split at hr
    · cases hr; simp at hb
    · cases hr
  · simp only [given] at hr; split at hr
    · cases hr; simp at hb
    · cases hr
/-! ### What the statement's reading tells -/
section
variable {H : Type} {enc : TypeId × Value → H} {P : Program} {w : World} {base : Nat} {spare : Nat → Bool} {held : Bool}
end
theorem ok_slice_cell {P : Program} {W : World} {b0 : Nat} {t e : TypeId} {v : Value} (ht : P.underlying t = some (.slice e)) (h : Cell.okWide P W .any b0 t v) :
    v = .slice none 0 0 ∨ ∃ b o n c, v = .slice (some ⟨b, o, none⟩) n c ∧ b < W.heap.size ∧ n ≤ 9223372036854775807 := by
  have h2 : Cell.ok P W .any b0 t v := by
    unfold Cell.okWide at h
    rw [ht] at h
    exact h
  unfold Cell.ok at h2
  rw [ht] at h2
  split at h2 <;> simp_all
  rename_i a len cap _
  obtain ⟨h3, h4, _, hsp, row, cells, hsh, _⟩ := h2
  have hb : a.block < W.heap.size := by
    unfold World.shape? at hsh
    cases hg : W.heap[a.block]? with
    | none => rw [hg] at hsh; cases hsh
    | some o => exact (Array.getElem?_eq_some_iff.1 hg).1
  obtain ⟨b, o, sp⟩ := a
  simp only at hsp
  subst hsp
  exact ⟨b, o, len, ⟨rfl, rfl⟩, hb, by omega⟩
section
variable {H : Type} {enc : TypeId × Value → H} {P : Program} {w : World} {base : Nat} {spare : Nat → Bool} {held : Bool}
end
theorem law_end {P : Program} {f : FuncId} {args : List Value} {W : World} (hl : LV id W.heap.size W args args) (h : ACalls P f args (given W) (fun v _ => v = .bool true ∧ True)) :
    Calls P f args.toArray W fun e W' => e = .returned (.bool true) ∧ Below W.heap.size W W' := by
  refine (h.2 W.heap.size id W args (given_rel W) hl).mono ?_
  rintro e w' ⟨v', v, H', ρ', rfl, ⟨rfl, _⟩, R', hV, E⟩
  rw [hV.bool]
  exact ⟨rfl, E.bl⟩
end Go.Abs
end

section
namespace Go.Abs
open Go Go.RowKit
def Rd2 (k : Nat) (H : AH) (v : Value) (ll : List (List Int)) : Prop :=
  (ll = [] ∧ ∃ a c, v = .slice a 0 c ∧ (a = none → c = 0)) ∨ ∃ i o u c r, v = .slice (some ⟨i, o, u⟩) ll.length c ∧ H.row i = some r ∧
    ∀ j, j < ll.length → ∃ x m, r.cells[o + j]? = some x ∧ Rd k H x m (ll.getD j [])
def Fr2 (k ty ty' lo hi : Nat) (H : AH) (v : Value) (ll : List (List Int)) : Prop :=
  (ll = [] ∧ v = .slice none 0 0) ∨ ∃ (i : Nat) (vs : List Value) (b : Nat → Nat), lo ≤ i ∧ i < hi ∧ v = .slice (some ⟨i, 0, some 1⟩) ll.length ll.length ∧ H.row i = some ⟨ty, true, vs⟩ ∧ vs.length = ll.length ∧
    lo ≤ b 0 ∧ b ll.length ≤ hi ∧ (i < b 0 ∨ b ll.length ≤ i) ∧ (∀ j, b j ≤ b (j + 1)) ∧ ∀ j, j < ll.length → ∃ x m, vs[j]? = some x ∧ Fr k ty' (b j) (b (j + 1)) H x m (ll.getD j [])
theorem mono_of_step {b : Nat → Nat} (h : ∀ j, b j ≤ b (j + 1)) {i j : Nat} (hij : i ≤ j) : b i ≤ b j := by
  induction hij with
  | refl => exact Nat.le_refl _
  | step _ ih => exact Nat.le_trans ih (h _)
theorem Fr2.rd {k ty ty' lo hi : Nat} {H : AH} {v : Value} {ll : List (List Int)} (h : Fr2 k ty ty' lo hi H v ll) : Rd2 k H v ll := by
  rcases h with ⟨h1, h2⟩ | ⟨i, vs, b, h1, h2, rfl, hr, hl, _, _, _, _, hj⟩
  · exact .inl ⟨h1, none, 0, h2, fun _ => rfl⟩
  · refine .inr ⟨i, 0, some 1, _, _, rfl, hr, fun j hjl => ?_⟩
    obtain ⟨x, m, hx, hf⟩ := hj j hjl
    exact ⟨x, m, by simpa using hx, hf.rd⟩
theorem Fr2.same {k ty ty' lo hi : Nat} {H H' : AH} {v : Value} {ll : List (List Int)} (h : Fr2 k ty ty' lo hi H v ll) (hs : ∀ i, lo ≤ i → i < hi → H'.row i = H.row i) : Fr2 k ty ty' lo hi H' v ll := by
  rcases h with h | ⟨i, vs, b, h1, h2, hv, hr, hl, h3, h4, h5, h6, hj⟩
  · exact .inl h
  · refine .inr ⟨i, vs, b, h1, h2, hv, by rw [hs i h1 h2]; exact hr, hl, h3, h4, h5, h6, fun j hjl => ?_⟩
    obtain ⟨x, m, hx, hf⟩ := hj j hjl
    have m1 := mono_of_step h6 (Nat.zero_le j)
    have m2 := mono_of_step h6 (show j + 1 ≤ ll.length from hjl)
    exact ⟨x, m, hx, hf.same fun y a1 a2 => hs y (by omega) (by omega)⟩
theorem Fr2.wide {k ty ty' lo hi lo' hi' : Nat} {H : AH} {v : Value} {ll : List (List Int)} (h : Fr2 k ty ty' lo hi H v ll) (a : lo' ≤ lo) (c : hi ≤ hi') : Fr2 k ty ty' lo' hi' H v ll := by
  rcases h with h | ⟨i, vs, b, h1, h2, hv, hr, hl, h3, h4, h5, h6, hj⟩
  · exact .inl h
  · exact .inr ⟨i, vs, b, by omega, by omega, hv, hr, hl, by omega, by omega, h5, h6, hj⟩
theorem Rd2.same {k : Nat} {H H' : AH} {v : Value} {ll : List (List Int)} (h : Rd2 k H v ll) (hs : ∀ i r, H.row i = some r → H'.row i = some r) : Rd2 k H' v ll := by
  rcases h with h | ⟨i, o, u, c, r, hv, hr, hj⟩
  · exact .inl h
  · refine .inr ⟨i, o, u, c, r, hv, hs _ _ hr, fun j hjl => ?_⟩
    obtain ⟨x, m, hx, hf⟩ := hj j hjl
    exact ⟨x, m, hx, hf.same hs⟩
theorem Rd2.len {k : Nat} {H : AH} {v : Value} {ll : List (List Int)} (h : Rd2 k H v ll) (H' : AH) : asSl v (.val (.int .i64 0) H') (fun _ _ _ n _ => .val (.int .i64 (n : Int)) H') = .val (.int .i64 (ll.length : Int)) H' := by
  rcases h with ⟨rfl, a, c, rfl, _⟩ | ⟨i, o, u, c, r, rfl, hr, h3⟩
  · cases a <;> rfl
  · rfl
theorem Rd2.one {k : Nat} {H : AH} {v : Value} {ll : List (List Int)} (h : Rd2 k H v ll) : v.oneCell' = true := by
  rcases h with ⟨_, a, c, rfl, _⟩ | ⟨i, o, u, c, r, rfl, _⟩ <;> rfl
theorem ok_one {r : Row} {v : Value} (h : v.oneCell' = true) : Row.ok r [v] := .inr fun u hu => by simp at hu; rw [hu]; exact h
theorem Rd2.get {k : Nat} {H : AH} {v : Value} {ll : List (List Int)} (h : Rd2 k H v ll) {j : Nat} (hj : j < ll.length) :
    ∃ i o u c r x m, v = .slice (some ⟨i, o, u⟩) ll.length c ∧ H.row i = some r ∧ r.cells[o + j]? = some x ∧ Rd k H x m (ll.getD j []) ∧ Row.ok r [x] := by
  rcases h with ⟨rfl, _⟩ | ⟨i, o, u, c, r, rfl, hr, h3⟩
  · simp at hj
  · obtain ⟨x, m, hx, hf⟩ := h3 j hj
    exact ⟨i, o, u, c, r, x, m, rfl, hr, hx, hf, ok_one hf.one⟩
theorem Rd.lenK1 {n : Nat} {H : AH} {v : Value} {l : List Int} (h : Rd 1 H v n l) : n = l.length := by rw [h.1]; omega
theorem Fr.lenK1 {ty lo hi n : Nat} {H : AH} {v : Value} {l : List Int} (h : Fr 1 ty lo hi H v n l) : n = l.length := by rw [h.1]; omega
theorem getD_mem {ll : List (List Int)} {a : Nat} (ha : a < ll.length) : ll.getD a [] ∈ ll := by
  rw [List.getD_eq_getElem?_getD, List.getElem?_eq_getElem ha]; exact List.getElem_mem _
theorem appE_fr2 {P : Program} {E : TI} {k ty ty' lo hi m : Nat} {H : AH} {v x : Value} {ll : List (List Int)} {l : List Int} {K : Value → AH → Prop} (h : Fr2 k ty ty' lo hi H v ll) (hx : Fr k ty' hi H.next H x m l) (hE : E.size = 1) (hb : E.bytes ≤ 32768) (hn : ll.length + 1 ≤ 4294967296) (hlo : lo ≤ hi) (hhi : hi ≤ H.next)
    (hK : ∀ v' H', H'.next = H.next + 1 → (∀ i, ¬(lo ≤ i ∧ i < hi) → i < H.next → H'.row i = H.row i) → Fr2 k ty ty' lo (H.next + 1) H' v' (ll ++ [l]) → K v' H') :
    runOut P H (appE E ty v [x] 1 H) K := by
  unfold appE
  rw [if_neg (by omega)]
  refine Holds.mp ?_
  rcases h with ⟨rfl, rfl⟩ | ⟨i, vs, b, h1, h2, rfl, hr, hvl, g0, gn, gi, gm, hj⟩ <;> rw [holds_def]
  · simp only [asSl_nil, runOut_need, runOut_val, hE]
    refine ⟨⟨by omega, hb⟩, hK _ _ rfl (fun i _ hi => by rw [AH.push_row, if_neg (by omega)]) (.inr ⟨H.next, [x], fun j => if j = 0 then hi else H.next, by omega, by omega, rfl, by rw [AH.push_row, if_pos rfl], rfl, ?_, ?_, .inr ?_, fun j => ?_, fun j hj => ?_⟩)⟩
    · dsimp only; rw [if_pos rfl]; exact hlo
    · dsimp only [List.nil_append, List.length_singleton]; rw [if_neg (by omega)]; omega
    · dsimp only [List.nil_append, List.length_singleton]; rw [if_neg (by omega)]; omega
    · dsimp only; split
      · rw [if_neg (by omega)]; exact hhi
      · rw [if_neg (by omega)]; omega
    · simp only [List.nil_append, List.length_singleton] at hj
      have : j = 0 := by omega
      subst this
      refine ⟨x, m, rfl, ?_⟩
      dsimp only
      rw [if_pos rfl, if_neg (by omega)]
      exact hx.same fun z _ hz => by rw [AH.push_row, if_neg (by omega)]
  · simp only [asSl_some, hr, bindO_some, runOut_need, Nat.zero_add, hE, Nat.mul_one]
    refine ⟨⟨hn, hb, by omega, .inl rfl⟩, ?_⟩
    rw [if_neg (by omega)]
    simp only [runOut_need, runOut_val]
    refine ⟨by simp, hK _ _ rfl (fun j hj hj2 => ?_) (.inr ⟨H.next, vs ++ [x], fun j => if j < ll.length then b j else if j = ll.length then hi else H.next, by omega, by omega, ?_, ?_, ?_, ?_, ?_, .inr ?_, fun j => ?_, fun j hjl => ?_⟩)⟩
    · rw [AH.push_row, if_neg (by rw [AH.drop_next]; omega), AH.drop_row, if_neg (by omega)]
    · rw [List.length_append]; rfl
    · rw [AH.push_row, AH.drop_next, if_pos rfl, seg_all _ _ hvl.symm]
    · rw [List.length_append, List.length_append, hvl]; rfl
    · dsimp only
      split
      · exact g0
      · split
        · exact hlo
        · omega
    · rw [List.length_append, List.length_singleton]
      dsimp only
      rw [if_neg (by omega), if_neg (by omega)]; omega
    · rw [List.length_append, List.length_singleton]
      dsimp only
      rw [if_neg (by omega), if_neg (by omega)]; omega
    · dsimp only
      by_cases c1 : j + 1 < ll.length
      · rw [if_pos (by omega), if_pos c1]; exact gm j
      · by_cases c2 : j + 1 = ll.length
        · rw [if_pos (by omega), if_neg c1, if_pos c2]
          have := mono_of_step gm (show j ≤ ll.length by omega); omega
        · by_cases c3 : j = ll.length
          · rw [if_neg (by omega), if_pos c3, if_neg c1, if_neg c2]; exact hhi
          · rw [if_neg (by omega), if_neg c3, if_neg c1, if_neg c2]; omega
    · rw [List.length_append, List.length_singleton] at hjl
      have old : ∀ z, lo ≤ z → z < H.next → ¬ z = i → ((H.drop i).push ⟨ty, true, seg vs 0 ll.length ++ [x]⟩).row z = H.row z := fun z _ z2 z3 => by
        rw [AH.push_row, if_neg (by rw [AH.drop_next]; omega), AH.drop_row, if_neg z3]
      by_cases c : j < ll.length
      · obtain ⟨y, q, hy, hf⟩ := hj j c
        refine ⟨y, q, by rw [List.getElem?_append_left (by omega), hy], ?_⟩
        have e1 : (ll ++ [l]).getD j [] = ll.getD j [] := by simp [List.getD_eq_getElem?_getD, List.getElem?_append_left c]
        rw [e1]
        have c1 := mono_of_step gm (Nat.zero_le j)
        have c2 := mono_of_step gm (show j + 1 ≤ ll.length by omega)
        have f1 : Fr k ty' (b j) (b (j + 1)) ((H.drop i).push ⟨ty, true, seg vs 0 ll.length ++ [x]⟩) y q (ll.getD j []) := hf.same fun z z1 z2 => old z (by omega) (by omega) (by omega)
        dsimp only
        rw [if_pos c]
        by_cases c3 : j + 1 < ll.length
        · rw [if_pos c3]; exact f1
        · rw [if_neg c3, if_pos (by omega)]; exact f1.wide (Nat.le_refl _) (by omega)
      · have c4 : j = ll.length := by omega
        subst c4
        refine ⟨x, m, by rw [← hvl, List.getElem?_append_right (Nat.le_refl _)]; simp, ?_⟩
        have e1 : (ll ++ [l]).getD ll.length [] = l := by simp [List.getD_eq_getElem?_getD]
        rw [e1]
        dsimp only
        rw [if_neg (by omega), if_pos rfl, if_neg (by omega), if_neg (by omega)]
        exact hx.same fun z z1 z2 => old z (by omega) z2 (by omega)
end Go.Abs
end

section
namespace Go.Abs
def pairsL (r : List Int) (k : Nat) : List (List Int) := ((List.range k).filter fun (a : Nat) => decide ((a : Int) < r.getD a 0)).map fun (a : Nat) => [(a : Int), r.getD a 0]
end Go.Abs
end

section
namespace Go.Abs
def wonI (v : Int) : Int := if v = 1 then 2 else if v = 2 then 0 else 1
abbrev Ev := Nat × Int × Int × Int
def evPair (i : Nat) (p : List Int) (o : Int) : List Ev := [(i, p.getD 0 0, p.getD 1 0, o), (i, p.getD 1 0, p.getD 0 0, 2 - o)]
def evRound (n i : Nat) (r x : List Int) (k : Nat) : List Ev := (List.range k).flatMap fun j => evPair i ((pairsL r n).getD j []) (wonI (x.getD j 0))
def meets (n : Nat) (l : List Int) (ll : List (List Int)) (m : Nat) : List Ev := (List.range m).flatMap fun i => evRound n i (rnd l i) (ll.getD i []) (pairsL (rnd l i) n).length
theorem roundB_at {n : Int} {r : List Int} (h : roundB n r = true) {a : Nat} (ha : (a : Int) < n) : (2 ≤ n ∧ n ≤ 14) ∧ 0 ≤ r.getD a 0 ∧ r.getD a 0 < n ∧ r.getD (r.getD a 0).toNat 0 = a := by
  unfold roundB at h
  rw [Bool.and_eq_true] at h
  have h1 := of_decide_eq_true h.1
  have h2 := (List.all_eq_true.1 h.2) a (by simp; omega)
  unfold okAt at h2
  rw [if_neg (by omega), Bool.and_eq_true] at h2
  have h3 := of_decide_eq_true h2.1
  exact ⟨h1, h3.1, by omega, by simpa using h2.2⟩
theorem schedB_at {n : Int} {k : Nat} {l : List Int} (h : schedB n k l = true) : (2 ≤ n ∧ n ≤ 14) ∧ k ≤ 40 ∧ ∀ i, i < k → roundB n (rnd l i) = true := by
  unfold schedB at h
  rw [Bool.and_eq_true, Bool.and_eq_true] at h
  exact ⟨of_decide_eq_true h.1.1, of_decide_eq_true h.1.2, fun i hi => (List.all_eq_true.1 h.2) i (by simpa using hi)⟩
end Go.Abs
end

section
namespace Go.Abs
def zeroM (n : Nat) : List (List Int) := List.replicate n (List.replicate n 0)
def incR (row : List Int) (b : Int) : List Int := row.set b.toNat (IntKind.i64.wrap (row.getD b.toNat 0 + 1))
theorem incR_length (row : List Int) (b : Int) : (incR row b).length = row.length := by simp [incR]
def incM (M : List (List Int)) (a b : Int) : List (List Int) := M.set a.toNat (incR (M.getD a.toNat []) b)
def SqM (n : Nat) (M : List (List Int)) : Prop := M.length = n ∧ ∀ j, j < n → (M.getD j []).length = n
theorem zeroM_sq (n : Nat) : SqM n (zeroM n) := ⟨by simp [zeroM], fun j hj => by simp [zeroM, List.getD_eq_getElem?_getD, List.getElem?_replicate, hj]⟩
theorem SqM.inc {n : Nat} {M : List (List Int)} (h : SqM n M) {a b : Int} (ha : a.toNat < n) : SqM n (incM M a b) := by
  refine ⟨by simp [incM, h.1], fun j hj => ?_⟩
  unfold incM
  by_cases e : j = a.toNat
  · subst e
    rw [List.getD_eq_getElem?_getD, List.getElem?_set_self (by rw [h.1]; exact ha)]
    show (incR _ b).length = n
    rw [incR_length, h.2 _ ha]
  · rw [List.getD_eq_getElem?_getD, List.getElem?_set_ne (by omega), ← List.getD_eq_getElem?_getD, h.2 _ hj]
theorem foldl_range_succ {α : Type} (f : α → Nat → α) (s : α) (n : Nat) : (List.range (n + 1)).foldl f s = f ((List.range n).foldl f s) n := by
  rw [List.range_succ, List.foldl_append]; rfl
/-! How often teams meet. -/
def rowStep (l : List Int) (a : Nat) (row : List Int) (i : Nat) : List Int := if (rnd l i).getD a 0 = a then row else incR row ((rnd l i).getD a 0)
def rowM (n : Nat) (l : List Int) (a i : Nat) : List Int := (List.range i).foldl (rowStep l a) (List.replicate n 0)
theorem rowM_zero (n : Nat) (l : List Int) (a : Nat) : rowM n l a 0 = List.replicate n 0 := rfl
theorem rowM_succ (n : Nat) (l : List Int) (a i : Nat) : rowM n l a (i + 1) = rowStep l a (rowM n l a i) i := foldl_range_succ _ _ _
theorem rowM_length (n : Nat) (l : List Int) (a i : Nat) : (rowM n l a i).length = n := by
  induction i with
  | zero => simp [rowM]
  | succ i ih => rw [rowM_succ]; unfold rowStep; split <;> simp [incR_length, ih]
def midM (n : Nat) (l : List Int) (i c : Nat) : List (List Int) := (List.range n).map fun a => rowM n l a (if a < c then i + 1 else i)
def meetM (n : Nat) (l : List Int) (k : Nat) : List (List Int) := (List.range n).map fun a => rowM n l a k
theorem midM_zero (n : Nat) (l : List Int) (i : Nat) : midM n l i 0 = meetM n l i := by
  unfold midM meetM; apply List.map_congr_left; intro a _; rw [if_neg (by omega)]
theorem midM_all (n : Nat) (l : List Int) (i : Nat) : midM n l i n = meetM n l (i + 1) := by
  unfold midM meetM; apply List.map_congr_left; intro a ha; rw [if_pos (by simpa using ha)]
theorem meetM_zero (n : Nat) (l : List Int) : meetM n l 0 = zeroM n := by
  unfold meetM zeroM
  exact List.eq_replicate_iff.2 ⟨by simp, by intro b hb; obtain ⟨a, _, rfl⟩ := List.mem_map.1 hb; rfl⟩
theorem midM_sq (n : Nat) (l : List Int) (i c : Nat) : SqM n (midM n l i c) := ⟨by simp [midM], fun j hj => by simp [midM, List.getD_eq_getElem?_getD, hj, rowM_length]⟩
theorem meetM_sq (n : Nat) (l : List Int) (k : Nat) : SqM n (meetM n l k) := by rw [← midM_zero]; exact midM_sq _ _ _ _
theorem midM_getD (n : Nat) (l : List Int) (i c a : Nat) (h : a < n) : (midM n l i c).getD a [] = rowM n l a (if a < c then i + 1 else i) := by simp [midM, List.getD_eq_getElem?_getD, h]
theorem midM_same {n : Nat} {l : List Int} {i c : Nat} (hc : c < n) (h : (rnd l i).getD c 0 = c) : midM n l i (c + 1) = midM n l i c := by
  unfold midM
  apply List.map_congr_left
  intro a _
  by_cases e : a = c
  · subst e
    rw [if_pos (by omega), if_neg (by omega), rowM_succ]
    unfold rowStep
    rw [if_pos h]
  · by_cases e2 : a < c
    · rw [if_pos (by omega), if_pos e2]
    · rw [if_neg (by omega), if_neg e2]
theorem midM_inc {n : Nat} {l : List Int} {i c : Nat} (hc : c < n) (h : ¬ (rnd l i).getD c 0 = c) : midM n l i (c + 1) = incM (midM n l i c) c ((rnd l i).getD c 0) := by
  unfold incM
  rw [Int.toNat_natCast, midM_getD _ _ _ _ _ hc, if_neg (by omega)]
  apply List.ext_getElem?
  intro j
  rw [List.getElem?_set]
  by_cases e : c = j
  · subst e
    rw [if_pos rfl, if_pos (by rw [(midM_sq n l i c).1]; exact hc)]
    unfold midM
    rw [List.getElem?_map, List.getElem?_range hc]
    simp only [Option.map_some]
    rw [if_pos (by omega), rowM_succ]
    unfold rowStep
    rw [if_neg h]
  · rw [if_neg e]
    unfold midM
    rw [List.getElem?_map, List.getElem?_map]
    by_cases hj : j < n
    · rw [List.getElem?_range hj]
      simp only [Option.map_some]
      by_cases e2 : j < c
      · rw [if_pos (by omega), if_pos e2]
      · rw [if_neg (by omega), if_neg e2]
    · rw [List.getElem?_eq_none (by simpa using hj)]; rfl
/-! The carry over matrix. -/
def carT (n k : Nat) (l : List Int) (i t : Nat) (M : List (List Int)) : List (List Int) := (List.range t).foldl (fun M x => incM M ((rnd l i).getD x 0) ((rnd l ((i + 1) % k)).getD x 0)) M
def carM (n k : Nat) (l : List Int) (i : Nat) : List (List Int) := (List.range i).foldl (fun M i => carT n k l i n M) (zeroM n)
theorem carT_zero (n k : Nat) (l : List Int) (i : Nat) (M : List (List Int)) : carT n k l i 0 M = M := rfl
theorem carT_succ (n k : Nat) (l : List Int) (i t : Nat) (M : List (List Int)) : carT n k l i (t + 1) M = incM (carT n k l i t M) ((rnd l i).getD t 0) ((rnd l ((i + 1) % k)).getD t 0) := foldl_range_succ _ _ _
theorem carM_zero (n k : Nat) (l : List Int) : carM n k l 0 = zeroM n := rfl
theorem carM_succ (n k : Nat) (l : List Int) (i : Nat) : carM n k l (i + 1) = carT n k l i n (carM n k l i) := foldl_range_succ _ _ _
theorem carT_sq {n k : Nat} {l : List Int} {i : Nat} {M : List (List Int)} (h : SqM n M) (hr : ∀ x, x < n → ((rnd l i).getD x 0).toNat < n) : ∀ t, t ≤ n → SqM n (carT n k l i t M)
  | 0, _ => h
  | t + 1, ht => by rw [carT_succ]; exact (carT_sq h hr t (by omega)).inc (hr t (by omega))
theorem carM_sq {n k : Nat} {l : List Int} (hr : ∀ i, i < k → ∀ x, x < n → ((rnd l i).getD x 0).toNat < n) : ∀ i, i ≤ k → SqM n (carM n k l i)
  | 0, _ => zeroM_sq n
  | i + 1, hi => by rw [carM_succ]; exact carT_sq (carM_sq hr i (by omega)) (hr i (by omega)) n (Nat.le_refl _)
/-! Cost and balance. -/
def sqStep (s x : Int) : Int := IntKind.i64.wrap (s + IntKind.i64.wrap (x * x))
def costR (row : List Int) (s : Int) (j : Nat) : Int := (List.range j).foldl (fun s j => sqStep s (row.getD j 0)) s
def costM (M : List (List Int)) (i : Nat) : Int := (List.range i).foldl (fun s i => costR (M.getD i []) s (M.getD i []).length) 0
theorem costR_zero (row : List Int) (s : Int) : costR row s 0 = s := rfl
theorem costR_succ (row : List Int) (s : Int) (j : Nat) : costR row s (j + 1) = sqStep (costR row s j) (row.getD j 0) := foldl_range_succ _ _ _
theorem costM_zero (M : List (List Int)) : costM M 0 = 0 := rfl
theorem costM_succ (M : List (List Int)) (i : Nat) : costM M (i + 1) = costR (M.getD i []) (costM M i) (M.getD i []).length := foldl_range_succ _ _ _
def balAt (M : List (List Int)) (i j : Nat) : Bool := decide (i = j) || (M.getD i []).getD j 0 == 1
def balB (M : List (List Int)) : Bool := (List.range M.length).all fun i => (List.range (M.getD i []).length).all fun j => balAt M i j
theorem balB_bad {M : List (List Int)} {i j : Nat} (hi : i < M.length) (hj : j < (M.getD i []).length) (h : balAt M i j = false) : balB M = false := by
  unfold balB
  exact all_false_of hi (all_false_of hj h)
theorem balB_good {M : List (List Int)} (h : ∀ i, i < M.length → ∀ j, j < (M.getD i []).length → balAt M i j = true) : balB M = true := by
  unfold balB
  exact all_true_of fun i hi => all_true_of fun j hj => h i hi j hj
def robinB (n k : Nat) (l : List Int) : Bool := decide (k = n - 1 + n % 2) && balB (meetM n l k)
def codeC (q : Int) (k : Nat) (l : List Int) : Int := if schedB q k l = true then (if (decide (q.toNat % 2 = 1) || !robinB q.toNat k l) = true then 5 else 0) else 1
theorem rnd_toNat {n k : Nat} {l : List Int} (hb : schedB n k l = true) : ∀ i, i < k → ∀ x, x < n → ((rnd l i).getD x 0).toNat < n := by
  intro i hi x hx
  have h := (roundB_at ((schedB_at hb).2.2 i hi) (a := x) (by omega)).2
  omega
end Go.Abs
end

section
namespace Go.Abs
open Go Go.RowKit
theorem given_cell {w : World} {b j : Nat} {u : Value} (h : w.cell? ⟨b, j, none⟩ = some u) : b < w.heap.size ∧ (given w).row b = some ⟨0, false, absRow w b⟩ ∧ (absRow w b)[j]? = some (absV w.heap.size u) := by
  have h1 := h
  unfold World.cell? at h1
  split at h1
  · rename_i cs t fr he
    have hb : b < w.heap.size := (Array.getElem?_eq_some_iff.1 he).1
    have hk : bsz w b = some cs.size := by simp [bsz, he]
    have h2 : cs[j]? = some u := by simpa using h1
    have h3 : j < cs.size := (Array.getElem?_eq_some_iff.1 h2).1
    refine ⟨hb, by simp [given, hb], ?_⟩
    simp only [absRow, hk, List.getElem?_map]
    rw [List.getElem?_range h3]
    simp only [Option.map_some, h]
  · cases h1
section
variable {H : Type} {enc : TypeId × Value → H} {P : Program} {w : World} {base : Nat} {spare : Nat → Bool} {held : Bool}
end
end Go.Abs
end

section
namespace Go.Abs
open Go Go.RowKit
inductive OT
  | nil
  | one (i : Nat) (r : OT)
  | two (i j : Nat) (ri rj : OT)
  | three (i j k : Nat) (ri rj rk : OT)
def OT.depth : OT → Nat
  | .nil => 0
  | .one _ r => r.depth + 1
  | .two _ _ a b => max a.depth b.depth + 1
  | .three _ _ _ a b c => max a.depth (max b.depth c.depth) + 1
def OT.run : List Nat → OT → OT
  | [], r => r
  | i :: is, r => .one i (OT.run is r)
def okOT (ops : Array Oper) : OT → Array Bool → Bool
  | .nil, listed => (Region.ready .any ops listed).isEmpty
  | .one i r, listed =>
    (match ops[i]? with
     | some o => if quietOp o.op = true then (Region.ready .any ops listed).contains i && Region.free .any ops listed i else Region.ready .any ops listed == [i]
     | none => false) && okOT ops r (listed.setIfInBounds i true)
  | .two i j a b, listed => Region.ready .any ops listed == [i, j] && okOT ops a (listed.setIfInBounds i true) && okOT ops b (listed.setIfInBounds j true)
  | .three i j k a b c, listed => Region.ready .any ops listed == [i, j, k] && okOT ops a (listed.setIfInBounds i true) && okOT ops b (listed.setIfInBounds j true) && okOT ops c (listed.setIfInBounds k true)
def awpT (P : Program) (ops : Array Oper) (Q : T → AH → Prop) : (o : OT) → T → AH → (fun _ => Prop) (ops, Q, o)
  | .nil, t, H => Q t H
  | .one i r, t, H => stepI P ops (awpT P ops Q r) i (ops.toList[i]?) t H
  | .two i j a b, t, H => stepI P ops (awpT P ops Q a) i (ops.toList[i]?) t H ∧ stepI P ops (awpT P ops Q b) j (ops.toList[j]?) t H
  | .three i j k a b c, t, H => stepI P ops (awpT P ops Q a) i (ops.toList[i]?) t H ∧ stepI P ops (awpT P ops Q b) j (ops.toList[j]?) t H ∧ stepI P ops (awpT P ops Q c) k (ops.toList[k]?) t H
theorem stepI_a {P : Program} {ops : Array Oper} {K : T → AH → Prop} {i : Nat} {t : T} {H : AH} (h : stepI P ops K i (ops.toList[i]?) t H) :
    aStep P ops.toList i t H fun t' H' => ((∃ o, ops.toList[i]? = some o ∧ quietOp o.op = true) ∨ sinkB ops i = true ∨ LE H H') ∧ K t' H' := by
  unfold aStep
  cases e : ops.toList[i]? with
  | none => rw [e] at h; exact h.elim
  | some o =>
    rw [e] at h
    unfold stepI at h
    simp only
    cases hg : o.guard with
    | none => simp only [hg] at h ⊢; exact runOut_mono (fun v H' k => ⟨k.1.imp (fun q => ⟨o, rfl, q⟩) id, k.2⟩) _ h
    | some g => simp only [hg] at h ⊢; exact condW_mono h (runOut_mono (fun v H' k => ⟨k.1.imp (fun q => ⟨o, rfl, q⟩) id, k.2⟩) _) (fun k => ⟨.inr (.inr (LE.refl H)), k⟩)
theorem stepI_s {P : Program} {ops : Array Oper} {K : T → AH → Prop} {i : Nat} {t : T} {H : AH} (h : stepI P ops K i (ops.toList[i]?) t H) :
    aStep P ops.toList i t H fun t' H' => (sinkB ops i = true ∨ LE H H') ∧ K t' H' := by
  cases e : ops.toList[i]? with
  | none => rw [e] at h; exact h.elim
  | some o =>
    by_cases hq : quietOp o.op = true
    · have ho : ops[i]? = some o := by simpa using e
      obtain ⟨v, hy, hk⟩ := aStep_quiet ho hq (stepI_a h)
      exact hy.step ho hq ⟨.inr (LE.refl _), hk.2⟩
    · refine aStep_mono (stepI_a h) fun t' H' hk => ⟨?_, hk.2⟩
      rcases hk.1 with ⟨o', e', q'⟩ | k
      · rw [e] at e'; cases e'; exact absurd q' hq
      · exact k
theorem AAny_tree {P : Program} {ops : Array Oper} {Q : T → AH → Prop} : ∀ (ot : OT) (listed : Array Bool) (t : T) (H : AH) (f : Nat), ot.depth ≤ f → Closed ops listed → okOT ops ot listed = true → awpT P ops Q ot t H → AAny P ops Q f listed t H
  | .nil, listed, t, H, f, _, _, hok, h => by
    have hr : Region.ready .any ops listed = [] := by simpa [okOT] using hok
    cases f with
    | zero => exact ⟨hr, h⟩
    | succ f => exact ⟨fun _ => h, by rw [hr]; simp⟩
  | .one i r, listed, t, H, 0, hl, _, _, _ => by simp [OT.depth] at hl
  | .two i j a b, listed, t, H, 0, hl, _, _, _ => by simp [OT.depth] at hl
  | .three i j k a b c, listed, t, H, 0, hl, _, _, _ => by simp [OT.depth] at hl
  | .one i r, listed, t, H, f + 1, hl, hc, hok, h => by
    simp only [okOT, Bool.and_eq_true] at hok
    simp only [OT.depth] at hl
    obtain ⟨h1, h2⟩ := hok
    unfold awpT at h
    cases ho : ops[i]? with
    | none => simp [ho] at h1
    | some o =>
      simp only [ho] at h1
      split at h1
      · rename_i hq
        simp only [Bool.and_eq_true] at h1
        obtain ⟨hr, hfr⟩ := h1
        have hr' : i ∈ Region.ready .any ops listed := by simpa using hr
        obtain ⟨v, hy, hk⟩ := aStep_quiet ho hq (stepI_s h)
        exact AAny_first ho hq f listed t H hc (Region.free_spec ho hfr) hr' hy (AAny_tree r _ _ H f (by omega) (hc.set hr') h2 hk.2)
      · have hr : Region.ready .any ops listed = [i] := by simpa using h1
        refine ⟨fun h0 => (by rw [hr] at h0; cases h0), fun j hj => ?_⟩
        have hji : j = i := by rw [hr] at hj; simpa using hj
        subst hji
        exact aStep_mono (stepI_s h) fun t' H' hk => ⟨hk.1, AAny_tree r _ t' H' f (by omega) (hc.set hj) h2 hk.2⟩
  | .two i j a b, listed, t, H, f + 1, hl, hc, hok, h => by
    simp only [okOT, Bool.and_eq_true] at hok
    simp only [OT.depth] at hl
    obtain ⟨⟨h1, h2⟩, h3⟩ := hok
    unfold awpT at h
    have hr : Region.ready .any ops listed = [i, j] := by simpa using h1
    refine ⟨fun h0 => (by rw [hr] at h0; cases h0), fun x hx => ?_⟩
    have hx2 : x = i ∨ x = j := by rw [hr] at hx; simpa using hx
    rcases hx2 with rfl | rfl
    · exact aStep_mono (stepI_s h.1) fun t' H' hk => ⟨hk.1, AAny_tree a _ t' H' f (by omega) (hc.set hx) h2 hk.2⟩
    · exact aStep_mono (stepI_s h.2) fun t' H' hk => ⟨hk.1, AAny_tree b _ t' H' f (by omega) (hc.set hx) h3 hk.2⟩
  | .three i j k a b c, listed, t, H, f + 1, hl, hc, hok, h => by
    simp only [okOT, Bool.and_eq_true] at hok
    simp only [OT.depth] at hl
    obtain ⟨⟨⟨h1, h2⟩, h3⟩, h4⟩ := hok
    unfold awpT at h
    have hr : Region.ready .any ops listed = [i, j, k] := by simpa using h1
    refine ⟨fun h0 => (by rw [hr] at h0; cases h0), fun x hx => ?_⟩
    have hx2 : x = i ∨ x = j ∨ x = k := by rw [hr] at hx; simpa using hx
    rcases hx2 with rfl | rfl | rfl
    · exact aStep_mono (stepI_s h.1) fun t' H' hk => ⟨hk.1, AAny_tree a _ t' H' f (by omega) (hc.set hx) h2 hk.2⟩
    · exact aStep_mono (stepI_s h.2.1) fun t' H' hk => ⟨hk.1, AAny_tree b _ t' H' f (by omega) (hc.set hx) h3 hk.2⟩
    · exact aStep_mono (stepI_s h.2.2) fun t' H' hk => ⟨hk.1, AAny_tree c _ t' H' f (by omega) (hc.set hx) h4 hk.2⟩
theorem draw_tree {P : Program} {id : Nat} {ops : Array Oper} {Q : Exit → T → AH → Prop} {t : T} {H : AH} (ot : OT) (hm : P.follows .mixedOrders = true) (hok : okOT ops ot (Array.replicate ops.size false) = true) (hl : ot.depth ≤ ops.size)
    (h : awpT P ops (Q .normal) ot t H) : awp P (.region id ops true) Q t H := by
  intro base ρ w tmps QC hS hd hQ
  have hA := AAny_tree ot _ t H ops.size hl ⟨by simp, fun j oj hj hl => by rw [getD_replicate_false'] at hl; cases hl⟩ hok h
  refine wp_region_any hm (AAny_ok ops.size _ t H ρ w.drew tmps hA ⟨hS.1.drew, hS.2.ext (ext_drew (base := base) (H := H) w)⟩ ?_ fun t' H' ρ' w' tmps' hq hs he hz => ?_)
  · intro o ho i hi
    have := List.all_eq_true.1 hd o ho
    simp only [hi, decide_eq_true_eq] at this
    exact this
  · exact hQ .normal t' H' ρ' w' tmps' hq hs ((ext_drew (base := base) (H := H) (ρ := ρ) w).trans he) hz
theorem awpT_nil (P : Program) (ops : Array Oper) (Q : T → AH → Prop) (t : T) (H : AH) : awpT P ops Q .nil t H = Q t H := (rfl)
theorem awpT_one (P : Program) (ops : Array Oper) (Q : T → AH → Prop) (i : Nat) (r : OT) (t : T) (H : AH) : awpT P ops Q (.one i r) t H = stepI P ops (awpT P ops Q r) i (ops.toList[i]?) t H := (rfl)
theorem awpT_run_nil (P : Program) (ops : Array Oper) (Q : T → AH → Prop) (r : OT) (t : T) (H : AH) : awpT P ops Q (OT.run [] r) t H = awpT P ops Q r t H := (rfl)
theorem awpT_run_cons (P : Program) (ops : Array Oper) (Q : T → AH → Prop) (i : Nat) (is : List Nat) (r : OT) (t : T) (H : AH) : awpT P ops Q (OT.run (i :: is) r) t H = stepI P ops (awpT P ops Q (OT.run is r)) i (ops.toList[i]?) t H := (rfl)
theorem awpT_two {P : Program} {ops : Array Oper} {Q : T → AH → Prop} {i j : Nat} {a b : OT} {t : T} {H : AH} (h1 : stepI P ops (awpT P ops Q a) i (ops.toList[i]?) t H) (h2 : stepI P ops (awpT P ops Q b) j (ops.toList[j]?) t H) : awpT P ops Q (.two i j a b) t H := ⟨h1, h2⟩
@[congr] theorem awpT_congr {P : Program} {ops : Array Oper} {o : OT} {Q : T → AH → Prop} {t t' : T} {H H' : AH} (h : t = t') (k : H = H') : awpT P ops Q o t H = awpT P ops Q o t' H' := by rw [h, k]
theorem asCells_one {v : Value} (h : v.oneCell' = true) (f : List Value → Out) : asCells v f = f [v] := by
  cases v <;> first | rfl | (simp [Value.oneCell'] at h)
theorem awp_cutQ {P : Program} {a : Code} {Q : Exit → T → AH → Prop} {N : T → AH → Prop} {t : T} {H : AH} (M : T → AH → Prop) (h : awp P a (seqQ M Q) t H) (k : ∀ t H, M t H → N t H) : awp P a (seqQ N Q) t H :=
  awp_mono a _ _ t H (seqQ_mono k fun _ _ _ h => h) h
def Sc (H : AH) : Prop := ∀ i r, H.row i = some r → i < H.next
theorem Sc.push {H : AH} (h : Sc H) (r : Row) : Sc (H.push r) := by
  intro i x hx
  rw [AH.push_row] at hx
  rw [AH.push_next]
  split at hx
  · omega
  · have := h i x hx; omega
theorem Sc.le {H : AH} (h : Sc H) (r : Row) : LE H (H.push r) := ⟨Nat.le_succ _, fun i x hx => by rw [AH.push_row, if_neg (by have := h i x hx; omega)]; exact hx⟩
theorem ACalls.sc {P : Program} {f : FuncId} {args : List Value} {H : AH} {R : Value → AH → Prop} (h : ACalls P f args H R) : ACalls P f args H (fun v H' => R v H' ∧ Sc H') := by
  refine ⟨h.1, fun base ρ w args' hR hL => (h.2 base ρ w args' hR hL).mono ?_⟩
  rintro e w' ⟨v', v, H', ρ', rfl, hv, R', r⟩
  exact ⟨v', v, H', ρ', rfl, ⟨hv, R'.scope⟩, R', r⟩
end Go.Abs
end

section
namespace Go.Abs
open Go Go.RowKit
theorem Fr2.setF {ty ty' lo hi : Nat} {H : AH} {v : Value} {ll : List (List Int)} (h : Fr2 1 ty ty' lo hi H v ll) {j : Nat} (hj : j < ll.length) (hne : 0 < (ll.getD j []).length) :
    ∃ i vs i6, v = .slice (some ⟨i, 0, some 1⟩) ll.length ll.length ∧ lo ≤ i ∧ i < hi ∧ H.row i = some ⟨ty, true, vs⟩ ∧ vs[j]? = some (.slice (some ⟨i6, 0, some 1⟩) (ll.getD j []).length (ll.getD j []).length) ∧ lo ≤ i6 ∧ i6 < hi ∧ ¬ i = i6 ∧ H.row i6 = some ⟨ty', true, ints (ll.getD j [])⟩ ∧
      ∀ l' : List Int, l'.length = (ll.getD j []).length → Fr2 1 ty ty' lo hi (H.setCells i6 (ints l')) v (ll.set j l') := by
  rcases h with ⟨rfl, _⟩ | ⟨i, vs, b, h1, h2, rfl, hr, hl, g0, gn, gi, gm, hh⟩
  · simp at hj
  · obtain ⟨x, m, hx, hf⟩ := hh j hj
    have hm := hf.lenK1
    have m1 := mono_of_step gm (Nat.zero_le j)
    have m2 := mono_of_step gm (show j + 1 ≤ ll.length from hj)
    obtain ⟨i6, k1, k2, rfl, k3⟩ := hf.get (by omega)
    rw [hm] at hx
    refine ⟨i, vs, i6, rfl, h1, h2, hr, hx, by omega, by omega, by omega, k3, fun l' hl' => ?_⟩
    refine .inr ⟨i, vs, b, h1, h2, by rw [List.length_set], by rw [AH.setCells_row, if_neg (by omega)]; exact hr, by rw [List.length_set]; exact hl, g0, by rw [List.length_set]; exact gn, by rw [List.length_set]; exact gi, gm, fun j' hj' => ?_⟩
    rw [List.length_set] at hj'
    by_cases e : j' = j
    · subst e
      refine ⟨_, (ll.getD j' []).length, hx, ?_⟩
      have e1 : (ll.set j' l').getD j' [] = l' := by rw [List.getD_eq_getElem?_getD, List.getElem?_set_self hj]; rfl
      rw [e1]
      exact ⟨by omega, .inr ⟨i6, k1, k2, rfl, by rw [AH.setCells_row, if_pos rfl, k3]; rfl⟩⟩
    · obtain ⟨x', m', hx', hf'⟩ := hh j' hj'
      have e1 : (ll.set j l').getD j' [] = ll.getD j' [] := by rw [List.getD_eq_getElem?_getD, List.getElem?_set_ne (by omega), ← List.getD_eq_getElem?_getD]
      refine ⟨x', m', hx', ?_⟩
      rw [e1]
      refine hf'.same fun z z1 z2 => ?_
      rw [AH.setCells_row, if_neg]
      rcases Nat.lt_or_gt_of_ne e with hlt | hgt
      · have := mono_of_step gm (show j' + 1 ≤ j from hlt); omega
      · have := mono_of_step gm (show j + 1 ≤ j' from hgt); omega
theorem Sc.set {H : AH} (h : Sc H) (i : Nat) (cs : List Value) : Sc (H.setCells i cs) := by
  intro j x hx
  rw [AH.setCells_row] at hx
  rw [AH.setCells_next]
  split at hx
  · rename_i e
    subst e
    cases hr : H.row j with
    | none => rw [hr] at hx; cases hx
    | some r => exact h j r hr
  · exact h j x hx
end Go.Abs
end

section
set_option maxRecDepth 100000
set_option maxHeartbeats 2000000
namespace Go.Proofs.YtpienljnoaendaaGreat.A
open Go Go.Abs Go.RowKit
theorem zeros_int0 (n : Nat) : zeros n [.int .i64 0] = ints (List.replicate n 0) := by
  have h := zeros_ints n 1
  rw [Nat.mul_one] at h; exact h
theorem replicate_snoc {α : Type} (n : Nat) (a : α) : List.replicate (n + 1) a = List.replicate n a ++ [a] := by
  rw [List.replicate_succ']
theorem square_c (n : Nat) (hn : n ≤ 1024) (H : AH) : ACalls Tryz.prog 130 [.int .i64 n] H (fun v H' => Up H.next H H' ∧ Fr2 1 33 2 H.next H'.next H' v (zeroM n)) := by
  refine acalls_of_awp [.tmp 2] Tryz.func130 (by kernel_rfl) rfl rfl (Nat.le_of_ble_eq_true rfl) (by kernel_rfl) ?_
  try simp (disch := first | omega | (simp only [L3] <;> omega)) only [Sall,evalOp,init,binA_s,binE,binI,unE,convE,okNil,builtE,gv,TD.isAgg,resV,↓reduceIte,Nat.reduceEqDiff,reduceCtorEq,Nat.reduceAdd,Nat.reduceMul,Nat.reduceLeDiff,quietOp,blindOp,Int.reduceEq,Int.reduceLT,Int.reduceLE,Nat.reduceLT,tiA, zeros_zero]
  refine awp_loop (fun m t H' => ∃ (a : Nat) (u : Value) (lo hi : Nat), m = n - a ∧ a ≤ n ∧ t 6 = .int .i64 a ∧ t 5 = .int .i64 n ∧ t 0 = .int .i64 n ∧ t 3 = u ∧ Up H.next H H' ∧ H.next ≤ lo ∧ lo ≤ hi ∧ hi ≤ H'.next ∧ Fr2 1 33 2 lo hi H' u (List.replicate a (List.replicate n 0))) n ?_ ?_
  · refine ⟨0, .slice (some ⟨H.next, 0, some 1⟩) 0 0, H.next, H.next + 1, by omega, by omega, ?_⟩
    try simp (disch := first | omega | (simp only [L3] <;> omega)) only [Sall,evalOp,init,binA_s,binE,binI,unE,convE,okNil,builtE,gv,TD.isAgg,resV,↓reduceIte,Nat.reduceEqDiff,reduceCtorEq,Nat.reduceAdd,Nat.reduceMul,Nat.reduceLeDiff,quietOp,blindOp,Int.reduceEq,Int.reduceLT,Int.reduceLE,Nat.reduceLT,tiA, Int.natCast_zero]
    refine ⟨(Up.refl _ H).push (by omega) _, ?_⟩
    (repeat refine And.intro (by omega) ?_)
    exact .inr ⟨H.next, [], fun _ => H.next + 1, by omega, by omega, rfl, by rw [AH.push_row, if_pos rfl], rfl, by dsimp only; omega, by dsimp only; omega, .inl (by dsimp only; omega), fun _ => Nat.le_refl _, fun j hj => by simp at hj⟩
  · rintro m t H' ⟨a, u, lo, hi, hm, h14, h6, h5, h0, h3, hup, hlo, hlh, hhi, hfr⟩
    try simp (disch := first | omega | (simp only [L3] <;> omega)) only [Sall,evalOp,init,binA_s,binE,binI,unE,convE,okNil,builtE,gv,TD.isAgg,resV,↓reduceIte,Nat.reduceEqDiff,reduceCtorEq,Nat.reduceAdd,Nat.reduceMul,Nat.reduceLeDiff,quietOp,blindOp,Int.reduceEq,Int.reduceLT,Int.reduceLE,Nat.reduceLT,tiA, h6, h5]
    refine condC_dec (fun h => ?_) (fun h => ?_)
    · have zz : zeros 1 [.slice none 0 0] = [.slice none 0 0] := rfl
      have ne1 : ¬ H'.next = H'.next + 1 := by omega
      try simp (disch := first | omega | (simp only [L3] <;> omega)) only [Sall,evalOp,init,binA_s,binE,binI,unE,convE,okNil,builtE,gv,TD.isAgg,resV,↓reduceIte,Nat.reduceEqDiff,reduceCtorEq,Nat.reduceAdd,Nat.reduceMul,Nat.reduceLeDiff,quietOp,blindOp,Int.reduceEq,Int.reduceLT,Int.reduceLE,Nat.reduceLT,tiA, h6, h5, h3, h0, zeros_int0, zz, slCells]
      (repeat refine And.intro (by omega) ?_)
      obtain ⟨H2, e2⟩ : ∃ H2, H2 = (H'.push ⟨2, true, ints (List.replicate n 0)⟩).push ⟨33, true, [.slice (some ⟨H'.next, 0, some 1⟩) n n]⟩ := ⟨_, rfl⟩
      have n2 : H2.next = H'.next + 2 := by rw [e2]; rfl
      have s2 : ∀ i, i < H'.next → H2.row i = H'.row i := fun i hi => by rw [e2, AH.push_row, if_neg (by rw [AH.push_next]; omega), AH.push_row, if_neg (by omega)]
      have x2 : H2.row H'.next = some ⟨2, true, ints (List.replicate n 0)⟩ := by rw [e2, AH.push_row, if_neg (by rw [AH.push_next]; omega), AH.push_row, if_pos rfl]
      rw [← e2]
      clear e2
      refine appE_fr2 (hfr.same fun i _ hi => s2 i (by omega)) (m := n) (l := List.replicate n 0) ⟨by simp, .inr ⟨H'.next, by omega, by omega, rfl, x2⟩⟩ rfl (by decide) (by rw [List.length_replicate]; omega) hlh (by omega) ?_
      intro v' H3 n3 s3 f3
      try simp (disch := first | omega | (simp only [L3] <;> omega)) only [Sall,evalOp,init,binA_s,binE,binI,unE,convE,okNil,builtE,gv,TD.isAgg,resV,↓reduceIte,Nat.reduceEqDiff,reduceCtorEq,Nat.reduceAdd,Nat.reduceMul,Nat.reduceLeDiff,quietOp,blindOp,Int.reduceEq,Int.reduceLT,Int.reduceLE,Nat.reduceLT,tiA, h6, h5, h0, w64]
      refine ⟨n - (a + 1), by omega, a + 1, v', lo, H2.next + 1, rfl, by omega, rfl, rfl, ⟨by have := hup.next; omega, fun i hi => ?_⟩, by omega, by omega, by omega, ?_⟩
      · rw [s3 i (by have := hup.next; omega) (by have := hup.next; omega), s2 i (by have := hup.next; omega), hup.row i hi]
      · rw [replicate_snoc]; exact f3
    · have ha : a = n := by omega
      subst ha
      try simp (disch := first | omega | (simp only [L3] <;> omega)) only [Sall,evalOp,init,binA_s,binE,binI,unE,convE,okNil,builtE,gv,TD.isAgg,resV,↓reduceIte,Nat.reduceEqDiff,reduceCtorEq,Nat.reduceAdd,Nat.reduceMul,Nat.reduceLeDiff,quietOp,blindOp,Int.reduceEq,Int.reduceLT,Int.reduceLE,Nat.reduceLT,tiA, h3]
      exact ⟨hup, hfr.wide hlo hhi⟩
theorem meetings_c (n : Nat) (v : Value) (k : Nat) (l : List Int) (H : AH) (hb : schedB n k l = true) (hv : Rd 14 H v k l) (hk : k ≤ 4294967296) :
    ACalls Tryz.prog 167 [.agg #[.int .i64 n, v]] H (fun u H' => Up H.next H H' ∧ Fr2 1 33 2 H.next H'.next H' u (meetM n l k)) := by
  refine ACalls.wf (by kernel_rfl) fun hs => acalls_of_awp [.tmp 2] Tryz.func167 (by kernel_rfl) rfl rfl (Nat.le_of_ble_eq_true rfl) (by kernel_rfl) ?_
  obtain ⟨hn, hk40, hrounds⟩ := schedB_at hb
  have hone := hv.one
  have up : Up H.next H (H.push ⟨26, true, [.int .i64 n, v]⟩) := (Up.refl _ H).push (Nat.le_refl _) _
  have e1 : (H.push ⟨26, true, [.int .i64 n, v]⟩).row H.next = some ⟨26, true, [.int .i64 n, v]⟩ := by rw [AH.push_row, if_pos rfl]
  have n1 : (H.push ⟨26, true, [.int .i64 n, v]⟩).next = H.next + 1 := rfl
  try simp (disch := first | omega | (simp only [L3] <;> omega)) only [Sall,evalOp,init,binA_s,binE,binI,unE,convE,okNil,builtE,gv,TD.isAgg,resV,↓reduceIte,Nat.reduceEqDiff,reduceCtorEq,Nat.reduceAdd,Nat.reduceMul,Nat.reduceLeDiff,quietOp,blindOp,Int.reduceEq,Int.reduceLT,Int.reduceLE,Nat.reduceLT,tiA, hone]
  revert up e1 n1
  generalize H.push ⟨26, true, [.int .i64 n, v]⟩ = H1
  intro up e1 n1
  refine (square_c n (by omega) H1).mono ?_
  rintro u H2 ⟨up2, hf⟩
  have n2 := up2.next
  have u2 : Up H.next H H2 := up.trans up2 (by omega)
  have r2 : H2.row H.next = some ⟨26, true, [.int .i64 n, v]⟩ := by rw [up2.row _ (by omega), e1]
  refine Holds.mp ?_
  try simp (disch := first | omega | (simp only [L3] <;> omega)) only [Sall,evalOp,init,binA_s,binE,binI,unE,convE,okNil,builtE,gv,TD.isAgg,resV,↓reduceIte,Nat.reduceEqDiff,reduceCtorEq,Nat.reduceAdd,Nat.reduceMul,Nat.reduceLeDiff,quietOp,blindOp,Int.reduceEq,Int.reduceLT,Int.reduceLE,Nat.reduceLT,tiA, r2, builtE, hv.len]
  refine awp_loop (fun m t H' => ∃ (a : Nat), m = k - a ∧ a ≤ k ∧ t 13 = .int .i64 a ∧ t 12 = .int .i64 k ∧ t 11 = v ∧ t 3 = u ∧ t 1 = .pointer (some ⟨H.next, 0, none⟩) ∧ Up H.next H H' ∧ H2.next ≤ H'.next ∧ H'.row H.next = some ⟨26, true, [.int .i64 n, v]⟩ ∧ Fr2 1 33 2 H1.next H2.next H' u (meetM n l a)) k ?_ ?_
  · refine ⟨0, by omega, by omega, ?_⟩
    try simp (disch := first | omega | (simp only [L3] <;> omega)) only [Sall,evalOp,init,binA_s,binE,binI,unE,convE,okNil,builtE,gv,TD.isAgg,resV,↓reduceIte,Nat.reduceEqDiff,reduceCtorEq,Nat.reduceAdd,Nat.reduceMul,Nat.reduceLeDiff,quietOp,blindOp,Int.reduceEq,Int.reduceLT,Int.reduceLE,Nat.reduceLT,tiA, Int.natCast_zero, meetM_zero]
    exact ⟨u2, r2, hf⟩
  · rintro m t H' ⟨a, hm, h14, h13, h12, h11, h3, h1, hup, hnx, hr1, hf'⟩
    try simp (disch := first | omega | (simp only [L3] <;> omega)) only [Sall,evalOp,init,binA_s,binE,binI,unE,convE,okNil,builtE,gv,TD.isAgg,resV,↓reduceIte,Nat.reduceEqDiff,reduceCtorEq,Nat.reduceAdd,Nat.reduceMul,Nat.reduceLeDiff,quietOp,blindOp,Int.reduceEq,Int.reduceLT,Int.reduceLE,Nat.reduceLT,tiA, h13, h12]
    refine condC_dec (fun h => ?_) (fun h => ?_)
    · obtain ⟨i', o', u', c', r', rfl, hrB', hc', hs', hg'⟩ := hv.get (by omega)
      have hr' : H'.row i' = some r' := by rw [hup.row _ (hs _ _ hrB'), hrB']
      have hrl : (rnd l a).length = 14 := rnd_length l a k hv.1 (by omega)
      have hiB := hs _ _ hrB'
      have hup1 := hup.next
      have ne1 : ¬ i' = H'.next := by omega
      have ne2 : ¬ H.next = H'.next := by omega
      have hrl2 : ((l.drop (a * 14)).take 14).length = 14 := hrl
      have hsp := splice_ints14 (List.replicate 14 0) (rnd l a) (by simp) hrl
      try simp (disch := first | omega | (simp only [L3] <;> omega)) only [Sall,evalOp,init,binA_s,binE,binI,unE,convE,okNil,builtE,gv,TD.isAgg,resV,↓reduceIte,Nat.reduceEqDiff,reduceCtorEq,Nat.reduceAdd,Nat.reduceMul,Nat.reduceLeDiff,quietOp,blindOp,Int.reduceEq,Int.reduceLT,Int.reduceLE,Nat.reduceLT,tiA, h13, h11, hr', hg', push_setCells, hrl2, ints_length, ne1, ne2, hr1, h1]
      (repeat refine And.intro (by omega) ?_)
      obtain ⟨H3, e3⟩ : ∃ H3, H3 = H'.push ⟨69, true, ints ((l.drop (a * 14)).take 14)⟩ := ⟨_, rfl⟩
      have s3 : ∀ i, i < H'.next → H3.row i = H'.row i := fun i hi => by rw [e3, AH.push_row, if_neg (by omega)]
      have r3 : H3.row H'.next = some ⟨69, true, ints (rnd l a)⟩ := by rw [e3, AH.push_row, if_pos rfl]; rfl
      have n3 : H3.next = H'.next + 1 := by rw [e3]; rfl
      rw [← e3]
      clear e3
      have hround := hrounds a (by omega)
      refine awp_loop (fun z t H4 => ∃ c : Nat, z = n - c ∧ c ≤ n ∧ t 19 = .int .i64 c ∧ t 18 = .int .i64 n ∧ t 5 = .pointer (some ⟨H'.next, 0, none⟩) ∧ t 13 = .int .i64 a ∧ t 12 = .int .i64 k ∧ t 11 = .slice (some ⟨i', o', u'⟩) k c' ∧ t 3 = u ∧ t 1 = .pointer (some ⟨H.next, 0, none⟩) ∧ Up H.next H H4 ∧ H3.next ≤ H4.next ∧ H4.row H.next = some ⟨26, true, [.int .i64 n, .slice (some ⟨i', o', u'⟩) k c']⟩ ∧ H4.row H'.next = some ⟨69, true, ints (rnd l a)⟩ ∧ Fr2 1 33 2 H1.next H2.next H4 u (midM n l a c)) n ?_ ?_
      · refine ⟨0, by omega, by omega, ?_⟩
        try simp (disch := first | omega | (simp only [L3] <;> omega)) only [Sall,evalOp,init,binA_s,binE,binI,unE,convE,okNil,builtE,gv,TD.isAgg,resV,↓reduceIte,Nat.reduceEqDiff,reduceCtorEq,Nat.reduceAdd,Nat.reduceMul,Nat.reduceLeDiff,quietOp,blindOp,Int.reduceEq,Int.reduceLT,Int.reduceLE,Nat.reduceLT,tiA, Int.natCast_zero, h13, h12, h11, h3, h1]
        refine ⟨⟨by omega, fun i hi => by rw [s3 i (by omega), hup.row i hi]⟩, by rw [s3 _ (by omega), hr1], r3, ?_⟩
        rw [midM_zero]
        exact hf'.same fun i _ hi => s3 i (by omega)
      · rintro z t H4 ⟨c, hz, hcn, h19, h18, h5, h13, h12, h11, h3, h1, hup4, hn4, hr4, hr5, hf4⟩
        try simp (disch := first | omega | (simp only [L3] <;> omega)) only [Sall,evalOp,init,binA_s,binE,binI,unE,convE,okNil,builtE,gv,TD.isAgg,resV,↓reduceIte,Nat.reduceEqDiff,reduceCtorEq,Nat.reduceAdd,Nat.reduceMul,Nat.reduceLeDiff,quietOp,blindOp,Int.reduceEq,Int.reduceLT,Int.reduceLE,Nat.reduceLT,tiA, h19, h18]
        refine condC_dec (fun hh => ?_) (fun hh => ?_)
        · obtain ⟨_, ha4, ha5, _⟩ := roundB_at hround (a := c) (by omega)
          have hsq := midM_sq n l a c
          by_cases hne : (rnd l a).getD c 0 = (c : Int)
          · have e0 : ((rnd l a).getD c 0 != (c : Int)) = false := by rw [hne]; exact bne_self_eq_false _
            try simp (disch := first | omega | (simp only [L3] <;> omega)) only [Sall,evalOp,init,binA_s,binE,binI,unE,convE,okNil,builtE,gv,TD.isAgg,resV,↓reduceIte,Nat.reduceEqDiff,reduceCtorEq,Nat.reduceAdd,Nat.reduceMul,Nat.reduceLeDiff,quietOp,blindOp,Int.reduceEq,Int.reduceLT,Int.reduceLE,Nat.reduceLT,tiA, h19, h5, hr5, ints_get?, e0, h18, h13, h12, h11, h3, h1, w64]
            (repeat refine And.intro (by omega) ?_)
            refine ⟨n - (c + 1), by omega, c + 1, rfl, by omega, rfl, hup4, hn4, hr4, ?_⟩
            rw [midM_same (by omega) hne]; exact hf4
          · have e0 : ((rnd l a).getD c 0 != (c : Int)) = true := by simpa using hne
            have hrow := hsq.2 c (by omega)
            obtain ⟨mi, mvs, i6, rfl, q1, q2, q3, q4, q5, q6, q7, q8, q9⟩ := hf4.setF (j := c) (by rw [hsq.1]; omega) (by omega)
            have ne6 : ¬ H'.next = i6 := by omega
            have ne7 : ¬ H.next = i6 := by omega
            have hMl := hsq.1
            rw [hrow] at q4
            try simp (disch := first | omega | (simp only [L3] <;> omega)) only [Sall,evalOp,init,binA_s,binE,binI,unE,convE,okNil,builtE,gv,TD.isAgg,resV,↓reduceIte,Nat.reduceEqDiff,reduceCtorEq,Nat.reduceAdd,Nat.reduceMul,Nat.reduceLeDiff,quietOp,blindOp,Int.reduceEq,Int.reduceLT,Int.reduceLE,Nat.reduceLT,tiA, h19, h5, hr5, ints_get?, e0, h18, h13, h12, h11, h3, h1, w64]
            (repeat refine And.intro (by omega) ?_)
            refine draw_id (by kernel_rfl) (by kernel_rfl) ?_
            try simp (disch := first | omega | (simp only [L3] <;> omega)) only [Sall,evalOp,init,binA_s,binE,binI,unE,convE,okNil,builtE,gv,TD.isAgg,resV,↓reduceIte,Nat.reduceEqDiff,reduceCtorEq,Nat.reduceAdd,Nat.reduceMul,Nat.reduceLeDiff,quietOp,blindOp,Int.reduceEq,Int.reduceLT,Int.reduceLE,Nat.reduceLT,tiA, h19, h5, hr5, ints_get?, h3, q3, q4, q8, ints_set]
            rw [hMl]
            (repeat refine And.intro (by omega) ?_)
            refine ⟨.inr (.inl (by kernel_rfl)), ?_⟩
            try simp (disch := first | omega | (simp only [L3] <;> omega)) only [Sall,evalOp,init,binA_s,binE,binI,unE,convE,okNil,builtE,gv,TD.isAgg,resV,↓reduceIte,Nat.reduceEqDiff,reduceCtorEq,Nat.reduceAdd,Nat.reduceMul,Nat.reduceLeDiff,quietOp,blindOp,Int.reduceEq,Int.reduceLT,Int.reduceLE,Nat.reduceLT,tiA, h19, h18, h5, h13, h12, h11, h3, h1, w64, ne6, ne7, hr4]
            refine ⟨n - (c + 1), by omega, c + 1, rfl, by omega, rfl, hup4.set (by omega) _, hn4, ?_⟩
            have q10 := q9 (incR ((midM n l a c).getD c []) ((rnd l a).getD c 0)) (incR_length _ _)
            rw [hMl] at q10
            rw [midM_inc (by omega) hne]
            unfold incM
            rw [Int.toNat_natCast]
            exact q10
        · try simp (disch := first | omega | (simp only [L3] <;> omega)) only [Sall,evalOp,init,binA_s,binE,binI,unE,convE,okNil,builtE,gv,TD.isAgg,resV,↓reduceIte,Nat.reduceEqDiff,reduceCtorEq,Nat.reduceAdd,Nat.reduceMul,Nat.reduceLeDiff,quietOp,blindOp,Int.reduceEq,Int.reduceLT,Int.reduceLE,Nat.reduceLT,tiA, h13, h12, h11, h3, h1, w64]
          have hc : c = n := by omega
          subst hc
          refine ⟨k - (a + 1), by omega, a + 1, rfl, by omega, rfl, hup4, by omega, hr4, ?_⟩
          rw [← midM_all]; exact hf4
    · have ha : a = k := by omega
      subst ha
      try simp (disch := first | omega | (simp only [L3] <;> omega)) only [Sall,evalOp,init,binA_s,binE,binI,unE,convE,okNil,builtE,gv,TD.isAgg,resV,↓reduceIte,Nat.reduceEqDiff,reduceCtorEq,Nat.reduceAdd,Nat.reduceMul,Nat.reduceLeDiff,quietOp,blindOp,Int.reduceEq,Int.reduceLT,Int.reduceLE,Nat.reduceLT,tiA, h3]
      exact ⟨hup, hf'.wide (by omega) hnx⟩
theorem l01Meetings_c (n : Nat) (v : Value) (k : Nat) (l : List Int) (H : AH) (hb : schedB n k l = true) (hv : Rd 14 H v k l) (hk : k ≤ 4294967296) :
    ACalls Tryz.prog 226 [.agg #[.int .i64 n, v]] H (fun u H' => Up H.next H H' ∧ Fr2 1 33 2 H.next H'.next H' u (meetM n l k)) := by
  refine ACalls.wf (by kernel_rfl) fun hs => acalls_of_awp [.tmp 2] Tryz.func226 (by kernel_rfl) rfl rfl (Nat.le_of_ble_eq_true rfl) (by kernel_rfl) ?_
  obtain ⟨hn, hk40, hrounds⟩ := schedB_at hb
  have hone := hv.one
  have up : Up H.next H (H.push ⟨26, true, [.int .i64 n, v]⟩) := (Up.refl _ H).push (Nat.le_refl _) _
  have e1 : (H.push ⟨26, true, [.int .i64 n, v]⟩).row H.next = some ⟨26, true, [.int .i64 n, v]⟩ := by rw [AH.push_row, if_pos rfl]
  have n1 : (H.push ⟨26, true, [.int .i64 n, v]⟩).next = H.next + 1 := rfl
  try simp (disch := first | omega | (simp only [L3] <;> omega)) only [Sall,evalOp,init,binA_s,binE,binI,unE,convE,okNil,builtE,gv,TD.isAgg,resV,↓reduceIte,Nat.reduceEqDiff,reduceCtorEq,Nat.reduceAdd,Nat.reduceMul,Nat.reduceLeDiff,quietOp,blindOp,Int.reduceEq,Int.reduceLT,Int.reduceLE,Nat.reduceLT,tiA, hone]
  revert up e1 n1
  generalize H.push ⟨26, true, [.int .i64 n, v]⟩ = H1
  intro up e1 n1
  try simp (disch := first | omega | (simp only [L3] <;> omega)) only [Sall,evalOp,init,binA_s,binE,binI,unE,convE,okNil,builtE,gv,TD.isAgg,resV,↓reduceIte,Nat.reduceEqDiff,reduceCtorEq,Nat.reduceAdd,Nat.reduceMul,Nat.reduceLeDiff,quietOp,blindOp,Int.reduceEq,Int.reduceLT,Int.reduceLE,Nat.reduceLT,tiA, zeros_zero]
  refine awp_loop (fun m t H' => ∃ (a : Nat) (u : Value) (lo hi : Nat), m = n - a ∧ a ≤ n ∧ t 4 = .int .i64 a ∧ t 3 = u ∧ t 1 = .pointer (some ⟨H.next, 0, none⟩) ∧ Up H.next H H' ∧ H'.row H.next = some ⟨26, true, [.int .i64 n, v]⟩ ∧ H.next < lo ∧ lo ≤ hi ∧ hi ≤ H'.next ∧ Fr2 1 33 2 lo hi H' u ((List.range a).map fun a => rowM n l a k)) n ?_ ?_
  · refine ⟨0, .slice (some ⟨H.next + 1, 0, some 1⟩) 0 0, H.next + 1, H.next + 2, by omega, by omega, ?_⟩
    try simp (disch := first | omega | (simp only [L3] <;> omega)) only [Sall,evalOp,init,binA_s,binE,binI,unE,convE,okNil,builtE,gv,TD.isAgg,resV,↓reduceIte,Nat.reduceEqDiff,reduceCtorEq,Nat.reduceAdd,Nat.reduceMul,Nat.reduceLeDiff,quietOp,blindOp,Int.reduceEq,Int.reduceLT,Int.reduceLE,Nat.reduceLT,tiA, Int.natCast_zero]
    refine ⟨up.push (by omega) _, by rw [if_neg (by omega), e1], ?_⟩
    (repeat refine And.intro (by omega) ?_)
    exact .inr ⟨H.next + 1, [], fun _ => H.next + 2, by omega, by omega, rfl, by rw [AH.push_row, if_pos (by omega)], rfl, by dsimp only; omega, by dsimp only; omega, .inl (by dsimp only; omega), fun _ => Nat.le_refl _, fun j hj => by simp at hj⟩
  · rintro m t H' ⟨a, u, lo, hi, hm, h14, h4, h3, h1, hup, hr1, hlo, hlh, hhi, hfr⟩
    try simp (disch := first | omega | (simp only [L3] <;> omega)) only [Sall,evalOp,init,binA_s,binE,binI,unE,convE,okNil,builtE,gv,TD.isAgg,resV,↓reduceIte,Nat.reduceEqDiff,reduceCtorEq,Nat.reduceAdd,Nat.reduceMul,Nat.reduceLeDiff,quietOp,blindOp,Int.reduceEq,Int.reduceLT,Int.reduceLE,Nat.reduceLT,tiA, h4, h1, hr1]
    refine condC_dec (fun h => ?_) (fun h => ?_)
    · have zz : zeros 1 [.slice none 0 0] = [.slice none 0 0] := rfl
      have hup1 := hup.next
      have neH : ¬ H.next = H'.next := by omega
      try simp (disch := first | omega | (simp only [L3] <;> omega)) only [Sall,evalOp,init,binA_s,binE,binI,unE,convE,okNil,builtE,gv,TD.isAgg,resV,↓reduceIte,Nat.reduceEqDiff,reduceCtorEq,Nat.reduceAdd,Nat.reduceMul,Nat.reduceLeDiff,quietOp,blindOp,Int.reduceEq,Int.reduceLT,Int.reduceLE,Nat.reduceLT,tiA, h1, hr1, zeros_int0]
      (repeat refine And.intro (by omega) ?_)
      obtain ⟨H2, e2⟩ : ∃ H2, H2 = H'.push ⟨2, true, ints (List.replicate n 0)⟩ := ⟨_, rfl⟩
      have n2 : H2.next = H'.next + 1 := by rw [e2]; rfl
      have s2 : ∀ i, i < H'.next → H2.row i = H'.row i := fun i hi => by rw [e2, AH.push_row, if_neg (by omega)]
      have x2 : H2.row H'.next = some ⟨2, true, ints (List.replicate n 0)⟩ := by rw [e2, AH.push_row, if_pos rfl]
      have up2 : Up H.next H H2 := ⟨by omega, fun i hi => by rw [s2 i (by omega), hup.row i hi]⟩
      rw [← e2]
      clear e2
      refine awp_loop (fun z t H3 => ∃ (i : Nat), z = k - i ∧ i ≤ k ∧ t 6 = .int .i64 i ∧ t 5 = .slice (some ⟨H'.next, 0, some 1⟩) n n ∧ t 4 = .int .i64 a ∧ t 3 = u ∧ t 1 = .pointer (some ⟨H.next, 0, none⟩) ∧ H3.next = H2.next ∧ (∀ i, i < H'.next → H3.row i = H'.row i) ∧ H3.row H'.next = some ⟨2, true, ints (rowM n l a i)⟩) k ?_ ?_
      · refine ⟨0, by omega, by omega, ?_⟩
        try simp (disch := first | omega | (simp only [L3] <;> omega)) only [Sall,evalOp,init,binA_s,binE,binI,unE,convE,okNil,builtE,gv,TD.isAgg,resV,↓reduceIte,Nat.reduceEqDiff,reduceCtorEq,Nat.reduceAdd,Nat.reduceMul,Nat.reduceLeDiff,quietOp,blindOp,Int.reduceEq,Int.reduceLT,Int.reduceLE,Nat.reduceLT,tiA, Int.natCast_zero, rowM_zero, h4, h3, h1]
        exact ⟨s2, x2⟩
      · rintro z t H3 ⟨i, hz, hik, h6, h5, h4, h3, h1, hn3, s3, x3⟩
        have hr3 : H3.row H.next = some ⟨26, true, [.int .i64 n, v]⟩ := by rw [s3 _ (by omega), hr1]
        try simp (disch := first | omega | (simp only [L3] <;> omega)) only [Sall,evalOp,init,binA_s,binE,binI,unE,convE,okNil,builtE,gv,TD.isAgg,resV,↓reduceIte,Nat.reduceEqDiff,reduceCtorEq,Nat.reduceAdd,Nat.reduceMul,Nat.reduceLeDiff,quietOp,blindOp,Int.reduceEq,Int.reduceLT,Int.reduceLE,Nat.reduceLT,tiA, h6, h1, hr3, builtE, hv.len]
        refine condC_dec (fun hh => ?_) (fun hh => ?_)
        · obtain ⟨i', o', u', c', r', rfl, hrB', hc', hs', hg'⟩ := hv.get (by omega)
          have hiB := hs _ _ hrB'
          have hr' : H3.row i' = some r' := by rw [s3 _ (by omega), hup.row _ hiB, hrB']
          have hrl : (rnd l i).length = 14 := rnd_length l i k hv.1 (by omega)
          obtain ⟨_, ha4, ha5, _⟩ := roundB_at (hrounds i (by omega)) (a := a) (by omega)
          have hcell : r'.cells[o' + i * 14 + a]? = some (.int .i64 ((rnd l i).getD a 0)) := by
            have h1 := hs' (i * 14 + a) (by omega)
            rw [← Nat.add_assoc] at h1
            rw [h1]
            congr 2
            unfold rnd
            rw [List.getD_eq_getElem?_getD, List.getD_eq_getElem?_getD, List.getElem?_take, if_pos (by omega), List.getElem?_drop]
          have hrowl := rowM_length n l a i
          by_cases hne : (rnd l i).getD a 0 = (a : Int)
          · have e0 : ((rnd l i).getD a 0 != (a : Int)) = false := by rw [hne]; exact bne_self_eq_false _
            try simp (disch := first | omega | (simp only [L3] <;> omega)) only [Sall,evalOp,init,binA_s,binE,binI,unE,convE,okNil,builtE,gv,TD.isAgg,resV,↓reduceIte,Nat.reduceEqDiff,reduceCtorEq,Nat.reduceAdd,Nat.reduceMul,Nat.reduceLeDiff,quietOp,blindOp,Int.reduceEq,Int.reduceLT,Int.reduceLE,Nat.reduceLT,tiA, h6, h5, h4, h3, h1, hr3, hr', hcell, e0, w64]
            (repeat refine And.intro (by omega) ?_)
            refine ⟨k - (i + 1), by omega, i + 1, rfl, by omega, rfl, hn3, s3, ?_⟩
            rw [rowM_succ]; unfold rowStep; rw [if_pos hne]; exact x3
          · have e0 : ((rnd l i).getD a 0 != (a : Int)) = true := by simpa using hne
            try simp (disch := first | omega | (simp only [L3] <;> omega)) only [Sall,evalOp,init,binA_s,binE,binI,unE,convE,okNil,builtE,gv,TD.isAgg,resV,↓reduceIte,Nat.reduceEqDiff,reduceCtorEq,Nat.reduceAdd,Nat.reduceMul,Nat.reduceLeDiff,quietOp,blindOp,Int.reduceEq,Int.reduceLT,Int.reduceLE,Nat.reduceLT,tiA, h6, h5, h4, h3, h1, hr3, hr', hcell, e0, x3, ints_get?, ints_set, w64]
            (repeat refine And.intro (by omega) ?_)
            refine ⟨k - (i + 1), by omega, i + 1, rfl, by omega, rfl, hn3, fun j hj => by rw [if_neg (by omega)]; exact s3 j hj, ?_⟩
            rw [rowM_succ]; unfold rowStep; rw [if_neg hne]; rfl
        · have hik2 : i = k := by omega
          subst hik2
          have hrowl := rowM_length n l a i
          have ne1 : ¬ H'.next = H3.next := by omega
          try simp (disch := first | omega | (simp only [L3] <;> omega)) only [Sall,evalOp,init,binA_s,binE,binI,unE,convE,okNil,builtE,gv,TD.isAgg,resV,↓reduceIte,Nat.reduceEqDiff,reduceCtorEq,Nat.reduceAdd,Nat.reduceMul,Nat.reduceLeDiff,quietOp,blindOp,Int.reduceEq,Int.reduceLT,Int.reduceLE,Nat.reduceLT,tiA, h5, h4, h3, h1, zz, slCells, x3]
          (repeat refine And.intro (by omega) ?_)
          obtain ⟨H4, e4⟩ : ∃ H4, H4 = H3.push ⟨33, true, [.slice (some ⟨H'.next, 0, some 1⟩) n n]⟩ := ⟨_, rfl⟩
          have n4 : H4.next = H3.next + 1 := by rw [e4]; rfl
          have s4 : ∀ j, j < H3.next → H4.row j = H3.row j := fun j hj => by rw [e4, AH.push_row, if_neg (by omega)]
          rw [← e4]
          clear e4
          refine appE_fr2 (hfr.same fun j _ hj => by rw [s4 j (by omega), s3 j (by omega)]) (m := n) (l := rowM n l a i) ⟨by omega, .inr ⟨H'.next, by omega, by omega, rfl, by rw [s4 _ (by omega), x3]⟩⟩ rfl (by decide) (by simp; omega) hlh (by omega) ?_
          intro v' H5 n5 s5 f5
          try simp (disch := first | omega | (simp only [L3] <;> omega)) only [Sall,evalOp,init,binA_s,binE,binI,unE,convE,okNil,builtE,gv,TD.isAgg,resV,↓reduceIte,Nat.reduceEqDiff,reduceCtorEq,Nat.reduceAdd,Nat.reduceMul,Nat.reduceLeDiff,quietOp,blindOp,Int.reduceEq,Int.reduceLT,Int.reduceLE,Nat.reduceLT,tiA, h4, h1, w64]
          refine ⟨n - (a + 1), by omega, a + 1, v', lo, H4.next + 1, rfl, by omega, rfl, rfl, ⟨by omega, fun j hj => ?_⟩, ?_, by omega, by omega, by omega, ?_⟩
          · rw [s5 j (by omega) (by omega), s4 j (by omega), s3 j (by omega), hup.row j hj]
          · rw [s5 _ (by omega) (by omega), s4 _ (by omega), s3 _ (by omega), hr1]
          · rw [List.range_succ, List.map_append]; exact f5
    · have ha : a = n := by omega
      subst ha
      try simp (disch := first | omega | (simp only [L3] <;> omega)) only [Sall,evalOp,init,binA_s,binE,binI,unE,convE,okNil,builtE,gv,TD.isAgg,resV,↓reduceIte,Nat.reduceEqDiff,reduceCtorEq,Nat.reduceAdd,Nat.reduceMul,Nat.reduceLeDiff,quietOp,blindOp,Int.reduceEq,Int.reduceLT,Int.reduceLE,Nat.reduceLT,tiA, h3]
      exact ⟨hup, hfr.wide (by omega) hhi⟩
end Go.Proofs.YtpienljnoaendaaGreat.A
end

section
set_option maxRecDepth 100000
set_option maxHeartbeats 2000000
namespace Go.Proofs.YtpienljnoaendaaGreat.A
open Go Go.Abs Go.RowKit
theorem sizeR_c (v : Value) (k : Nat) (l : List Int) (H : AH) (hv : Rd 14 H v k l) (hk : k ≤ 4294967296) : ACalls Tryz.prog 192 [v] H (is (.int .i64 k) H) := by
  refine acalls_of_awp [.tmp 2] Tryz.func192 (by kernel_rfl) rfl rfl (Nat.le_of_ble_eq_true rfl) (by kernel_rfl) ?_
  try simp (disch := first | omega | (simp only [L3] <;> omega)) only [Sall,evalOp,init,binA_s,binE,binI,unE,convE,okNil,builtE,gv,TD.isAgg,resV,↓reduceIte,Nat.reduceEqDiff,reduceCtorEq,Nat.reduceAdd,Nat.reduceMul,Nat.reduceLeDiff,quietOp,blindOp,Int.reduceEq,Int.reduceLT,Int.reduceLE,Nat.reduceLT,tiA, builtE, hv.len, is]
theorem isRoundRobin_c (n : Nat) (v : Value) (k : Nat) (l : List Int) (H : AH) (hb : schedB n k l = true) (hv : Rd 14 H v k l) (hk : k ≤ 4294967296) :
    ACalls Tryz.prog 132 [.agg #[.int .i64 n, v]] H (is (.bool (robinB n k l)) H) := by
  refine ACalls.wf (by kernel_rfl) fun hs => acalls_up rfl (acalls_of_awp [.tmp 2] Tryz.func132 (by kernel_rfl) rfl rfl (Nat.le_of_ble_eq_true rfl) (by kernel_rfl) ?_)
  obtain ⟨hn, hk40, hrounds⟩ := schedB_at hb
  have hone := hv.one
  have em : Int.tmod (n : Int) 2 = ((n % 2 : Nat) : Int) := rfl
  have up : Up H.next H (H.push ⟨26, true, [.int .i64 n, v]⟩) := (Up.refl _ H).push (Nat.le_refl _) _
  have e1 : (H.push ⟨26, true, [.int .i64 n, v]⟩).row H.next = some ⟨26, true, [.int .i64 n, v]⟩ := by rw [AH.push_row, if_pos rfl]
  have n1 : (H.push ⟨26, true, [.int .i64 n, v]⟩).next = H.next + 1 := rfl
  try simp (disch := first | omega | (simp only [L3] <;> omega)) only [Sall,evalOp,init,binA_s,binE,binI,unE,convE,okNil,builtE,gv,TD.isAgg,resV,↓reduceIte,Nat.reduceEqDiff,reduceCtorEq,Nat.reduceAdd,Nat.reduceMul,Nat.reduceLeDiff,quietOp,blindOp,Int.reduceEq,Int.reduceLT,Int.reduceLE,Nat.reduceLT,tiA, hone]
  revert up e1 n1
  generalize H.push ⟨26, true, [.int .i64 n, v]⟩ = H1
  intro up e1 n1
  have hv1 := hv.same (up.le hs).row
  refine draw_in [0, 1, 3, 4, 5, 6, 7, 8, 9, 2, 10] (by kernel_rfl) (by kernel_rfl) rfl ?_
  have two : ((2 : Int) = 0) = False := by simp
  try simp (disch := first | omega | (simp only [L3] <;> omega)) only [Sall,evalOp,init,binA_s,binE,binI,unE,convE,okNil,builtE,gv,TD.isAgg,resV,↓reduceIte,Nat.reduceEqDiff,reduceCtorEq,Nat.reduceAdd,Nat.reduceMul,Nat.reduceLeDiff,quietOp,blindOp,Int.reduceEq,Int.reduceLT,Int.reduceLE,Nat.reduceLT,tiA, e1, em, w64, two]
  refine (sizeR_c v k l H1 hv1 hk).to ?_
  refine ⟨.inr (.inr (LE.refl _)), ?_⟩
  by_cases hkn : k = n - 1 + n % 2
  · have e0 : ((k : Int) != (n : Int) - 1 + ((n % 2 : Nat) : Int)) = false := by rw [show (k : Int) = (n : Int) - 1 + ((n % 2 : Nat) : Int) by omega]; exact bne_self_eq_false _
    try simp (disch := first | omega | (simp only [L3] <;> omega)) only [Sall,evalOp,init,binA_s,binE,binI,unE,convE,okNil,builtE,gv,TD.isAgg,resV,↓reduceIte,Nat.reduceEqDiff,reduceCtorEq,Nat.reduceAdd,Nat.reduceMul,Nat.reduceLeDiff,quietOp,blindOp,Int.reduceEq,Int.reduceLT,Int.reduceLE,Nat.reduceLT,tiA, e0, e1]
    refine (meetings_c n v k l H1 hb hv1 hk).mono ?_
    rintro u H2 ⟨up2, hf⟩
    have hsq := meetM_sq n l k
    have hlen := hf.rd.len
    rw [hsq.1] at hlen
    have u2 : Up H.next H H2 := up.trans up2 (by omega)
    refine Holds.mp ?_
    try simp (disch := first | omega | (simp only [L3] <;> omega)) only [Sall,evalOp,init,binA_s,binE,binI,unE,convE,okNil,builtE,gv,TD.isAgg,resV,↓reduceIte,Nat.reduceEqDiff,reduceCtorEq,Nat.reduceAdd,Nat.reduceMul,Nat.reduceLeDiff,quietOp,blindOp,Int.reduceEq,Int.reduceLT,Int.reduceLE,Nat.reduceLT,tiA, builtE, hlen]
    refine awp_loop (fun m t H' => ∃ a : Nat, m = n - a ∧ a ≤ n ∧ t 21 = .int .i64 a ∧ t 20 = .int .i64 n ∧ t 19 = u ∧ H' = H2 ∧ (∀ i, i < a → ∀ j, j < n → balAt (meetM n l k) i j = true)) n ?_ ?_
    · refine ⟨0, by omega, by omega, ?_⟩
      try simp (disch := first | omega | (simp only [L3] <;> omega)) only [Sall,evalOp,init,binA_s,binE,binI,unE,convE,okNil,builtE,gv,TD.isAgg,resV,↓reduceIte,Nat.reduceEqDiff,reduceCtorEq,Nat.reduceAdd,Nat.reduceMul,Nat.reduceLeDiff,quietOp,blindOp,Int.reduceEq,Int.reduceLT,Int.reduceLE,Nat.reduceLT,tiA, Int.natCast_zero, Nat.not_lt_zero, false_implies]
    · rintro m t H' ⟨a, hm, h14, h21, h20, h19, rfl, hall⟩
      try simp (disch := first | omega | (simp only [L3] <;> omega)) only [Sall,evalOp,init,binA_s,binE,binI,unE,convE,okNil,builtE,gv,TD.isAgg,resV,↓reduceIte,Nat.reduceEqDiff,reduceCtorEq,Nat.reduceAdd,Nat.reduceMul,Nat.reduceLeDiff,quietOp,blindOp,Int.reduceEq,Int.reduceLT,Int.reduceLE,Nat.reduceLT,tiA, h21, h20]
      refine condC_dec (fun h => ?_) (fun h => ?_)
      · obtain ⟨i, o, u', c, r, y, my, rfl, hr, hy, hsx, hok⟩ := hf.rd.get (j := a) (by rw [hsq.1]; omega)
        have hmy := hsx.lenK1
        rw [hsq.2 a (by omega)] at hmy
        subst hmy
        have hMl := hsq.1
        try simp (disch := first | omega | (simp only [L3] <;> omega)) only [Sall,evalOp,init,binA_s,binE,binI,unE,convE,okNil,builtE,gv,TD.isAgg,resV,↓reduceIte,Nat.reduceEqDiff,reduceCtorEq,Nat.reduceAdd,Nat.reduceMul,Nat.reduceLeDiff,quietOp,blindOp,Int.reduceEq,Int.reduceLT,Int.reduceLE,Nat.reduceLT,tiA, h21, h20, h19, hr, hy, hok, builtE, hsx.len]
        (repeat refine And.intro (by omega) ?_)
        refine awp_loop (fun z t H7 => ∃ b : Nat, z = my - b ∧ b ≤ my ∧ t 28 = .int .i64 b ∧ t 27 = .int .i64 my ∧ t 26 = y ∧ t 3 = .int .i64 a ∧ t 21 = .int .i64 a ∧ t 20 = .int .i64 my ∧ t 19 = .slice (some ⟨i, o, u'⟩) (meetM my l k).length c ∧ H7 = H' ∧ (∀ j, j < b → balAt (meetM my l k) a j = true)) my ?_ ?_
        · refine ⟨0, by omega, by omega, ?_⟩
          try simp (disch := first | omega | (simp only [L3] <;> omega)) only [Sall,evalOp,init,binA_s,binE,binI,unE,convE,okNil,builtE,gv,TD.isAgg,resV,↓reduceIte,Nat.reduceEqDiff,reduceCtorEq,Nat.reduceAdd,Nat.reduceMul,Nat.reduceLeDiff,quietOp,blindOp,Int.reduceEq,Int.reduceLT,Int.reduceLE,Nat.reduceLT,tiA, Int.natCast_zero, Nat.not_lt_zero, false_implies, h21, h20, h19]
        · rintro z t H7 ⟨b, hz, hbn, h28, h27, h26, h3, h21, h20, h19, rfl, hin⟩
          try simp (disch := first | omega | (simp only [L3] <;> omega)) only [Sall,evalOp,init,binA_s,binE,binI,unE,convE,okNil,builtE,gv,TD.isAgg,resV,↓reduceIte,Nat.reduceEqDiff,reduceCtorEq,Nat.reduceAdd,Nat.reduceMul,Nat.reduceLeDiff,quietOp,blindOp,Int.reduceEq,Int.reduceLT,Int.reduceLE,Nat.reduceLT,tiA, h28, h27]
          refine condC_dec (fun hh => ?_) (fun hh => ?_)
          · obtain ⟨i7, o7, u7, c7, r7, rfl, hr7, hc7, hs7, hg7⟩ := hsx.get (by omega)
            have g1 := hs7 b (by omega)
            by_cases hab : a = b
            · have e2 : ((a : Int) != (b : Int)) = false := by rw [hab]; exact bne_self_eq_false _
              have hbal : balAt (meetM my l k) a b = true := by unfold balAt; rw [decide_eq_true hab]; rfl
              try simp (disch := first | omega | (simp only [L3] <;> omega)) only [Sall,evalOp,init,binA_s,binE,binI,unE,convE,okNil,builtE,gv,TD.isAgg,resV,↓reduceIte,Nat.reduceEqDiff,reduceCtorEq,Nat.reduceAdd,Nat.reduceMul,Nat.reduceLeDiff,quietOp,blindOp,Int.reduceEq,Int.reduceLT,Int.reduceLE,Nat.reduceLT,tiA, h28, h27, h26, h3, h21, h20, h19, hr7, g1, e2, w64]
              (repeat refine And.intro (by omega) ?_)
              refine ⟨my - (b + 1), by omega, b + 1, rfl, by omega, rfl, fun j hj => ?_⟩
              by_cases e : j = b
              · rw [e]; exact hbal
              · exact hin j (by omega)
            · have e2 : ((a : Int) != (b : Int)) = true := by rw [bne_iff_ne]; omega
              by_cases hx1 : ((meetM my l k).getD a []).getD b 0 = 1
              · have e3 : (((meetM my l k).getD a []).getD b 0 != 1) = false := by rw [hx1]; rfl
                have hbal : balAt (meetM my l k) a b = true := by unfold balAt; rw [hx1]; simp
                try simp (disch := first | omega | (simp only [L3] <;> omega)) only [Sall,evalOp,init,binA_s,binE,binI,unE,convE,okNil,builtE,gv,TD.isAgg,resV,↓reduceIte,Nat.reduceEqDiff,reduceCtorEq,Nat.reduceAdd,Nat.reduceMul,Nat.reduceLeDiff,quietOp,blindOp,Int.reduceEq,Int.reduceLT,Int.reduceLE,Nat.reduceLT,tiA, h28, h27, h26, h3, h21, h20, h19, hr7, g1, e2, e3, w64]
                (repeat refine And.intro (by omega) ?_)
                refine ⟨my - (b + 1), by omega, b + 1, rfl, by omega, rfl, fun j hj => ?_⟩
                by_cases e : j = b
                · rw [e]; exact hbal
                · exact hin j (by omega)
              · have e3 : (((meetM my l k).getD a []).getD b 0 != 1) = true := by rw [bne_iff_ne]; exact hx1
                have hbal : balAt (meetM my l k) a b = false := by
                  unfold balAt
                  rw [decide_eq_false hab, Bool.false_or]
                  exact beq_eq_false_iff_ne.2 hx1
                try simp (disch := first | omega | (simp only [L3] <;> omega)) only [Sall,evalOp,init,binA_s,binE,binI,unE,convE,okNil,builtE,gv,TD.isAgg,resV,↓reduceIte,Nat.reduceEqDiff,reduceCtorEq,Nat.reduceAdd,Nat.reduceMul,Nat.reduceLeDiff,quietOp,blindOp,Int.reduceEq,Int.reduceLT,Int.reduceLE,Nat.reduceLT,tiA, h28, h27, h26, h3, h21, h20, h19, hr7, g1, e2, e3, w64]
                (repeat refine And.intro (by omega) ?_)
                unfold robinB
                rw [balB_bad (i := a) (j := b) (by rw [hMl]; omega) (by rw [hsq.2 a (by omega)]; omega) hbal, Bool.and_false]
                exact ⟨rfl, u2⟩
          · try simp (disch := first | omega | (simp only [L3] <;> omega)) only [Sall,evalOp,init,binA_s,binE,binI,unE,convE,okNil,builtE,gv,TD.isAgg,resV,↓reduceIte,Nat.reduceEqDiff,reduceCtorEq,Nat.reduceAdd,Nat.reduceMul,Nat.reduceLeDiff,quietOp,blindOp,Int.reduceEq,Int.reduceLT,Int.reduceLE,Nat.reduceLT,tiA, h21, h20, h19, w64]
            refine ⟨my - (a + 1), by omega, a + 1, rfl, by omega, rfl, fun i hi j hj => ?_⟩
            by_cases e : i = a
            · rw [e]; exact hin j (by omega)
            · exact hall i (by omega) j hj
      · try simp (disch := first | omega | (simp only [L3] <;> omega)) only [Sall,evalOp,init,binA_s,binE,binI,unE,convE,okNil,builtE,gv,TD.isAgg,resV,↓reduceIte,Nat.reduceEqDiff,reduceCtorEq,Nat.reduceAdd,Nat.reduceMul,Nat.reduceLeDiff,quietOp,blindOp,Int.reduceEq,Int.reduceLT,Int.reduceLE,Nat.reduceLT,tiA, true_and]
        unfold robinB
        rw [decide_eq_true hkn, balB_good (fun i hi j hj => hall i (by rw [hsq.1] at hi; omega) j (by rw [hsq.1] at hi; rw [hsq.2 i hi] at hj; exact hj))]
        exact ⟨rfl, u2⟩
  · have e0 : ((k : Int) != (n : Int) - 1 + ((n % 2 : Nat) : Int)) = true := by rw [bne_iff_ne]; omega
    try simp (disch := first | omega | (simp only [L3] <;> omega)) only [Sall,evalOp,init,binA_s,binE,binI,unE,convE,okNil,builtE,gv,TD.isAgg,resV,↓reduceIte,Nat.reduceEqDiff,reduceCtorEq,Nat.reduceAdd,Nat.reduceMul,Nat.reduceLeDiff,quietOp,blindOp,Int.reduceEq,Int.reduceLT,Int.reduceLE,Nat.reduceLT,tiA, e0]
    unfold robinB
    rw [decide_eq_false hkn, Bool.false_and]
    exact ⟨rfl, up⟩
theorem l01Robin_c (n : Nat) (v : Value) (k : Nat) (l : List Int) (H : AH) (hb : schedB n k l = true) (hv : Rd 14 H v k l) (hk : k ≤ 4294967296) :
    ACalls Tryz.prog 277 [.agg #[.int .i64 n, v]] H (is (.bool (robinB n k l)) H) := by
  refine ACalls.wf (by kernel_rfl) fun hs => acalls_up rfl (acalls_of_awp [.tmp 2] Tryz.func277 (by kernel_rfl) rfl rfl (Nat.le_of_ble_eq_true rfl) (by kernel_rfl) ?_)
  obtain ⟨hn, hk40, hrounds⟩ := schedB_at hb
  have hone := hv.one
  have em : Int.tmod (n : Int) 2 = ((n % 2 : Nat) : Int) := rfl
  have up : Up H.next H (H.push ⟨26, true, [.int .i64 n, v]⟩) := (Up.refl _ H).push (Nat.le_refl _) _
  have e1 : (H.push ⟨26, true, [.int .i64 n, v]⟩).row H.next = some ⟨26, true, [.int .i64 n, v]⟩ := by rw [AH.push_row, if_pos rfl]
  have n1 : (H.push ⟨26, true, [.int .i64 n, v]⟩).next = H.next + 1 := rfl
  try simp (disch := first | omega | (simp only [L3] <;> omega)) only [Sall,evalOp,init,binA_s,binE,binI,unE,convE,okNil,builtE,gv,TD.isAgg,resV,↓reduceIte,Nat.reduceEqDiff,reduceCtorEq,Nat.reduceAdd,Nat.reduceMul,Nat.reduceLeDiff,quietOp,blindOp,Int.reduceEq,Int.reduceLT,Int.reduceLE,Nat.reduceLT,tiA, hone]
  revert up e1 n1
  generalize H.push ⟨26, true, [.int .i64 n, v]⟩ = H1
  intro up e1 n1
  have hv1 := hv.same (up.le hs).row
  have two : ((2 : Int) = 0) = False := by simp
  by_cases hkn : k = n - 1 + n % 2
  · have e0 : ((k : Int) != (n : Int) - 1 + ((n % 2 : Nat) : Int)) = false := by rw [show (k : Int) = (n : Int) - 1 + ((n % 2 : Nat) : Int) by omega]; exact bne_self_eq_false _
    try simp (disch := first | omega | (simp only [L3] <;> omega)) only [Sall,evalOp,init,binA_s,binE,binI,unE,convE,okNil,builtE,gv,TD.isAgg,resV,↓reduceIte,Nat.reduceEqDiff,reduceCtorEq,Nat.reduceAdd,Nat.reduceMul,Nat.reduceLeDiff,quietOp,blindOp,Int.reduceEq,Int.reduceLT,Int.reduceLE,Nat.reduceLT,tiA, e0, e1, em, w64, two, builtE, hv1.len]
    refine (l01Meetings_c n v k l H1 hb hv1 hk).mono ?_
    rintro u H2 ⟨up2, hf⟩
    have hsq := meetM_sq n l k
    have u2 : Up H.next H H2 := up.trans up2 (by omega)
    have r2 : H2.row H.next = some ⟨26, true, [.int .i64 n, v]⟩ := by rw [up2.row _ (by omega), e1]
    refine Holds.mp ?_
    try simp (disch := first | omega | (simp only [L3] <;> omega)) only [Sall,evalOp,init,binA_s,binE,binI,unE,convE,okNil,builtE,gv,TD.isAgg,resV,↓reduceIte,Nat.reduceEqDiff,reduceCtorEq,Nat.reduceAdd,Nat.reduceMul,Nat.reduceLeDiff,quietOp,blindOp,Int.reduceEq,Int.reduceLT,Int.reduceLE,Nat.reduceLT,tiA, true_and]
    refine awp_loop (fun m t H' => ∃ a : Nat, m = n - a ∧ a ≤ n ∧ t 5 = .int .i64 a ∧ t 4 = u ∧ t 1 = .pointer (some ⟨H.next, 0, none⟩) ∧ H' = H2 ∧ (∀ i, i < a → ∀ j, j < n → balAt (meetM n l k) i j = true)) n ?_ ?_
    · refine ⟨0, by omega, by omega, ?_⟩
      try simp (disch := first | omega | (simp only [L3] <;> omega)) only [Sall,evalOp,init,binA_s,binE,binI,unE,convE,okNil,builtE,gv,TD.isAgg,resV,↓reduceIte,Nat.reduceEqDiff,reduceCtorEq,Nat.reduceAdd,Nat.reduceMul,Nat.reduceLeDiff,quietOp,blindOp,Int.reduceEq,Int.reduceLT,Int.reduceLE,Nat.reduceLT,tiA, Int.natCast_zero, Nat.not_lt_zero, false_implies]
    · rintro m t H' ⟨a, hm, h14, h5, h4, h1, rfl, hall⟩
      try simp (disch := first | omega | (simp only [L3] <;> omega)) only [Sall,evalOp,init,binA_s,binE,binI,unE,convE,okNil,builtE,gv,TD.isAgg,resV,↓reduceIte,Nat.reduceEqDiff,reduceCtorEq,Nat.reduceAdd,Nat.reduceMul,Nat.reduceLeDiff,quietOp,blindOp,Int.reduceEq,Int.reduceLT,Int.reduceLE,Nat.reduceLT,tiA, h5, h1, r2]
      refine condC_dec (fun h => ?_) (fun h => ?_)
      · obtain ⟨i, o, u', c, r, y, my, rfl, hr, hy, hsx, hok⟩ := hf.rd.get (j := a) (by rw [hsq.1]; omega)
        have hmy := hsx.lenK1
        rw [hsq.2 a (by omega)] at hmy
        subst hmy
        have hMl := hsq.1
        try simp (disch := first | omega | (simp only [L3] <;> omega)) only [Sall,evalOp,init,binA_s,binE,binI,unE,convE,okNil,builtE,gv,TD.isAgg,resV,↓reduceIte,Nat.reduceEqDiff,reduceCtorEq,Nat.reduceAdd,Nat.reduceMul,Nat.reduceLeDiff,quietOp,blindOp,Int.reduceEq,Int.reduceLT,Int.reduceLE,Nat.reduceLT,tiA, h5, h4, h1]
        refine awp_loop (fun z t H7 => ∃ b : Nat, z = my - b ∧ b ≤ my ∧ t 6 = .int .i64 b ∧ t 5 = .int .i64 a ∧ t 4 = .slice (some ⟨i, o, u'⟩) (meetM my l k).length c ∧ t 1 = .pointer (some ⟨H.next, 0, none⟩) ∧ H7 = H' ∧ (∀ j, j < b → balAt (meetM my l k) a j = true)) my ?_ ?_
        · refine ⟨0, by omega, by omega, ?_⟩
          try simp (disch := first | omega | (simp only [L3] <;> omega)) only [Sall,evalOp,init,binA_s,binE,binI,unE,convE,okNil,builtE,gv,TD.isAgg,resV,↓reduceIte,Nat.reduceEqDiff,reduceCtorEq,Nat.reduceAdd,Nat.reduceMul,Nat.reduceLeDiff,quietOp,blindOp,Int.reduceEq,Int.reduceLT,Int.reduceLE,Nat.reduceLT,tiA, Int.natCast_zero, Nat.not_lt_zero, false_implies, h5, h4, h1]
        · rintro z t H7 ⟨b, hz, hbn, h6, h5, h4, h1, rfl, hin⟩
          try simp (disch := first | omega | (simp only [L3] <;> omega)) only [Sall,evalOp,init,binA_s,binE,binI,unE,convE,okNil,builtE,gv,TD.isAgg,resV,↓reduceIte,Nat.reduceEqDiff,reduceCtorEq,Nat.reduceAdd,Nat.reduceMul,Nat.reduceLeDiff,quietOp,blindOp,Int.reduceEq,Int.reduceLT,Int.reduceLE,Nat.reduceLT,tiA, h6, h1, r2]
          refine condC_dec (fun hh => ?_) (fun hh => ?_)
          · obtain ⟨i7, o7, u7, c7, r7, rfl, hr7, hc7, hs7, hg7⟩ := hsx.get (by omega)
            have g1 := hs7 b (by omega)
            by_cases hab : a = b
            · have e2 : ((a : Int) != (b : Int)) = false := by rw [hab]; exact bne_self_eq_false _
              have hbal : balAt (meetM my l k) a b = true := by unfold balAt; rw [decide_eq_true hab]; rfl
              try simp (disch := first | omega | (simp only [L3] <;> omega)) only [Sall,evalOp,init,binA_s,binE,binI,unE,convE,okNil,builtE,gv,TD.isAgg,resV,↓reduceIte,Nat.reduceEqDiff,reduceCtorEq,Nat.reduceAdd,Nat.reduceMul,Nat.reduceLeDiff,quietOp,blindOp,Int.reduceEq,Int.reduceLT,Int.reduceLE,Nat.reduceLT,tiA, h6, h5, h4, h1, e2, w64]
              (repeat refine And.intro (by omega) ?_)
              refine ⟨my - (b + 1), by omega, b + 1, rfl, by omega, rfl, fun j hj => ?_⟩
              by_cases e : j = b
              · rw [e]; exact hbal
              · exact hin j (by omega)
            · have e2 : ((a : Int) != (b : Int)) = true := by rw [bne_iff_ne]; omega
              by_cases hx1 : ((meetM my l k).getD a []).getD b 0 = 1
              · have e3 : (((meetM my l k).getD a []).getD b 0 != 1) = false := by rw [hx1]; rfl
                have hbal : balAt (meetM my l k) a b = true := by unfold balAt; rw [hx1]; simp
                try simp (disch := first | omega | (simp only [L3] <;> omega)) only [Sall,evalOp,init,binA_s,binE,binI,unE,convE,okNil,builtE,gv,TD.isAgg,resV,↓reduceIte,Nat.reduceEqDiff,reduceCtorEq,Nat.reduceAdd,Nat.reduceMul,Nat.reduceLeDiff,quietOp,blindOp,Int.reduceEq,Int.reduceLT,Int.reduceLE,Nat.reduceLT,tiA, h6, h5, h4, h1, hr, hy, hok, hr7, g1, e2, e3, w64]
                (repeat refine And.intro (by omega) ?_)
                refine ⟨my - (b + 1), by omega, b + 1, rfl, by omega, rfl, fun j hj => ?_⟩
                by_cases e : j = b
                · rw [e]; exact hbal
                · exact hin j (by omega)
              · have e3 : (((meetM my l k).getD a []).getD b 0 != 1) = true := by rw [bne_iff_ne]; exact hx1
                have hbal : balAt (meetM my l k) a b = false := by
                  unfold balAt
                  rw [decide_eq_false hab, Bool.false_or]
                  exact beq_eq_false_iff_ne.2 hx1
                try simp (disch := first | omega | (simp only [L3] <;> omega)) only [Sall,evalOp,init,binA_s,binE,binI,unE,convE,okNil,builtE,gv,TD.isAgg,resV,↓reduceIte,Nat.reduceEqDiff,reduceCtorEq,Nat.reduceAdd,Nat.reduceMul,Nat.reduceLeDiff,quietOp,blindOp,Int.reduceEq,Int.reduceLT,Int.reduceLE,Nat.reduceLT,tiA, h6, h5, h4, h1, hr, hy, hok, hr7, g1, e2, e3, w64]
                (repeat refine And.intro (by omega) ?_)
                unfold robinB
                rw [balB_bad (i := a) (j := b) (by rw [hMl]; omega) (by rw [hsq.2 a (by omega)]; omega) hbal, Bool.and_false]
                exact ⟨rfl, u2⟩
          · try simp (disch := first | omega | (simp only [L3] <;> omega)) only [Sall,evalOp,init,binA_s,binE,binI,unE,convE,okNil,builtE,gv,TD.isAgg,resV,↓reduceIte,Nat.reduceEqDiff,reduceCtorEq,Nat.reduceAdd,Nat.reduceMul,Nat.reduceLeDiff,quietOp,blindOp,Int.reduceEq,Int.reduceLT,Int.reduceLE,Nat.reduceLT,tiA, h5, h4, h1, w64]
            refine ⟨my - (a + 1), by omega, a + 1, rfl, by omega, rfl, fun i hi j hj => ?_⟩
            by_cases e : i = a
            · rw [e]; exact hin j (by omega)
            · exact hall i (by omega) j hj
      · try simp (disch := first | omega | (simp only [L3] <;> omega)) only [Sall,evalOp,init,binA_s,binE,binI,unE,convE,okNil,builtE,gv,TD.isAgg,resV,↓reduceIte,Nat.reduceEqDiff,reduceCtorEq,Nat.reduceAdd,Nat.reduceMul,Nat.reduceLeDiff,quietOp,blindOp,Int.reduceEq,Int.reduceLT,Int.reduceLE,Nat.reduceLT,tiA, true_and]
        unfold robinB
        rw [decide_eq_true hkn, balB_good (fun i hi j hj => hall i (by rw [hsq.1] at hi; omega) j (by rw [hsq.1] at hi; rw [hsq.2 i hi] at hj; exact hj))]
        exact ⟨rfl, u2⟩
  · have e0 : ((k : Int) != (n : Int) - 1 + ((n % 2 : Nat) : Int)) = true := by rw [bne_iff_ne]; omega
    try simp (disch := first | omega | (simp only [L3] <;> omega)) only [Sall,evalOp,init,binA_s,binE,binI,unE,convE,okNil,builtE,gv,TD.isAgg,resV,↓reduceIte,Nat.reduceEqDiff,reduceCtorEq,Nat.reduceAdd,Nat.reduceMul,Nat.reduceLeDiff,quietOp,blindOp,Int.reduceEq,Int.reduceLT,Int.reduceLE,Nat.reduceLT,tiA, e0, e1, em, w64, two, builtE, hv1.len]
    unfold robinB
    rw [decide_eq_false hkn, Bool.false_and]
    exact ⟨rfl, up⟩
theorem carryCode_c (q : Int) (v : Value) (k : Nat) (l : List Int) (H : AH) (hv : Rd 14 H v k l) (hk : k ≤ 4294967296) :
    ACalls Tryz.prog 189 [.agg #[.int .i64 q, v]] H (is (.int .i64 (codeC q k l)) H) := by
  refine ACalls.wf (by kernel_rfl) fun hs => acalls_up rfl (acalls_of_awp [.tmp 2] Tryz.func189 (by kernel_rfl) rfl rfl (Nat.le_of_ble_eq_true rfl) (by kernel_rfl) ?_)
  have hone := hv.one
  have up : Up H.next H (H.push ⟨26, true, [.int .i64 q, v]⟩) := (Up.refl _ H).push (Nat.le_refl _) _
  have e1 : (H.push ⟨26, true, [.int .i64 q, v]⟩).row H.next = some ⟨26, true, [.int .i64 q, v]⟩ := by rw [AH.push_row, if_pos rfl]
  try simp (disch := first | omega | (simp only [L3] <;> omega)) only [Sall,evalOp,init,binA_s,binE,binI,unE,convE,okNil,builtE,gv,TD.isAgg,resV,↓reduceIte,Nat.reduceEqDiff,reduceCtorEq,Nat.reduceAdd,Nat.reduceMul,Nat.reduceLeDiff,quietOp,blindOp,Int.reduceEq,Int.reduceLT,Int.reduceLE,Nat.reduceLT,tiA, hone]
  revert up e1
  generalize H.push ⟨26, true, [.int .i64 q, v]⟩ = H1
  intro up e1
  have hv1 := hv.same (up.le hs).row
  refine (IsSchedule_c q v k l H1 hv1 hk).to ?_
  unfold codeC
  by_cases hb : schedB q k l = true
  · obtain ⟨h2, _, _⟩ := schedB_at hb
    obtain ⟨n, rfl⟩ : ∃ n : Nat, q = n := ⟨q.toNat, by omega⟩
    rw [if_pos hb, Int.toNat_natCast]
    have em : Int.tmod (n : Int) 2 = ((n % 2 : Nat) : Int) := rfl
    have two : ((2 : Int) = 0) = False := by simp
    by_cases hodd : n % 2 = 1
    · have e0 : ((((n % 2 : Nat) : Int)) == 1) = true := by rw [hodd]; rfl
      try simp (disch := first | omega | (simp only [L3] <;> omega)) only [Sall,evalOp,init,binA_s,binE,binI,unE,convE,okNil,builtE,gv,TD.isAgg,resV,↓reduceIte,Nat.reduceEqDiff,reduceCtorEq,Nat.reduceAdd,Nat.reduceMul,Nat.reduceLeDiff,quietOp,blindOp,Int.reduceEq,Int.reduceLT,Int.reduceLE,Nat.reduceLT,tiA, hb, Bool.not_true, e1, em, two, e0]
      rw [decide_eq_true hodd]
      exact ⟨rfl, up⟩
    · have e0 : ((((n % 2 : Nat) : Int)) == 1) = false := by rw [show n % 2 = 0 by omega]; rfl
      try simp (disch := first | omega | (simp only [L3] <;> omega)) only [Sall,evalOp,init,binA_s,binE,binI,unE,convE,okNil,builtE,gv,TD.isAgg,resV,↓reduceIte,Nat.reduceEqDiff,reduceCtorEq,Nat.reduceAdd,Nat.reduceMul,Nat.reduceLeDiff,quietOp,blindOp,Int.reduceEq,Int.reduceLT,Int.reduceLE,Nat.reduceLT,tiA, hb, Bool.not_true, e1, em, two, e0]
      refine (isRoundRobin_c n v k l H1 hb hv1 hk).to ?_
      rw [decide_eq_false hodd]
      cases hr : robinB n k l with
      | true =>
        try simp (disch := first | omega | (simp only [L3] <;> omega)) only [Sall,evalOp,init,binA_s,binE,binI,unE,convE,okNil,builtE,gv,TD.isAgg,resV,↓reduceIte,Nat.reduceEqDiff,reduceCtorEq,Nat.reduceAdd,Nat.reduceMul,Nat.reduceLeDiff,quietOp,blindOp,Int.reduceEq,Int.reduceLT,Int.reduceLE,Nat.reduceLT,tiA, Bool.not_true]
        exact ⟨rfl, up⟩
      | false =>
        try simp (disch := first | omega | (simp only [L3] <;> omega)) only [Sall,evalOp,init,binA_s,binE,binI,unE,convE,okNil,builtE,gv,TD.isAgg,resV,↓reduceIte,Nat.reduceEqDiff,reduceCtorEq,Nat.reduceAdd,Nat.reduceMul,Nat.reduceLeDiff,quietOp,blindOp,Int.reduceEq,Int.reduceLT,Int.reduceLE,Nat.reduceLT,tiA, Bool.not_false]
        exact ⟨rfl, up⟩
  · have hb' : schedB q k l = false := by simpa using hb
    try simp (disch := first | omega | (simp only [L3] <;> omega)) only [Sall,evalOp,init,binA_s,binE,binI,unE,convE,okNil,builtE,gv,TD.isAgg,resV,↓reduceIte,Nat.reduceEqDiff,reduceCtorEq,Nat.reduceAdd,Nat.reduceMul,Nat.reduceLeDiff,quietOp,blindOp,Int.reduceEq,Int.reduceLT,Int.reduceLE,Nat.reduceLT,tiA, hb', Bool.not_false]
    exact up
theorem l09Code_c (q : Int) (v : Value) (k : Nat) (l : List Int) (H : AH) (hv : Rd 14 H v k l) (hk : k ≤ 4294967296) :
    ACalls Tryz.prog 197 [.agg #[.int .i64 q, v]] H (is (.int .i64 (codeC q k l)) H) := by
  refine ACalls.wf (by kernel_rfl) fun hs => acalls_up rfl (acalls_of_awp [.tmp 2] Tryz.func197 (by kernel_rfl) rfl rfl (Nat.le_of_ble_eq_true rfl) (by kernel_rfl) ?_)
  have hone := hv.one
  have up : Up H.next H (H.push ⟨26, true, [.int .i64 q, v]⟩) := (Up.refl _ H).push (Nat.le_refl _) _
  have e1 : (H.push ⟨26, true, [.int .i64 q, v]⟩).row H.next = some ⟨26, true, [.int .i64 q, v]⟩ := by rw [AH.push_row, if_pos rfl]
  try simp (disch := first | omega | (simp only [L3] <;> omega)) only [Sall,evalOp,init,binA_s,binE,binI,unE,convE,okNil,builtE,gv,TD.isAgg,resV,↓reduceIte,Nat.reduceEqDiff,reduceCtorEq,Nat.reduceAdd,Nat.reduceMul,Nat.reduceLeDiff,quietOp,blindOp,Int.reduceEq,Int.reduceLT,Int.reduceLE,Nat.reduceLT,tiA, hone]
  revert up e1
  generalize H.push ⟨26, true, [.int .i64 q, v]⟩ = H1
  intro up e1
  have hv1 := hv.same (up.le hs).row
  refine (l01Is_c q v k l H1 hv1 hk).to ?_
  unfold codeC
  by_cases hb : schedB q k l = true
  · obtain ⟨h2, _, _⟩ := schedB_at hb
    obtain ⟨n, rfl⟩ : ∃ n : Nat, q = n := ⟨q.toNat, by omega⟩
    rw [if_pos hb, Int.toNat_natCast]
    have em : Int.tmod (n : Int) 2 = ((n % 2 : Nat) : Int) := rfl
    have two : ((2 : Int) = 0) = False := by simp
    by_cases hodd : n % 2 = 1
    · have e0 : ((((n % 2 : Nat) : Int)) == 1) = true := by rw [hodd]; rfl
      try simp (disch := first | omega | (simp only [L3] <;> omega)) only [Sall,evalOp,init,binA_s,binE,binI,unE,convE,okNil,builtE,gv,TD.isAgg,resV,↓reduceIte,Nat.reduceEqDiff,reduceCtorEq,Nat.reduceAdd,Nat.reduceMul,Nat.reduceLeDiff,quietOp,blindOp,Int.reduceEq,Int.reduceLT,Int.reduceLE,Nat.reduceLT,tiA, hb, Bool.not_true, e1, em, two, e0]
      rw [decide_eq_true hodd]
      exact ⟨rfl, up⟩
    · have e0 : ((((n % 2 : Nat) : Int)) == 1) = false := by rw [show n % 2 = 0 by omega]; rfl
      try simp (disch := first | omega | (simp only [L3] <;> omega)) only [Sall,evalOp,init,binA_s,binE,binI,unE,convE,okNil,builtE,gv,TD.isAgg,resV,↓reduceIte,Nat.reduceEqDiff,reduceCtorEq,Nat.reduceAdd,Nat.reduceMul,Nat.reduceLeDiff,quietOp,blindOp,Int.reduceEq,Int.reduceLT,Int.reduceLE,Nat.reduceLT,tiA, hb, Bool.not_true, e1, em, two, e0]
      refine (l01Robin_c n v k l H1 hb hv1 hk).to ?_
      rw [decide_eq_false hodd]
      cases hr : robinB n k l with
      | true =>
        try simp (disch := first | omega | (simp only [L3] <;> omega)) only [Sall,evalOp,init,binA_s,binE,binI,unE,convE,okNil,builtE,gv,TD.isAgg,resV,↓reduceIte,Nat.reduceEqDiff,reduceCtorEq,Nat.reduceAdd,Nat.reduceMul,Nat.reduceLeDiff,quietOp,blindOp,Int.reduceEq,Int.reduceLT,Int.reduceLE,Nat.reduceLT,tiA, Bool.not_true]
        exact ⟨rfl, up⟩
      | false =>
        try simp (disch := first | omega | (simp only [L3] <;> omega)) only [Sall,evalOp,init,binA_s,binE,binI,unE,convE,okNil,builtE,gv,TD.isAgg,resV,↓reduceIte,Nat.reduceEqDiff,reduceCtorEq,Nat.reduceAdd,Nat.reduceMul,Nat.reduceLeDiff,quietOp,blindOp,Int.reduceEq,Int.reduceLT,Int.reduceLE,Nat.reduceLT,tiA, Bool.not_false]
        exact ⟨rfl, up⟩
  · have hb' : schedB q k l = false := by simpa using hb
    try simp (disch := first | omega | (simp only [L3] <;> omega)) only [Sall,evalOp,init,binA_s,binE,binI,unE,convE,okNil,builtE,gv,TD.isAgg,resV,↓reduceIte,Nat.reduceEqDiff,reduceCtorEq,Nat.reduceAdd,Nat.reduceMul,Nat.reduceLeDiff,quietOp,blindOp,Int.reduceEq,Int.reduceLT,Int.reduceLE,Nat.reduceLT,tiA, hb', Bool.not_false]
    exact up
end Go.Proofs.YtpienljnoaendaaGreat.A
end

section
set_option maxRecDepth 100000
set_option maxHeartbeats 2000000
namespace Go.Proofs.YtpienljnoaendaaGreat.A
open Go Go.Abs Go.RowKit
theorem carry_c (n : Nat) (v : Value) (k : Nat) (l : List Int) (H : AH) (hb : schedB n k l = true) (hv : Rd 14 H v k l) (hk : k ≤ 4294967296) :
    ACalls Tryz.prog 203 [.agg #[.int .i64 n, v]] H (fun u H' => Up H.next H H' ∧ Fr2 1 33 2 H.next H'.next H' u (carM n k l k)) := by
  refine ACalls.wf (by kernel_rfl) fun hs => acalls_of_awp [.tmp 2] Tryz.func203 (by kernel_rfl) rfl rfl (Nat.le_of_ble_eq_true rfl) (by kernel_rfl) ?_
  obtain ⟨hn, hk40, hrounds⟩ := schedB_at hb
  have hone := hv.one
  have up : Up H.next H (H.push ⟨26, true, [.int .i64 n, v]⟩) := (Up.refl _ H).push (Nat.le_refl _) _
  have e1 : (H.push ⟨26, true, [.int .i64 n, v]⟩).row H.next = some ⟨26, true, [.int .i64 n, v]⟩ := by rw [AH.push_row, if_pos rfl]
  have n1 : (H.push ⟨26, true, [.int .i64 n, v]⟩).next = H.next + 1 := rfl
  try simp (disch := first | omega | (simp only [L3] <;> omega)) only [Sall,evalOp,init,binA_s,binE,binI,unE,convE,okNil,builtE,gv,TD.isAgg,resV,↓reduceIte,Nat.reduceEqDiff,reduceCtorEq,Nat.reduceAdd,Nat.reduceMul,Nat.reduceLeDiff,quietOp,blindOp,Int.reduceEq,Int.reduceLT,Int.reduceLE,Nat.reduceLT,tiA, hone]
  revert up e1 n1
  generalize H.push ⟨26, true, [.int .i64 n, v]⟩ = H1
  intro up e1 n1
  refine (square_c n (by omega) H1).sc.mono ?_
  rintro u H2 ⟨⟨up2, hf⟩, sc2⟩
  have n2 := up2.next
  have u2 : Up H.next H H2 := up.trans up2 (by omega)
  have r2 : H2.row H.next = some ⟨26, true, [.int .i64 n, v]⟩ := by rw [up2.row _ (by omega), e1]
  refine Holds.mp ?_
  try simp (disch := first | omega | (simp only [L3] <;> omega)) only [Sall,evalOp,init,binA_s,binE,binI,unE,convE,okNil,builtE,gv,TD.isAgg,resV,↓reduceIte,Nat.reduceEqDiff,reduceCtorEq,Nat.reduceAdd,Nat.reduceMul,Nat.reduceLeDiff,quietOp,blindOp,Int.reduceEq,Int.reduceLT,Int.reduceLE,Nat.reduceLT,tiA, r2, builtE, hv.len]
  refine awp_loop (fun m t H' => ∃ (a : Nat), m = k - a ∧ a ≤ k ∧ t 14 = .int .i64 a ∧ t 13 = .int .i64 k ∧ t 12 = v ∧ t 3 = u ∧ t 1 = .pointer (some ⟨H.next, 0, none⟩) ∧ Up H.next H H' ∧ H2.next ≤ H'.next ∧ Sc H' ∧ H'.row H.next = some ⟨26, true, [.int .i64 n, v]⟩ ∧ Fr2 1 33 2 H1.next H2.next H' u (carM n k l a)) k ?_ ?_
  · refine ⟨0, by omega, by omega, ?_⟩
    try simp (disch := first | omega | (simp only [L3] <;> omega)) only [Sall,evalOp,init,binA_s,binE,binI,unE,convE,okNil,builtE,gv,TD.isAgg,resV,↓reduceIte,Nat.reduceEqDiff,reduceCtorEq,Nat.reduceAdd,Nat.reduceMul,Nat.reduceLeDiff,quietOp,blindOp,Int.reduceEq,Int.reduceLT,Int.reduceLE,Nat.reduceLT,tiA, Int.natCast_zero, carM_zero]
    exact ⟨u2, sc2, r2, hf⟩
  · rintro m t H' ⟨a, hm, hak, h14, h13, h12, h3, h1, hup, hnx, hsc, hr1, hf'⟩
    try simp (disch := first | omega | (simp only [L3] <;> omega)) only [Sall,evalOp,init,binA_s,binE,binI,unE,convE,okNil,builtE,gv,TD.isAgg,resV,↓reduceIte,Nat.reduceEqDiff,reduceCtorEq,Nat.reduceAdd,Nat.reduceMul,Nat.reduceLeDiff,quietOp,blindOp,Int.reduceEq,Int.reduceLT,Int.reduceLE,Nat.reduceLT,tiA, h14, h13]
    refine condC_dec (fun h => ?_) (fun h => ?_)
    · obtain ⟨i', o', u', c', r', rfl, hrB', hc', hs', hg'⟩ := hv.get (by omega)
      have hr' : H'.row i' = some r' := by rw [hup.row _ (hs _ _ hrB'), hrB']
      have hrl : (rnd l a).length = 14 := rnd_length l a k hv.1 (by omega)
      obtain ⟨bb, ebb⟩ : ∃ bb, bb = (a + 1) % k := ⟨_, rfl⟩
      have hb2 : bb < k := by rw [ebb]; exact Nat.mod_lt _ (by omega)
      have hrm : (rnd l bb).length = 14 := rnd_length l _ k hv.1 hb2
      have hiB := hs _ _ hrB'
      have hup1 := hup.next
      have ne1 : ¬ i' = H'.next := by omega
      have ne2 : ¬ H.next = H'.next := by omega
      have hrl2 : ((l.drop (a * 14)).take 14).length = 14 := hrl
      have hrm2 : ((l.drop (bb * 14)).take 14).length = 14 := hrm
      have e1 : ((a : Int) + 1) = ((a + 1 : Nat) : Int) := rfl
      have em : Int.tmod ((a + 1 : Nat) : Int) (k : Int) = (bb : Int) := by rw [ebb]; rfl
      have hk0 : ((k : Int) = 0) = False := by simp; omega
      try simp (disch := first | omega | (simp only [L3] <;> omega)) only [Sall,evalOp,init,binA_s,binE,binI,unE,convE,okNil,builtE,gv,TD.isAgg,resV,↓reduceIte,Nat.reduceEqDiff,reduceCtorEq,Nat.reduceAdd,Nat.reduceMul,Nat.reduceLeDiff,quietOp,blindOp,Int.reduceEq,Int.reduceLT,Int.reduceLE,Nat.reduceLT,tiA, h14, h12, hr', hg', push_setCells, hrl2, ints_length, ne1, ne2, hr1, h1]
      (repeat refine And.intro (by omega) ?_)
      obtain ⟨H3, e3⟩ : ∃ H3, H3 = H'.push ⟨69, true, ints ((l.drop (a * 14)).take 14)⟩ := ⟨_, rfl⟩
      have s3 : ∀ i, i < H'.next → H3.row i = H'.row i := fun i hi => by rw [e3, AH.push_row, if_neg (by omega)]
      have r3 : H3.row H'.next = some ⟨69, true, ints (rnd l a)⟩ := by rw [e3, AH.push_row, if_pos rfl]; rfl
      have n3 : H3.next = H'.next + 1 := by rw [e3]; rfl
      have sc3 : Sc H3 := by rw [e3]; exact hsc.push _
      rw [← e3]
      clear e3
      have hr3 : H3.row H.next = some ⟨26, true, [.int .i64 n, .slice (some ⟨i', o', u'⟩) k c']⟩ := by rw [s3 _ (by omega), hr1]
      have hr3' : H3.row i' = some r' := by rw [s3 _ (by omega), hr']
      refine draw_id (by kernel_rfl) (by kernel_rfl) ?_
      try simp (disch := first | omega | (simp only [L3] <;> omega)) only [Sall,evalOp,init,binA_s,binE,binI,unE,convE,okNil,builtE,gv,TD.isAgg,resV,↓reduceIte,Nat.reduceEqDiff,reduceCtorEq,Nat.reduceAdd,Nat.reduceMul,Nat.reduceLeDiff,quietOp,blindOp,Int.reduceEq,Int.reduceLT,Int.reduceLE,Nat.reduceLT,tiA, h14, h12, h1, hr3, hr3', builtE, hg', e1, em, hk0, w64]
      (repeat refine And.intro (by omega) ?_)
      refine ⟨.inr (.inr (sc3.le _)), ?_⟩
      have ne4 : ¬ H.next = H3.next := by omega
      try simp (disch := first | omega | (simp only [L3] <;> omega)) only [Sall,evalOp,init,binA_s,binE,binI,unE,convE,okNil,builtE,gv,TD.isAgg,resV,↓reduceIte,Nat.reduceEqDiff,reduceCtorEq,Nat.reduceAdd,Nat.reduceMul,Nat.reduceLeDiff,quietOp,blindOp,Int.reduceEq,Int.reduceLT,Int.reduceLE,Nat.reduceLT,tiA, push_setCells, hrm2, ne4]
      refine ⟨.inr (.inl (by kernel_rfl)), ?_⟩
      obtain ⟨H4, e4⟩ : ∃ H4, H4 = H3.push ⟨69, true, ints ((l.drop (bb * 14)).take 14)⟩ := ⟨_, rfl⟩
      have s4 : ∀ i, i < H3.next → H4.row i = H3.row i := fun i hi => by rw [e4, AH.push_row, if_neg (by omega)]
      have r4 : H4.row H3.next = some ⟨69, true, ints (rnd l bb)⟩ := by rw [e4, AH.push_row, if_pos rfl]; rfl
      have n4 : H4.next = H3.next + 1 := by rw [e4]; rfl
      have sc4 : Sc H4 := by rw [e4]; exact sc3.push _
      rw [← e4]
      clear e4
      have hr4 : H4.row H.next = some ⟨26, true, [.int .i64 n, .slice (some ⟨i', o', u'⟩) k c']⟩ := by rw [s4 _ (by omega), hr3]
      have hround := hrounds a (by omega)
      have hround2 := hrounds bb (by omega)
      have hMq := carM_sq (rnd_toNat hb) a (by omega)
      try simp (disch := first | omega | (simp only [L3] <;> omega)) only [Sall,evalOp,init,binA_s,binE,binI,unE,convE,okNil,builtE,gv,TD.isAgg,resV,↓reduceIte,Nat.reduceEqDiff,reduceCtorEq,Nat.reduceAdd,Nat.reduceMul,Nat.reduceLeDiff,quietOp,blindOp,Int.reduceEq,Int.reduceLT,Int.reduceLE,Nat.reduceLT,tiA, h1, hr4]
      refine awp_loop (fun z t H5 => ∃ c : Nat, z = n - c ∧ c ≤ n ∧ t 31 = .int .i64 c ∧ t 30 = .int .i64 n ∧ t 5 = .pointer (some ⟨H'.next, 0, none⟩) ∧ t 6 = .pointer (some ⟨H3.next, 0, none⟩) ∧ t 14 = .int .i64 a ∧ t 13 = .int .i64 k ∧ t 12 = .slice (some ⟨i', o', u'⟩) k c' ∧ t 3 = u ∧ t 1 = .pointer (some ⟨H.next, 0, none⟩) ∧ Up H.next H H5 ∧ H4.next ≤ H5.next ∧ Sc H5 ∧ H5.row H.next = some ⟨26, true, [.int .i64 n, .slice (some ⟨i', o', u'⟩) k c']⟩ ∧ H5.row H'.next = some ⟨69, true, ints (rnd l a)⟩ ∧ H5.row H3.next = some ⟨69, true, ints (rnd l bb)⟩ ∧ Fr2 1 33 2 H1.next H2.next H5 u (carT n k l a c (carM n k l a))) n ?_ ?_
      · refine ⟨0, by omega, by omega, ?_⟩
        try simp (disch := first | omega | (simp only [L3] <;> omega)) only [Sall,evalOp,init,binA_s,binE,binI,unE,convE,okNil,builtE,gv,TD.isAgg,resV,↓reduceIte,Nat.reduceEqDiff,reduceCtorEq,Nat.reduceAdd,Nat.reduceMul,Nat.reduceLeDiff,quietOp,blindOp,Int.reduceEq,Int.reduceLT,Int.reduceLE,Nat.reduceLT,tiA, Int.natCast_zero, h14, h13, h12, h3, h1, carT_zero]
        refine ⟨⟨by omega, fun i hi => by rw [s4 i (by omega), s3 i (by omega), hup.row i hi]⟩, sc4, hr4, by rw [s4 _ (by omega), r3], r4, ?_⟩
        exact hf'.same fun i _ hi => by rw [s4 i (by omega), s3 i (by omega)]
      · rintro z t H5 ⟨c, hz, hcn, h31, h30, h5, h6, h14, h13, h12, h3, h1, hup5, hn5, sc5, hr5, ra5, rb5, hf5⟩
        try simp (disch := first | omega | (simp only [L3] <;> omega)) only [Sall,evalOp,init,binA_s,binE,binI,unE,convE,okNil,builtE,gv,TD.isAgg,resV,↓reduceIte,Nat.reduceEqDiff,reduceCtorEq,Nat.reduceAdd,Nat.reduceMul,Nat.reduceLeDiff,quietOp,blindOp,Int.reduceEq,Int.reduceLT,Int.reduceLE,Nat.reduceLT,tiA, h31, h30]
        refine condC_dec (fun hh => ?_) (fun hh => ?_)
        · obtain ⟨_, ha4, ha5, _⟩ := roundB_at hround (a := c) (by omega)
          obtain ⟨_, hb4, hb5, _⟩ := roundB_at hround2 (a := c) (by omega)
          have hsq := carT_sq (k := k) hMq (rnd_toNat hb a (by omega)) c hcn
          have hMl := hsq.1
          have hj : ((rnd l a).getD c 0).toNat < n := by omega
          have hrow := hsq.2 _ hj
          obtain ⟨mi, mvs, i6, rfl, q1, q2, q3, q4, q5, q6, q7, q8, q9⟩ := hf5.setF (j := ((rnd l a).getD c 0).toNat) (by omega) (by omega)
          have ne6 : ¬ H'.next = i6 := by omega
          have ne7 : ¬ H.next = i6 := by omega
          have ne8 : ¬ H3.next = i6 := by omega
          rw [hrow] at q4
          try simp (disch := first | omega | (simp only [L3] <;> omega)) only [Sall,evalOp,init,binA_s,binE,binI,unE,convE,okNil,builtE,gv,TD.isAgg,resV,↓reduceIte,Nat.reduceEqDiff,reduceCtorEq,Nat.reduceAdd,Nat.reduceMul,Nat.reduceLeDiff,quietOp,blindOp,Int.reduceEq,Int.reduceLT,Int.reduceLE,Nat.reduceLT,tiA, h31]
          refine draw_id (by kernel_rfl) (by kernel_rfl) ?_
          try simp (disch := first | omega | (simp only [L3] <;> omega)) only [Sall,evalOp,init,binA_s,binE,binI,unE,convE,okNil,builtE,gv,TD.isAgg,resV,↓reduceIte,Nat.reduceEqDiff,reduceCtorEq,Nat.reduceAdd,Nat.reduceMul,Nat.reduceLeDiff,quietOp,blindOp,Int.reduceEq,Int.reduceLT,Int.reduceLE,Nat.reduceLT,tiA, h31, h5, h6, ra5, rb5, ints_get?, h3, q3, q4, q8, ints_set]
          rw [hMl]
          (repeat refine And.intro (by omega) ?_)
          refine ⟨.inr (.inl (by kernel_rfl)), ?_⟩
          try simp (disch := first | omega | (simp only [L3] <;> omega)) only [Sall,evalOp,init,binA_s,binE,binI,unE,convE,okNil,builtE,gv,TD.isAgg,resV,↓reduceIte,Nat.reduceEqDiff,reduceCtorEq,Nat.reduceAdd,Nat.reduceMul,Nat.reduceLeDiff,quietOp,blindOp,Int.reduceEq,Int.reduceLT,Int.reduceLE,Nat.reduceLT,tiA, h31, h30, h5, h6, h14, h13, h12, h3, h1, w64, ne6, ne7, ne8, hr5, ra5, rb5]
          refine ⟨n - (c + 1), by omega, c + 1, rfl, by omega, rfl, hup5.set (by omega) _, hn5, sc5.set _ _, ?_⟩
          have q10 := q9 (incR ((carT n k l a c (carM n k l a)).getD ((rnd l a).getD c 0).toNat []) ((rnd l bb).getD c 0)) (incR_length _ _)
          rw [hMl] at q10
          rw [carT_succ, ← ebb]
          exact q10
        · try simp (disch := first | omega | (simp only [L3] <;> omega)) only [Sall,evalOp,init,binA_s,binE,binI,unE,convE,okNil,builtE,gv,TD.isAgg,resV,↓reduceIte,Nat.reduceEqDiff,reduceCtorEq,Nat.reduceAdd,Nat.reduceMul,Nat.reduceLeDiff,quietOp,blindOp,Int.reduceEq,Int.reduceLT,Int.reduceLE,Nat.reduceLT,tiA, h14, h13, h12, h3, h1, w64]
          have hc : c = n := by omega
          subst hc
          refine ⟨k - (a + 1), by omega, a + 1, rfl, by omega, rfl, hup5, by omega, sc5, hr5, ?_⟩
          rw [carM_succ]; exact hf5
    · have ha : a = k := by omega
      subst ha
      try simp (disch := first | omega | (simp only [L3] <;> omega)) only [Sall,evalOp,init,binA_s,binE,binI,unE,convE,okNil,builtE,gv,TD.isAgg,resV,↓reduceIte,Nat.reduceEqDiff,reduceCtorEq,Nat.reduceAdd,Nat.reduceMul,Nat.reduceLeDiff,quietOp,blindOp,Int.reduceEq,Int.reduceLT,Int.reduceLE,Nat.reduceLT,tiA, h3]
      exact ⟨hup, hf'.wide (by omega) hnx⟩
theorem l09Matrix_c (n : Nat) (v : Value) (k : Nat) (l : List Int) (H : AH) (hb : schedB n k l = true) (hv : Rd 14 H v k l) (hk : k ≤ 4294967296) :
    ACalls Tryz.prog 200 [.agg #[.int .i64 n, v]] H (fun u H' => Up H.next H H' ∧ Fr2 1 33 2 H.next H'.next H' u (carM n k l k)) := by
  refine ACalls.wf (by kernel_rfl) fun hs => acalls_of_awp [.tmp 2] Tryz.func200 (by kernel_rfl) rfl rfl (Nat.le_of_ble_eq_true rfl) (by kernel_rfl) ?_
  obtain ⟨hn, hk40, hrounds⟩ := schedB_at hb
  have hone := hv.one
  have up : Up H.next H (H.push ⟨26, true, [.int .i64 n, v]⟩) := (Up.refl _ H).push (Nat.le_refl _) _
  have e1 : (H.push ⟨26, true, [.int .i64 n, v]⟩).row H.next = some ⟨26, true, [.int .i64 n, v]⟩ := by rw [AH.push_row, if_pos rfl]
  have n1 : (H.push ⟨26, true, [.int .i64 n, v]⟩).next = H.next + 1 := rfl
  have sc1 : Sc (H.push ⟨26, true, [.int .i64 n, v]⟩) := Sc.push hs _
  try simp (disch := first | omega | (simp only [L3] <;> omega)) only [Sall,evalOp,init,binA_s,binE,binI,unE,convE,okNil,builtE,gv,TD.isAgg,resV,↓reduceIte,Nat.reduceEqDiff,reduceCtorEq,Nat.reduceAdd,Nat.reduceMul,Nat.reduceLeDiff,quietOp,blindOp,Int.reduceEq,Int.reduceLT,Int.reduceLE,Nat.reduceLT,tiA, hone]
  revert up e1 n1 sc1
  generalize H.push ⟨26, true, [.int .i64 n, v]⟩ = H1
  intro up e1 n1 sc1
  refine draw_in [1, 2, 3, 0, 4, 5] (by kernel_rfl) (by kernel_rfl) rfl ?_
  try simp (disch := first | omega | (simp only [L3] <;> omega)) only [Sall,evalOp,init,binA_s,binE,binI,unE,convE,okNil,builtE,gv,TD.isAgg,resV,↓reduceIte,Nat.reduceEqDiff,reduceCtorEq,Nat.reduceAdd,Nat.reduceMul,Nat.reduceLeDiff,quietOp,blindOp,Int.reduceEq,Int.reduceLT,Int.reduceLE,Nat.reduceLT,tiA, e1, builtE, hv.len, zeros_zero]
  refine ⟨.inr (.inr (sc1.le _)), ?_⟩
  refine awp_loop (fun m t H' => ∃ (a : Nat) (u : Value) (lo hi : Nat), m = n - a ∧ a ≤ n ∧ t 5 = .int .i64 a ∧ t 4 = .int .i64 k ∧ t 3 = u ∧ t 1 = .pointer (some ⟨H.next, 0, none⟩) ∧ Up H.next H H' ∧ H'.row H.next = some ⟨26, true, [.int .i64 n, v]⟩ ∧ H.next < lo ∧ lo ≤ hi ∧ hi ≤ H'.next ∧ Fr2 1 33 2 lo hi H' u (List.replicate a (List.replicate n 0))) n ?_ ?_
  · refine ⟨0, .slice (some ⟨H1.next, 0, some 1⟩) 0 0, H1.next, H1.next + 1, by omega, by omega, ?_⟩
    try simp (disch := first | omega | (simp only [L3] <;> omega)) only [Sall,evalOp,init,binA_s,binE,binI,unE,convE,okNil,builtE,gv,TD.isAgg,resV,↓reduceIte,Nat.reduceEqDiff,reduceCtorEq,Nat.reduceAdd,Nat.reduceMul,Nat.reduceLeDiff,quietOp,blindOp,Int.reduceEq,Int.reduceLT,Int.reduceLE,Nat.reduceLT,tiA, Int.natCast_zero]
    refine ⟨up.push (by omega) _, by rw [if_neg (by omega), e1], ?_⟩
    (repeat refine And.intro (by omega) ?_)
    exact .inr ⟨H1.next, [], fun _ => H1.next + 1, by omega, by omega, rfl, by rw [AH.push_row, if_pos rfl], rfl, by dsimp only; omega, by dsimp only; omega, .inl (by dsimp only; omega), fun _ => Nat.le_refl _, fun j hj => by simp at hj⟩
  · rintro m t H' ⟨a, u, lo, hi, hm, han, h5, h4, h3, h1, hup, hr1, hlo, hlh, hhi, hfr⟩
    have hup1 := hup.next
    try simp (disch := first | omega | (simp only [L3] <;> omega)) only [Sall,evalOp,init,binA_s,binE,binI,unE,convE,okNil,builtE,gv,TD.isAgg,resV,↓reduceIte,Nat.reduceEqDiff,reduceCtorEq,Nat.reduceAdd,Nat.reduceMul,Nat.reduceLeDiff,quietOp,blindOp,Int.reduceEq,Int.reduceLT,Int.reduceLE,Nat.reduceLT,tiA, h5, h1, hr1]
    refine condC_dec (fun h => ?_) (fun h => ?_)
    · have zz : zeros 1 [.slice none 0 0] = [.slice none 0 0] := rfl
      have ne1 : ¬ H'.next = H'.next + 1 := by omega
      try simp (disch := first | omega | (simp only [L3] <;> omega)) only [Sall,evalOp,init,binA_s,binE,binI,unE,convE,okNil,builtE,gv,TD.isAgg,resV,↓reduceIte,Nat.reduceEqDiff,reduceCtorEq,Nat.reduceAdd,Nat.reduceMul,Nat.reduceLeDiff,quietOp,blindOp,Int.reduceEq,Int.reduceLT,Int.reduceLE,Nat.reduceLT,tiA, h3, h1, hr1, zeros_int0, zz, slCells]
      (repeat refine And.intro (by omega) ?_)
      obtain ⟨H2, e2⟩ : ∃ H2, H2 = (H'.push ⟨2, true, ints (List.replicate n 0)⟩).push ⟨33, true, [.slice (some ⟨H'.next, 0, some 1⟩) n n]⟩ := ⟨_, rfl⟩
      have n2 : H2.next = H'.next + 2 := by rw [e2]; rfl
      have s2 : ∀ i, i < H'.next → H2.row i = H'.row i := fun i hi => by rw [e2, AH.push_row, if_neg (by rw [AH.push_next]; omega), AH.push_row, if_neg (by omega)]
      have x2 : H2.row H'.next = some ⟨2, true, ints (List.replicate n 0)⟩ := by rw [e2, AH.push_row, if_neg (by rw [AH.push_next]; omega), AH.push_row, if_pos rfl]
      rw [← e2]
      clear e2
      refine appE_fr2 (hfr.same fun i _ hi => s2 i (by omega)) (m := n) (l := List.replicate n 0) ⟨by simp, .inr ⟨H'.next, by omega, by omega, rfl, x2⟩⟩ rfl (by decide) (by rw [List.length_replicate]; omega) hlh (by omega) ?_
      intro v' H3 n3 s3 f3
      try simp (disch := first | omega | (simp only [L3] <;> omega)) only [Sall,evalOp,init,binA_s,binE,binI,unE,convE,okNil,builtE,gv,TD.isAgg,resV,↓reduceIte,Nat.reduceEqDiff,reduceCtorEq,Nat.reduceAdd,Nat.reduceMul,Nat.reduceLeDiff,quietOp,blindOp,Int.reduceEq,Int.reduceLT,Int.reduceLE,Nat.reduceLT,tiA, h5, h4, h1, w64]
      refine ⟨n - (a + 1), by omega, a + 1, v', lo, H2.next + 1, rfl, by omega, rfl, rfl, ⟨by omega, fun i hi => ?_⟩, ?_, by omega, by omega, by omega, ?_⟩
      · rw [s3 i (by omega) (by omega), s2 i (by omega), hup.row i hi]
      · rw [s3 _ (by omega) (by omega), s2 _ (by omega), hr1]
      · rw [replicate_snoc]; exact f3
    · have ha : a = n := by omega
      subst ha
      try simp (disch := first | omega | (simp only [L3] <;> omega)) only [Sall,evalOp,init,binA_s,binE,binI,unE,convE,okNil,builtE,gv,TD.isAgg,resV,↓reduceIte,Nat.reduceEqDiff,reduceCtorEq,Nat.reduceAdd,Nat.reduceMul,Nat.reduceLeDiff,quietOp,blindOp,Int.reduceEq,Int.reduceLT,Int.reduceLE,Nat.reduceLT,tiA, h4, h3, h1]
      refine awp_loop (fun m t H2 => ∃ (i : Nat), m = k - i ∧ i ≤ k ∧ t 6 = .int .i64 i ∧ t 4 = .int .i64 k ∧ t 3 = u ∧ t 1 = .pointer (some ⟨H.next, 0, none⟩) ∧ Up H.next H H2 ∧ hi ≤ H2.next ∧ H2.row H.next = some ⟨26, true, [.int .i64 a, v]⟩ ∧ Fr2 1 33 2 lo hi H2 u (carM a k l i)) k ?_ ?_
      · refine ⟨0, by omega, by omega, ?_⟩
        try simp (disch := first | omega | (simp only [L3] <;> omega)) only [Sall,evalOp,init,binA_s,binE,binI,unE,convE,okNil,builtE,gv,TD.isAgg,resV,↓reduceIte,Nat.reduceEqDiff,reduceCtorEq,Nat.reduceAdd,Nat.reduceMul,Nat.reduceLeDiff,quietOp,blindOp,Int.reduceEq,Int.reduceLT,Int.reduceLE,Nat.reduceLT,tiA, Int.natCast_zero, carM_zero, h4, h3, h1]
        exact ⟨hup, hhi, hr1, hfr⟩
      · rintro m t H2 ⟨i, hm, hik, h6, h4, h3, h1, hup2, hn2, hr2, hf2⟩
        try simp (disch := first | omega | (simp only [L3] <;> omega)) only [Sall,evalOp,init,binA_s,binE,binI,unE,convE,okNil,builtE,gv,TD.isAgg,resV,↓reduceIte,Nat.reduceEqDiff,reduceCtorEq,Nat.reduceAdd,Nat.reduceMul,Nat.reduceLeDiff,quietOp,blindOp,Int.reduceEq,Int.reduceLT,Int.reduceLE,Nat.reduceLT,tiA, h6, h4]
        refine condC_dec (fun hh => ?_) (fun hh => ?_)
        · obtain ⟨i', o', u', c', r', rfl, hrB', hc', hs', hg'⟩ := hv.get (by omega)
          have hiB := hs _ _ hrB'
          obtain ⟨bb, ebb⟩ : ∃ bb, bb = (i + 1) % k := ⟨_, rfl⟩
          have hb2 : bb < k := by rw [ebb]; exact Nat.mod_lt _ (by omega)
          have e1' : ((i : Int) + 1) = ((i + 1 : Nat) : Int) := rfl
          have em : Int.tmod ((i + 1 : Nat) : Int) (k : Int) = (bb : Int) := by rw [ebb]; rfl
          have hk0 : ((k : Int) = 0) = False := by simp; omega
          have hround := hrounds i (by omega)
          have hround2 := hrounds bb (by omega)
          have hMq := carM_sq (rnd_toNat hb) i (by omega)
          try simp (disch := first | omega | (simp only [L3] <;> omega)) only [Sall,evalOp,init,binA_s,binE,binI,unE,convE,okNil,builtE,gv,TD.isAgg,resV,↓reduceIte,Nat.reduceEqDiff,reduceCtorEq,Nat.reduceAdd,Nat.reduceMul,Nat.reduceLeDiff,quietOp,blindOp,Int.reduceEq,Int.reduceLT,Int.reduceLE,Nat.reduceLT,tiA, h6, h4, h3, h1]
          refine awp_loop (fun z t H5 => ∃ c : Nat, z = a - c ∧ c ≤ a ∧ t 7 = .int .i64 c ∧ t 6 = .int .i64 i ∧ t 4 = .int .i64 k ∧ t 3 = u ∧ t 1 = .pointer (some ⟨H.next, 0, none⟩) ∧ Up H.next H H5 ∧ hi ≤ H5.next ∧ H5.row H.next = some ⟨26, true, [.int .i64 a, .slice (some ⟨i', o', u'⟩) k c']⟩ ∧ Fr2 1 33 2 lo hi H5 u (carT a k l i c (carM a k l i))) a ?_ ?_
          · refine ⟨0, by omega, by omega, ?_⟩
            try simp (disch := first | omega | (simp only [L3] <;> omega)) only [Sall,evalOp,init,binA_s,binE,binI,unE,convE,okNil,builtE,gv,TD.isAgg,resV,↓reduceIte,Nat.reduceEqDiff,reduceCtorEq,Nat.reduceAdd,Nat.reduceMul,Nat.reduceLeDiff,quietOp,blindOp,Int.reduceEq,Int.reduceLT,Int.reduceLE,Nat.reduceLT,tiA, Int.natCast_zero, h6, h4, h3, h1, carT_zero]
            exact ⟨hup2, hn2, hr2, hf2⟩
          · rintro z t H5 ⟨c, hz, hcn, h7, h6, h4, h3, h1, hup5, hn5, hr5, hf5⟩
            try simp (disch := first | omega | (simp only [L3] <;> omega)) only [Sall,evalOp,init,binA_s,binE,binI,unE,convE,okNil,builtE,gv,TD.isAgg,resV,↓reduceIte,Nat.reduceEqDiff,reduceCtorEq,Nat.reduceAdd,Nat.reduceMul,Nat.reduceLeDiff,quietOp,blindOp,Int.reduceEq,Int.reduceLT,Int.reduceLE,Nat.reduceLT,tiA, h7, h1, hr5]
            refine condC_dec (fun hh => ?_) (fun hh => ?_)
            · have hr' : H5.row i' = some r' := by rw [hup5.row _ hiB, hrB']
              obtain ⟨_, ha4, ha5, _⟩ := roundB_at hround (a := c) (by omega)
              obtain ⟨_, hb4, hb5, _⟩ := roundB_at hround2 (a := c) (by omega)
              have cell : ∀ j, j < k → r'.cells[o' + j * 14 + c]? = some (.int .i64 ((rnd l j).getD c 0)) := by
                intro j hj
                have h1 := hs' (j * 14 + c) (by omega)
                rw [← Nat.add_assoc] at h1
                rw [h1]
                congr 2
                unfold rnd
                rw [List.getD_eq_getElem?_getD, List.getD_eq_getElem?_getD, List.getElem?_take, if_pos (by omega), List.getElem?_drop]
              have hc1 := cell i (by omega)
              have hc2 := cell bb hb2
              have hsq := carT_sq (k := k) hMq (rnd_toNat hb i (by omega)) c hcn
              have hMl := hsq.1
              have hj : ((rnd l i).getD c 0).toNat < a := by omega
              have hrow := hsq.2 _ hj
              obtain ⟨mi, mvs, i6, rfl, q1, q2, q3, q4, q5, q6, q7, q8, q9⟩ := hf5.setF (j := ((rnd l i).getD c 0).toNat) (by omega) (by omega)
              have ne7 : ¬ H.next = i6 := by omega
              rw [hrow] at q4
              try simp (disch := first | omega | (simp only [L3] <;> omega)) only [Sall,evalOp,init,binA_s,binE,binI,unE,convE,okNil,builtE,gv,TD.isAgg,resV,↓reduceIte,Nat.reduceEqDiff,reduceCtorEq,Nat.reduceAdd,Nat.reduceMul,Nat.reduceLeDiff,quietOp,blindOp,Int.reduceEq,Int.reduceLT,Int.reduceLE,Nat.reduceLT,tiA, h7, h6, h4, h3, h1, hr5, hr', hc1, q3, q4]
              rw [hMl]
              (repeat refine And.intro (by omega) ?_)
              refine draw_id (by kernel_rfl) (by kernel_rfl) ?_
              try simp (disch := first | omega | (simp only [L3] <;> omega)) only [Sall,evalOp,init,binA_s,binE,binI,unE,convE,okNil,builtE,gv,TD.isAgg,resV,↓reduceIte,Nat.reduceEqDiff,reduceCtorEq,Nat.reduceAdd,Nat.reduceMul,Nat.reduceLeDiff,quietOp,blindOp,Int.reduceEq,Int.reduceLT,Int.reduceLE,Nat.reduceLT,tiA, h7, h6, h4, h3, h1, hr5, hr', hc2, q8, ints_get?, ints_set, e1', em, hk0, w64]
              try rw [hrow]
              (repeat refine And.intro (by omega) ?_)
              refine ⟨.inr (.inl (by kernel_rfl)), ?_⟩
              try simp (disch := first | omega | (simp only [L3] <;> omega)) only [Sall,evalOp,init,binA_s,binE,binI,unE,convE,okNil,builtE,gv,TD.isAgg,resV,↓reduceIte,Nat.reduceEqDiff,reduceCtorEq,Nat.reduceAdd,Nat.reduceMul,Nat.reduceLeDiff,quietOp,blindOp,Int.reduceEq,Int.reduceLT,Int.reduceLE,Nat.reduceLT,tiA, h7, h6, h4, h3, h1, w64, ne7, hr5]
              refine ⟨a - (c + 1), by omega, c + 1, rfl, by omega, rfl, by rw [hMl], hup5.set (by omega) _, hn5, ?_⟩
              have q10 := q9 (incR ((carT a k l i c (carM a k l i)).getD ((rnd l i).getD c 0).toNat []) ((rnd l bb).getD c 0)) (incR_length _ _)
              try rw [hMl] at q10
              rw [carT_succ, ← ebb]
              exact q10
            · try simp (disch := first | omega | (simp only [L3] <;> omega)) only [Sall,evalOp,init,binA_s,binE,binI,unE,convE,okNil,builtE,gv,TD.isAgg,resV,↓reduceIte,Nat.reduceEqDiff,reduceCtorEq,Nat.reduceAdd,Nat.reduceMul,Nat.reduceLeDiff,quietOp,blindOp,Int.reduceEq,Int.reduceLT,Int.reduceLE,Nat.reduceLT,tiA, h6, h4, h3, h1, w64]
              have hc : c = a := by omega
              subst hc
              refine ⟨k - (i + 1), by omega, i + 1, rfl, by omega, rfl, hup5, by omega, hr5, ?_⟩
              rw [carM_succ]; exact hf5
        · have hc : i = k := by omega
          subst hc
          try simp (disch := first | omega | (simp only [L3] <;> omega)) only [Sall,evalOp,init,binA_s,binE,binI,unE,convE,okNil,builtE,gv,TD.isAgg,resV,↓reduceIte,Nat.reduceEqDiff,reduceCtorEq,Nat.reduceAdd,Nat.reduceMul,Nat.reduceLeDiff,quietOp,blindOp,Int.reduceEq,Int.reduceLT,Int.reduceLE,Nat.reduceLT,tiA, h3]
          exact ⟨hup2, hf2.wide (by omega) hn2⟩
end Go.Proofs.YtpienljnoaendaaGreat.A
end

section
set_option maxRecDepth 100000
set_option maxHeartbeats 2000000
namespace Go.Proofs.YtpienljnoaendaaGreat.A
open Go Go.Abs Go.RowKit
theorem codeC_ne {q : Int} {k : Nat} {l : List Int} (h : ¬ codeC q k l = 0) : (codeC q k l != 0) = true := by rw [bne_iff_ne]; exact h
theorem codeC_yes {q : Int} {k : Nat} {l : List Int} (h : codeC q k l = 0) : schedB q k l = true := by
  unfold codeC at h
  by_cases hb : schedB q k l = true
  · exact hb
  · rw [if_neg hb] at h; omega
theorem l09Cost_c (v : Value) (n : Nat) (M : List (List Int)) (H : AH) (hv : Rd2 1 H v M) (hM : SqM n M) (hn : n ≤ 1024) : ACalls Tryz.prog 199 [v] H (is (.int .i64 (costM M n)) H) := by
  refine acalls_up rfl (acalls_of_awp [.tmp 2] Tryz.func199 (by kernel_rfl) rfl rfl (Nat.le_of_ble_eq_true rfl) (by kernel_rfl) ?_)
  have hlen := hv.len
  rw [hM.1] at hlen
  try simp (disch := first | omega | (simp only [L3] <;> omega)) only [Sall,evalOp,init,binA_s,binE,binI,unE,convE,okNil,builtE,gv,TD.isAgg,resV,↓reduceIte,Nat.reduceEqDiff,reduceCtorEq,Nat.reduceAdd,Nat.reduceMul,Nat.reduceLeDiff,quietOp,blindOp,Int.reduceEq,Int.reduceLT,Int.reduceLE,Nat.reduceLT,tiA, true_and]
  refine awp_loop (fun m t H' => ∃ a : Nat, m = n - a ∧ a ≤ n ∧ t 4 = .int .i64 a ∧ t 3 = .int .i64 (costM M a) ∧ t 0 = v ∧ H' = H) n ?_ ?_
  · refine ⟨0, by omega, by omega, ?_⟩
    try simp (disch := first | omega | (simp only [L3] <;> omega)) only [Sall,evalOp,init,binA_s,binE,binI,unE,convE,okNil,builtE,gv,TD.isAgg,resV,↓reduceIte,Nat.reduceEqDiff,reduceCtorEq,Nat.reduceAdd,Nat.reduceMul,Nat.reduceLeDiff,quietOp,blindOp,Int.reduceEq,Int.reduceLT,Int.reduceLE,Nat.reduceLT,tiA, Int.natCast_zero, costM_zero]
  · rintro m t H' ⟨a, hm, han, h4, h3, h0, rfl⟩
    try simp (disch := first | omega | (simp only [L3] <;> omega)) only [Sall,evalOp,init,binA_s,binE,binI,unE,convE,okNil,builtE,gv,TD.isAgg,resV,↓reduceIte,Nat.reduceEqDiff,reduceCtorEq,Nat.reduceAdd,Nat.reduceMul,Nat.reduceLeDiff,quietOp,blindOp,Int.reduceEq,Int.reduceLT,Int.reduceLE,Nat.reduceLT,tiA, h4, h0, builtE, hlen]
    refine condC_dec (fun h => ?_) (fun h => ?_)
    · obtain ⟨i, o, u, c, r, y, my, rfl, hr, hy, hsx, hok⟩ := hv.get (j := a) (by rw [hM.1]; omega)
      have hmy := hsx.lenK1
      have hrow := hM.2 a (by omega)
      have hMl := hM.1
      rw [hrow] at hmy
      subst hmy
      try simp (disch := first | omega | (simp only [L3] <;> omega)) only [Sall,evalOp,init,binA_s,binE,binI,unE,convE,okNil,builtE,gv,TD.isAgg,resV,↓reduceIte,Nat.reduceEqDiff,reduceCtorEq,Nat.reduceAdd,Nat.reduceMul,Nat.reduceLeDiff,quietOp,blindOp,Int.reduceEq,Int.reduceLT,Int.reduceLE,Nat.reduceLT,tiA, h4, h3, h0]
      refine awp_loop (fun z t H7 => ∃ b : Nat, z = my - b ∧ b ≤ my ∧ t 5 = .int .i64 b ∧ t 4 = .int .i64 a ∧ t 3 = .int .i64 (costR (M.getD a []) (costM M a) b) ∧ t 0 = .slice (some ⟨i, o, u⟩) M.length c ∧ H7 = H') my ?_ ?_
      · refine ⟨0, by omega, by omega, ?_⟩
        try simp (disch := first | omega | (simp only [L3] <;> omega)) only [Sall,evalOp,init,binA_s,binE,binI,unE,convE,okNil,builtE,gv,TD.isAgg,resV,↓reduceIte,Nat.reduceEqDiff,reduceCtorEq,Nat.reduceAdd,Nat.reduceMul,Nat.reduceLeDiff,quietOp,blindOp,Int.reduceEq,Int.reduceLT,Int.reduceLE,Nat.reduceLT,tiA, Int.natCast_zero, costR_zero, h4, h3, h0]
      · rintro z t H7 ⟨b, hz, hbn, h5, h4, h3, h0, rfl⟩
        try simp (disch := first | omega | (simp only [L3] <;> omega)) only [Sall,evalOp,init,binA_s,binE,binI,unE,convE,okNil,builtE,gv,TD.isAgg,resV,↓reduceIte,Nat.reduceEqDiff,reduceCtorEq,Nat.reduceAdd,Nat.reduceMul,Nat.reduceLeDiff,quietOp,blindOp,Int.reduceEq,Int.reduceLT,Int.reduceLE,Nat.reduceLT,tiA, h5, h4, h0, hr, hy, hok, builtE, hsx.len]
        rw [hMl]
        (repeat refine And.intro (by omega) ?_)
        refine condC_dec (fun hh => ?_) (fun hh => ?_)
        · obtain ⟨i7, o7, u7, c7, r7, rfl, hr7, hc7, hs7, hg7⟩ := hsx.get (by omega)
          have g1 := hs7 b (by omega)
          refine draw_id (by kernel_rfl) (by kernel_rfl) ?_
          try simp (disch := first | omega | (simp only [L3] <;> omega)) only [Sall,evalOp,init,binA_s,binE,binI,unE,convE,okNil,builtE,gv,TD.isAgg,resV,↓reduceIte,Nat.reduceEqDiff,reduceCtorEq,Nat.reduceAdd,Nat.reduceMul,Nat.reduceLeDiff,quietOp,blindOp,Int.reduceEq,Int.reduceLT,Int.reduceLE,Nat.reduceLT,tiA, h5, h4, h3, h0, hr, hy, hok, hr7, g1]
          rw [hMl]
          (repeat refine And.intro (by omega) ?_)
          try simp (disch := first | omega | (simp only [L3] <;> omega)) only [Sall,evalOp,init,binA_s,binE,binI,unE,convE,okNil,builtE,gv,TD.isAgg,resV,↓reduceIte,Nat.reduceEqDiff,reduceCtorEq,Nat.reduceAdd,Nat.reduceMul,Nat.reduceLeDiff,quietOp,blindOp,Int.reduceEq,Int.reduceLT,Int.reduceLE,Nat.reduceLT,tiA, h5, h4, h0, w64]
          refine ⟨my - (b + 1), by omega, b + 1, rfl, by omega, rfl, ?_⟩
          rw [costR_succ]; rfl
        · try simp (disch := first | omega | (simp only [L3] <;> omega)) only [Sall,evalOp,init,binA_s,binE,binI,unE,convE,okNil,builtE,gv,TD.isAgg,resV,↓reduceIte,Nat.reduceEqDiff,reduceCtorEq,Nat.reduceAdd,Nat.reduceMul,Nat.reduceLeDiff,quietOp,blindOp,Int.reduceEq,Int.reduceLT,Int.reduceLE,Nat.reduceLT,tiA, h4, h3, h0, w64]
          have hbm : b = my := by omega
          refine ⟨my - (a + 1), by omega, a + 1, rfl, by omega, rfl, ?_⟩
          rw [costM_succ, hrow, hbm]
          exact ⟨rfl, by rw [hMl]⟩
    · try simp (disch := first | omega | (simp only [L3] <;> omega)) only [Sall,evalOp,init,binA_s,binE,binI,unE,convE,okNil,builtE,gv,TD.isAgg,resV,↓reduceIte,Nat.reduceEqDiff,reduceCtorEq,Nat.reduceAdd,Nat.reduceMul,Nat.reduceLeDiff,quietOp,blindOp,Int.reduceEq,Int.reduceLT,Int.reduceLE,Nat.reduceLT,tiA, h3]
      have han2 : a = n := by omega
      rw [han2]
      exact ⟨rfl, Up.refl _ _⟩
theorem cost_c (n : Nat) (v : Value) (k : Nat) (l : List Int) (H : AH) (hb : schedB n k l = true) (hv : Rd 14 H v k l) (hk : k ≤ 4294967296) :
    ACalls Tryz.prog 195 [.agg #[.int .i64 n, v]] H (is (.int .i64 (costM (carM n k l k) n)) H) := by
  refine ACalls.wf (by kernel_rfl) fun hs => acalls_up rfl (acalls_of_awp [.tmp 2] Tryz.func195 (by kernel_rfl) rfl rfl (Nat.le_of_ble_eq_true rfl) (by kernel_rfl) ?_)
  obtain ⟨hn, hk40, hrounds⟩ := schedB_at hb
  have hone := hv.one
  have up : Up H.next H (H.push ⟨26, true, [.int .i64 n, v]⟩) := (Up.refl _ H).push (Nat.le_refl _) _
  try simp (disch := first | omega | (simp only [L3] <;> omega)) only [Sall,evalOp,init,binA_s,binE,binI,unE,convE,okNil,builtE,gv,TD.isAgg,resV,↓reduceIte,Nat.reduceEqDiff,reduceCtorEq,Nat.reduceAdd,Nat.reduceMul,Nat.reduceLeDiff,quietOp,blindOp,Int.reduceEq,Int.reduceLT,Int.reduceLE,Nat.reduceLT,tiA, hone]
  revert up
  generalize H.push ⟨26, true, [.int .i64 n, v]⟩ = H1
  intro up
  refine (carry_c n v k l H1 hb (hv.same (up.le hs).row) hk).mono ?_
  rintro w H2 ⟨up2, hf⟩
  have u2 : Up H.next H H2 := up.trans up2 (by have := up.next; omega)
  have hM := carM_sq (rnd_toNat hb) k (Nat.le_refl _)
  revert hf hM
  generalize carM n k l k = M
  intro hf hM
  have hv := hf.rd
  have hlen := hv.len
  rw [hM.1] at hlen
  refine Holds.mp ?_
  try simp (disch := first | omega | (simp only [L3] <;> omega)) only [Sall,evalOp,init,binA_s,binE,binI,unE,convE,okNil,builtE,gv,TD.isAgg,resV,↓reduceIte,Nat.reduceEqDiff,reduceCtorEq,Nat.reduceAdd,Nat.reduceMul,Nat.reduceLeDiff,quietOp,blindOp,Int.reduceEq,Int.reduceLT,Int.reduceLE,Nat.reduceLT,tiA, builtE, hlen]
  refine awp_loop (fun m t H' => ∃ a : Nat, m = n - a ∧ a ≤ n ∧ t 11 = .int .i64 a ∧ t 10 = .int .i64 n ∧ t 9 = w ∧ t 3 = .int .i64 (costM M a) ∧ H' = H2) n ?_ ?_
  · refine ⟨0, by omega, by omega, ?_⟩
    try simp (disch := first | omega | (simp only [L3] <;> omega)) only [Sall,evalOp,init,binA_s,binE,binI,unE,convE,okNil,builtE,gv,TD.isAgg,resV,↓reduceIte,Nat.reduceEqDiff,reduceCtorEq,Nat.reduceAdd,Nat.reduceMul,Nat.reduceLeDiff,quietOp,blindOp,Int.reduceEq,Int.reduceLT,Int.reduceLE,Nat.reduceLT,tiA, Int.natCast_zero, costM_zero]
  · rintro m t H' ⟨a, hm, han, h11, h10, h9, h3, rfl⟩
    try simp (disch := first | omega | (simp only [L3] <;> omega)) only [Sall,evalOp,init,binA_s,binE,binI,unE,convE,okNil,builtE,gv,TD.isAgg,resV,↓reduceIte,Nat.reduceEqDiff,reduceCtorEq,Nat.reduceAdd,Nat.reduceMul,Nat.reduceLeDiff,quietOp,blindOp,Int.reduceEq,Int.reduceLT,Int.reduceLE,Nat.reduceLT,tiA, h11, h10]
    refine condC_dec (fun h => ?_) (fun h => ?_)
    · obtain ⟨i, o, u, c, r, y, my, rfl, hr, hy, hsx, hok⟩ := hv.get (j := a) (by rw [hM.1]; omega)
      have hmy := hsx.lenK1
      have hrow := hM.2 a (by omega)
      have hMl := hM.1
      rw [hrow] at hmy
      subst hmy
      try simp (disch := first | omega | (simp only [L3] <;> omega)) only [Sall,evalOp,init,binA_s,binE,binI,unE,convE,okNil,builtE,gv,TD.isAgg,resV,↓reduceIte,Nat.reduceEqDiff,reduceCtorEq,Nat.reduceAdd,Nat.reduceMul,Nat.reduceLeDiff,quietOp,blindOp,Int.reduceEq,Int.reduceLT,Int.reduceLE,Nat.reduceLT,tiA, h11, h10, h9, h3, hr, hy, hok, builtE, hsx.len]
      rw [hMl]
      (repeat refine And.intro (by omega) ?_)
      refine awp_loop (fun z t H7 => ∃ b : Nat, z = my - b ∧ b ≤ my ∧ t 17 = .int .i64 b ∧ t 16 = .int .i64 my ∧ t 15 = y ∧ t 11 = .int .i64 a ∧ t 10 = .int .i64 my ∧ t 9 = .slice (some ⟨i, o, u⟩) M.length c ∧ t 3 = .int .i64 (costR (M.getD a []) (costM M a) b) ∧ H7 = H') my ?_ ?_
      · refine ⟨0, by omega, by omega, ?_⟩
        try simp (disch := first | omega | (simp only [L3] <;> omega)) only [Sall,evalOp,init,binA_s,binE,binI,unE,convE,okNil,builtE,gv,TD.isAgg,resV,↓reduceIte,Nat.reduceEqDiff,reduceCtorEq,Nat.reduceAdd,Nat.reduceMul,Nat.reduceLeDiff,quietOp,blindOp,Int.reduceEq,Int.reduceLT,Int.reduceLE,Nat.reduceLT,tiA, Int.natCast_zero, costR_zero, h11, h10, h9, h3]
        try rw [hMl]
      · rintro z t H7 ⟨b, hz, hbn, h17, h16, h15, h11, h10, h9, h3, rfl⟩
        try simp (disch := first | omega | (simp only [L3] <;> omega)) only [Sall,evalOp,init,binA_s,binE,binI,unE,convE,okNil,builtE,gv,TD.isAgg,resV,↓reduceIte,Nat.reduceEqDiff,reduceCtorEq,Nat.reduceAdd,Nat.reduceMul,Nat.reduceLeDiff,quietOp,blindOp,Int.reduceEq,Int.reduceLT,Int.reduceLE,Nat.reduceLT,tiA, h17, h16]
        refine condC_dec (fun hh => ?_) (fun hh => ?_)
        · obtain ⟨i7, o7, u7, c7, r7, rfl, hr7, hc7, hs7, hg7⟩ := hsx.get (by omega)
          have g1 := hs7 b (by omega)
          try simp (disch := first | omega | (simp only [L3] <;> omega)) only [Sall,evalOp,init,binA_s,binE,binI,unE,convE,okNil,builtE,gv,TD.isAgg,resV,↓reduceIte,Nat.reduceEqDiff,reduceCtorEq,Nat.reduceAdd,Nat.reduceMul,Nat.reduceLeDiff,quietOp,blindOp,Int.reduceEq,Int.reduceLT,Int.reduceLE,Nat.reduceLT,tiA, h17, h16, h15, h11, h10, h9, h3, hr7, g1, w64]
          (repeat refine And.intro (by omega) ?_)
          refine ⟨my - (b + 1), by omega, b + 1, rfl, by omega, rfl, ?_⟩
          rw [costR_succ]; rfl
        · try simp (disch := first | omega | (simp only [L3] <;> omega)) only [Sall,evalOp,init,binA_s,binE,binI,unE,convE,okNil,builtE,gv,TD.isAgg,resV,↓reduceIte,Nat.reduceEqDiff,reduceCtorEq,Nat.reduceAdd,Nat.reduceMul,Nat.reduceLeDiff,quietOp,blindOp,Int.reduceEq,Int.reduceLT,Int.reduceLE,Nat.reduceLT,tiA, h11, h10, h9, h3, w64]
          have hbm : b = my := by omega
          refine ⟨my - (a + 1), by omega, a + 1, rfl, by omega, rfl, ?_⟩
          rw [costM_succ, hrow, hbm]
          exact ⟨by rw [hMl], rfl⟩
    · try simp (disch := first | omega | (simp only [L3] <;> omega)) only [Sall,evalOp,init,binA_s,binE,binI,unE,convE,okNil,builtE,gv,TD.isAgg,resV,↓reduceIte,Nat.reduceEqDiff,reduceCtorEq,Nat.reduceAdd,Nat.reduceMul,Nat.reduceLeDiff,quietOp,blindOp,Int.reduceEq,Int.reduceLT,Int.reduceLE,Nat.reduceLT,tiA, h3]
      have han2 : a = n := by omega
      rw [han2]
      exact ⟨rfl, u2⟩
theorem l09Balanced_c (v : Value) (n : Nat) (M : List (List Int)) (H : AH) (hv : Rd2 1 H v M) (hM : SqM n M) (hn : n ≤ 1024) : ACalls Tryz.prog 204 [v] H (is (.bool (balB M)) H) := by
  refine acalls_up rfl (acalls_of_awp [.tmp 2] Tryz.func204 (by kernel_rfl) rfl rfl (Nat.le_of_ble_eq_true rfl) (by kernel_rfl) ?_)
  have hlen := hv.len
  rw [hM.1] at hlen
  try simp (disch := first | omega | (simp only [L3] <;> omega)) only [Sall,evalOp,init,binA_s,binE,binI,unE,convE,okNil,builtE,gv,TD.isAgg,resV,↓reduceIte,Nat.reduceEqDiff,reduceCtorEq,Nat.reduceAdd,Nat.reduceMul,Nat.reduceLeDiff,quietOp,blindOp,Int.reduceEq,Int.reduceLT,Int.reduceLE,Nat.reduceLT,tiA, true_and]
  refine awp_loop (fun m t H' => ∃ a : Nat, m = n - a ∧ a ≤ n ∧ t 3 = .int .i64 a ∧ t 0 = v ∧ H' = H ∧ (∀ i, i < a → ∀ j, j < n → balAt M i j = true)) n ?_ ?_
  · refine ⟨0, by omega, by omega, ?_⟩
    try simp (disch := first | omega | (simp only [L3] <;> omega)) only [Sall,evalOp,init,binA_s,binE,binI,unE,convE,okNil,builtE,gv,TD.isAgg,resV,↓reduceIte,Nat.reduceEqDiff,reduceCtorEq,Nat.reduceAdd,Nat.reduceMul,Nat.reduceLeDiff,quietOp,blindOp,Int.reduceEq,Int.reduceLT,Int.reduceLE,Nat.reduceLT,tiA, Int.natCast_zero, Nat.not_lt_zero, false_implies]
  · rintro m t H' ⟨a, hm, han, h3, h0, rfl, hall⟩
    try simp (disch := first | omega | (simp only [L3] <;> omega)) only [Sall,evalOp,init,binA_s,binE,binI,unE,convE,okNil,builtE,gv,TD.isAgg,resV,↓reduceIte,Nat.reduceEqDiff,reduceCtorEq,Nat.reduceAdd,Nat.reduceMul,Nat.reduceLeDiff,quietOp,blindOp,Int.reduceEq,Int.reduceLT,Int.reduceLE,Nat.reduceLT,tiA, h3, h0, builtE, hlen]
    refine condC_dec (fun h => ?_) (fun h => ?_)
    · obtain ⟨i, o, u, c, r, y, my, rfl, hr, hy, hsx, hok⟩ := hv.get (j := a) (by rw [hM.1]; omega)
      have hmy := hsx.lenK1
      have hrow := hM.2 a (by omega)
      have hMl := hM.1
      rw [hrow] at hmy
      subst hmy
      try simp (disch := first | omega | (simp only [L3] <;> omega)) only [Sall,evalOp,init,binA_s,binE,binI,unE,convE,okNil,builtE,gv,TD.isAgg,resV,↓reduceIte,Nat.reduceEqDiff,reduceCtorEq,Nat.reduceAdd,Nat.reduceMul,Nat.reduceLeDiff,quietOp,blindOp,Int.reduceEq,Int.reduceLT,Int.reduceLE,Nat.reduceLT,tiA, h3, h0]
      refine awp_loop (fun z t H7 => ∃ b : Nat, z = my - b ∧ b ≤ my ∧ t 4 = .int .i64 b ∧ t 3 = .int .i64 a ∧ t 0 = .slice (some ⟨i, o, u⟩) M.length c ∧ H7 = H' ∧ (∀ j, j < b → balAt M a j = true)) my ?_ ?_
      · refine ⟨0, by omega, by omega, ?_⟩
        try simp (disch := first | omega | (simp only [L3] <;> omega)) only [Sall,evalOp,init,binA_s,binE,binI,unE,convE,okNil,builtE,gv,TD.isAgg,resV,↓reduceIte,Nat.reduceEqDiff,reduceCtorEq,Nat.reduceAdd,Nat.reduceMul,Nat.reduceLeDiff,quietOp,blindOp,Int.reduceEq,Int.reduceLT,Int.reduceLE,Nat.reduceLT,tiA, Int.natCast_zero, Nat.not_lt_zero, false_implies, h3, h0]
      · rintro z t H7 ⟨b, hz, hbn, h4, h3, h0, rfl, hin⟩
        try simp (disch := first | omega | (simp only [L3] <;> omega)) only [Sall,evalOp,init,binA_s,binE,binI,unE,convE,okNil,builtE,gv,TD.isAgg,resV,↓reduceIte,Nat.reduceEqDiff,reduceCtorEq,Nat.reduceAdd,Nat.reduceMul,Nat.reduceLeDiff,quietOp,blindOp,Int.reduceEq,Int.reduceLT,Int.reduceLE,Nat.reduceLT,tiA, h4, h3, h0, hr, hy, hok, builtE, hsx.len]
        rw [hMl]
        (repeat refine And.intro (by omega) ?_)
        refine condC_dec (fun hh => ?_) (fun hh => ?_)
        · obtain ⟨i7, o7, u7, c7, r7, rfl, hr7, hc7, hs7, hg7⟩ := hsx.get (by omega)
          have g1 := hs7 b (by omega)
          by_cases hab : a = b
          · have e2 : ((a : Int) != (b : Int)) = false := by rw [hab]; exact bne_self_eq_false _
            have hbal : balAt M a b = true := by unfold balAt; rw [decide_eq_true hab]; rfl
            try simp (disch := first | omega | (simp only [L3] <;> omega)) only [Sall,evalOp,init,binA_s,binE,binI,unE,convE,okNil,builtE,gv,TD.isAgg,resV,↓reduceIte,Nat.reduceEqDiff,reduceCtorEq,Nat.reduceAdd,Nat.reduceMul,Nat.reduceLeDiff,quietOp,blindOp,Int.reduceEq,Int.reduceLT,Int.reduceLE,Nat.reduceLT,tiA, h4, h3, h0, e2, w64]
            (repeat refine And.intro (by omega) ?_)
            refine ⟨my - (b + 1), by omega, b + 1, rfl, by omega, rfl, by first | rfl | rw [hMl], fun j hj => ?_⟩
            by_cases e : j = b
            · rw [e]; exact hbal
            · exact hin j (by omega)
          · have e2 : ((a : Int) != (b : Int)) = true := by rw [bne_iff_ne]; omega
            by_cases hx1 : (M.getD a []).getD b 0 = 1
            · have e3 : ((M.getD a []).getD b 0 != 1) = false := by rw [hx1]; rfl
              have hbal : balAt M a b = true := by unfold balAt; rw [hx1]; simp
              try simp (disch := first | omega | (simp only [L3] <;> omega)) only [Sall,evalOp,init,binA_s,binE,binI,unE,convE,okNil,builtE,gv,TD.isAgg,resV,↓reduceIte,Nat.reduceEqDiff,reduceCtorEq,Nat.reduceAdd,Nat.reduceMul,Nat.reduceLeDiff,quietOp,blindOp,Int.reduceEq,Int.reduceLT,Int.reduceLE,Nat.reduceLT,tiA, h4, h3, h0, hr, hy, hok, hr7, g1, e2, e3, w64]
              try rw [hMl]
              (repeat refine And.intro (by omega) ?_)
              refine ⟨my - (b + 1), by omega, b + 1, rfl, by omega, rfl, by first | rfl | rw [hMl], fun j hj => ?_⟩
              by_cases e : j = b
              · rw [e]; exact hbal
              · exact hin j (by omega)
            · have e3 : ((M.getD a []).getD b 0 != 1) = true := by rw [bne_iff_ne]; exact hx1
              have hbal : balAt M a b = false := by
                unfold balAt
                rw [decide_eq_false hab, Bool.false_or]
                exact beq_eq_false_iff_ne.2 hx1
              try simp (disch := first | omega | (simp only [L3] <;> omega)) only [Sall,evalOp,init,binA_s,binE,binI,unE,convE,okNil,builtE,gv,TD.isAgg,resV,↓reduceIte,Nat.reduceEqDiff,reduceCtorEq,Nat.reduceAdd,Nat.reduceMul,Nat.reduceLeDiff,quietOp,blindOp,Int.reduceEq,Int.reduceLT,Int.reduceLE,Nat.reduceLT,tiA, h4, h3, h0, hr, hy, hok, hr7, g1, e2, e3, w64]
              try rw [hMl]
              (repeat refine And.intro (by omega) ?_)
              rw [balB_bad (i := a) (j := b) (by rw [hMl]; omega) (by omega) hbal]
              exact ⟨rfl, Up.refl _ _⟩
        · try simp (disch := first | omega | (simp only [L3] <;> omega)) only [Sall,evalOp,init,binA_s,binE,binI,unE,convE,okNil,builtE,gv,TD.isAgg,resV,↓reduceIte,Nat.reduceEqDiff,reduceCtorEq,Nat.reduceAdd,Nat.reduceMul,Nat.reduceLeDiff,quietOp,blindOp,Int.reduceEq,Int.reduceLT,Int.reduceLE,Nat.reduceLT,tiA, h3, h0, w64]
          refine ⟨my - (a + 1), by omega, a + 1, rfl, by omega, rfl, by first | rfl | rw [hMl], fun i hi j hj => ?_⟩
          by_cases e : i = a
          · rw [e]; exact hin j (by omega)
          · exact hall i (by omega) j hj
    · try simp (disch := first | omega | (simp only [L3] <;> omega)) only [Sall,evalOp,init,binA_s,binE,binI,unE,convE,okNil,builtE,gv,TD.isAgg,resV,↓reduceIte,Nat.reduceEqDiff,reduceCtorEq,Nat.reduceAdd,Nat.reduceMul,Nat.reduceLeDiff,quietOp,blindOp,Int.reduceEq,Int.reduceLT,Int.reduceLE,Nat.reduceLT,tiA, true_and]
      rw [balB_good (fun i hi j hj => hall i (by rw [hM.1] at hi; omega) j (by rw [hM.1] at hi; rw [hM.2 i hi] at hj; exact hj))]
      exact ⟨rfl, Up.refl _ _⟩
theorem once_c (x : Int) (H : AH) : ACalls Tryz.prog 148 [.int .i64 x] H (is (.bool (x == 1)) H) := by
  refine acalls_of_awp [.tmp 2] Tryz.func148 (by kernel_rfl) rfl rfl (Nat.le_of_ble_eq_true rfl) (by kernel_rfl) ?_
  try simp (disch := first | omega | (simp only [L3] <;> omega)) only [Sall,evalOp,init,binA_s,binE,binI,unE,convE,okNil,builtE,gv,TD.isAgg,resV,↓reduceIte,Nat.reduceEqDiff,reduceCtorEq,Nat.reduceAdd,Nat.reduceMul,Nat.reduceLeDiff,quietOp,blindOp,Int.reduceEq,Int.reduceLT,Int.reduceLE,Nat.reduceLT,tiA, is]
theorem areAllOnce_c (v : Value) (n : Nat) (M : List (List Int)) (H : AH) (hv : Rd2 1 H v M) (hM : SqM n M) (hn : n ≤ 1024) : ACalls Tryz.prog 146 [v, .func (.func 148) #[] #[]] H (is (.bool (balB M)) H) := by
  refine acalls_up rfl (acalls_of_awp [.tmp 4] Tryz.func146 (by kernel_rfl) rfl rfl (Nat.le_of_ble_eq_true rfl) (by kernel_rfl) ?_)
  have hlen := hv.len
  rw [hM.1] at hlen
  try simp (disch := first | omega | (simp only [L3] <;> omega)) only [Sall,evalOp,init,binA_s,binE,binI,unE,convE,okNil,builtE,gv,TD.isAgg,resV,↓reduceIte,Nat.reduceEqDiff,reduceCtorEq,Nat.reduceAdd,Nat.reduceMul,Nat.reduceLeDiff,quietOp,blindOp,Int.reduceEq,Int.reduceLT,Int.reduceLE,Nat.reduceLT,tiA, builtE, hlen]
  refine awp_loop (fun m t H' => ∃ a : Nat, m = n - a ∧ a ≤ n ∧ t 11 = .int .i64 a ∧ t 10 = .int .i64 n ∧ t 9 = v ∧ t 1 = .func (.func 148) #[] #[] ∧ H' = H ∧ (∀ i, i < a → ∀ j, j < n → balAt M i j = true)) n ?_ ?_
  · refine ⟨0, by omega, by omega, ?_⟩
    try simp (disch := first | omega | (simp only [L3] <;> omega)) only [Sall,evalOp,init,binA_s,binE,binI,unE,convE,okNil,builtE,gv,TD.isAgg,resV,↓reduceIte,Nat.reduceEqDiff,reduceCtorEq,Nat.reduceAdd,Nat.reduceMul,Nat.reduceLeDiff,quietOp,blindOp,Int.reduceEq,Int.reduceLT,Int.reduceLE,Nat.reduceLT,tiA, Int.natCast_zero, Nat.not_lt_zero, false_implies]
  · rintro m t H' ⟨a, hm, han, h11, h10, h9, h1, rfl, hall⟩
    try simp (disch := first | omega | (simp only [L3] <;> omega)) only [Sall,evalOp,init,binA_s,binE,binI,unE,convE,okNil,builtE,gv,TD.isAgg,resV,↓reduceIte,Nat.reduceEqDiff,reduceCtorEq,Nat.reduceAdd,Nat.reduceMul,Nat.reduceLeDiff,quietOp,blindOp,Int.reduceEq,Int.reduceLT,Int.reduceLE,Nat.reduceLT,tiA, h11, h10]
    refine condC_dec (fun h => ?_) (fun h => ?_)
    · obtain ⟨i, o, u, c, r, y, my, rfl, hr, hy, hsx, hok⟩ := hv.get (j := a) (by rw [hM.1]; omega)
      have hmy := hsx.lenK1
      have hrow := hM.2 a (by omega)
      have hMl := hM.1
      rw [hrow] at hmy
      subst hmy
      try simp (disch := first | omega | (simp only [L3] <;> omega)) only [Sall,evalOp,init,binA_s,binE,binI,unE,convE,okNil,builtE,gv,TD.isAgg,resV,↓reduceIte,Nat.reduceEqDiff,reduceCtorEq,Nat.reduceAdd,Nat.reduceMul,Nat.reduceLeDiff,quietOp,blindOp,Int.reduceEq,Int.reduceLT,Int.reduceLE,Nat.reduceLT,tiA, h11, h10, h9, h1, hr, hy, hok, builtE, hsx.len]
      rw [hMl]
      (repeat refine And.intro (by omega) ?_)
      refine awp_loop (fun z t H7 => ∃ b : Nat, z = my - b ∧ b ≤ my ∧ t 18 = .int .i64 b ∧ t 17 = .int .i64 my ∧ t 16 = y ∧ t 5 = .int .i64 a ∧ t 11 = .int .i64 a ∧ t 10 = .int .i64 my ∧ t 9 = .slice (some ⟨i, o, u⟩) M.length c ∧ t 1 = .func (.func 148) #[] #[] ∧ H7 = H' ∧ (∀ j, j < b → balAt M a j = true)) my ?_ ?_
      · refine ⟨0, by omega, by omega, ?_⟩
        try simp (disch := first | omega | (simp only [L3] <;> omega)) only [Sall,evalOp,init,binA_s,binE,binI,unE,convE,okNil,builtE,gv,TD.isAgg,resV,↓reduceIte,Nat.reduceEqDiff,reduceCtorEq,Nat.reduceAdd,Nat.reduceMul,Nat.reduceLeDiff,quietOp,blindOp,Int.reduceEq,Int.reduceLT,Int.reduceLE,Nat.reduceLT,tiA, Int.natCast_zero, Nat.not_lt_zero, false_implies, h11, h10, h9, h1]
        try rw [hMl]
      · rintro z t H7 ⟨b, hz, hbn, h18, h17, h16, h5, h11, h10, h9, h1, rfl, hin⟩
        try simp (disch := first | omega | (simp only [L3] <;> omega)) only [Sall,evalOp,init,binA_s,binE,binI,unE,convE,okNil,builtE,gv,TD.isAgg,resV,↓reduceIte,Nat.reduceEqDiff,reduceCtorEq,Nat.reduceAdd,Nat.reduceMul,Nat.reduceLeDiff,quietOp,blindOp,Int.reduceEq,Int.reduceLT,Int.reduceLE,Nat.reduceLT,tiA, h18, h17]
        refine condC_dec (fun hh => ?_) (fun hh => ?_)
        · obtain ⟨i7, o7, u7, c7, r7, rfl, hr7, hc7, hs7, hg7⟩ := hsx.get (by omega)
          have g1 := hs7 b (by omega)
          by_cases hab : a = b
          · have e2 : ((a : Int) != (b : Int)) = false := by rw [hab]; exact bne_self_eq_false _
            have hbal : balAt M a b = true := by unfold balAt; rw [decide_eq_true hab]; rfl
            try simp (disch := first | omega | (simp only [L3] <;> omega)) only [Sall,evalOp,init,binA_s,binE,binI,unE,convE,okNil,builtE,gv,TD.isAgg,resV,↓reduceIte,Nat.reduceEqDiff,reduceCtorEq,Nat.reduceAdd,Nat.reduceMul,Nat.reduceLeDiff,quietOp,blindOp,Int.reduceEq,Int.reduceLT,Int.reduceLE,Nat.reduceLT,tiA, h18, h17, h16, h5, h11, h10, h9, h1, hr7, g1, e2, w64]
            (repeat refine And.intro (by omega) ?_)
            refine ⟨my - (b + 1), by omega, b + 1, rfl, by omega, rfl, fun j hj => ?_⟩
            by_cases e : j = b
            · rw [e]; exact hbal
            · exact hin j (by omega)
          · have e2 : ((a : Int) != (b : Int)) = true := by rw [bne_iff_ne]; omega
            try simp (disch := first | omega | (simp only [L3] <;> omega)) only [Sall,evalOp,init,binA_s,binE,binI,unE,convE,okNil,builtE,gv,TD.isAgg,resV,↓reduceIte,Nat.reduceEqDiff,reduceCtorEq,Nat.reduceAdd,Nat.reduceMul,Nat.reduceLeDiff,quietOp,blindOp,Int.reduceEq,Int.reduceLT,Int.reduceLE,Nat.reduceLT,tiA, h18, h17, h16, h5, h11, h10, h9, h1, hr7, g1, e2]
            (repeat refine And.intro (by omega) ?_)
            refine (once_c _ _).to ?_
            cases hx1 : ((M.getD a []).getD b 0 == 1) with
            | true =>
              have hbal : balAt M a b = true := by unfold balAt; rw [hx1]; simp
              try simp (disch := first | omega | (simp only [L3] <;> omega)) only [Sall,evalOp,init,binA_s,binE,binI,unE,convE,okNil,builtE,gv,TD.isAgg,resV,↓reduceIte,Nat.reduceEqDiff,reduceCtorEq,Nat.reduceAdd,Nat.reduceMul,Nat.reduceLeDiff,quietOp,blindOp,Int.reduceEq,Int.reduceLT,Int.reduceLE,Nat.reduceLT,tiA, Bool.not_true, h18, h17, h16, h5, h11, h10, h9, h1, w64]
              refine ⟨my - (b + 1), by omega, b + 1, rfl, by omega, rfl, fun j hj => ?_⟩
              by_cases e : j = b
              · rw [e]; exact hbal
              · exact hin j (by omega)
            | false =>
              have hbal : balAt M a b = false := by
                unfold balAt
                rw [decide_eq_false hab, hx1]; rfl
              try simp (disch := first | omega | (simp only [L3] <;> omega)) only [Sall,evalOp,init,binA_s,binE,binI,unE,convE,okNil,builtE,gv,TD.isAgg,resV,↓reduceIte,Nat.reduceEqDiff,reduceCtorEq,Nat.reduceAdd,Nat.reduceMul,Nat.reduceLeDiff,quietOp,blindOp,Int.reduceEq,Int.reduceLT,Int.reduceLE,Nat.reduceLT,tiA, Bool.not_false]
              rw [balB_bad (i := a) (j := b) (by rw [hMl]; omega) (by omega) hbal]
              exact ⟨rfl, Up.refl _ _⟩
        · try simp (disch := first | omega | (simp only [L3] <;> omega)) only [Sall,evalOp,init,binA_s,binE,binI,unE,convE,okNil,builtE,gv,TD.isAgg,resV,↓reduceIte,Nat.reduceEqDiff,reduceCtorEq,Nat.reduceAdd,Nat.reduceMul,Nat.reduceLeDiff,quietOp,blindOp,Int.reduceEq,Int.reduceLT,Int.reduceLE,Nat.reduceLT,tiA, h11, h10, h9, h1, w64]
          refine ⟨my - (a + 1), by omega, a + 1, rfl, by omega, rfl, by first | rfl | rw [hMl], fun i hi j hj => ?_⟩
          by_cases e : i = a
          · rw [e]; exact hin j (by omega)
          · exact hall i (by omega) j hj
    · try simp (disch := first | omega | (simp only [L3] <;> omega)) only [Sall,evalOp,init,binA_s,binE,binI,unE,convE,okNil,builtE,gv,TD.isAgg,resV,↓reduceIte,Nat.reduceEqDiff,reduceCtorEq,Nat.reduceAdd,Nat.reduceMul,Nat.reduceLeDiff,quietOp,blindOp,Int.reduceEq,Int.reduceLT,Int.reduceLE,Nat.reduceLT,tiA, true_and]
      rw [balB_good (fun i hi j hj => hall i (by rw [hM.1] at hi; omega) j (by rw [hM.1] at hi; rw [hM.2 i hi] at hj; exact hj))]
      exact ⟨rfl, Up.refl _ _⟩
def carR (q : Int) (k : Nat) (l : List Int) : List (List Int) := if codeC q k l = 0 then carM q.toNat k l k else []
def costV (q : Int) (k : Nat) (l : List Int) : Int := if codeC q k l = 0 then costM (carM q.toNat k l k) q.toNat else 0
def balV (q : Int) (k : Nat) (l : List Int) : Bool := if codeC q k l = 0 then balB (carM q.toNat k l k) else false
theorem CarryMatrix_c (q : Int) (v : Value) (k : Nat) (l : List Int) (H : AH) (hv : Rd 14 H v k l) (hk : k ≤ 4294967296) :
    ACalls Tryz.prog 73 [.agg #[.int .i64 q, v]] H (fun r H' => ∃ u, r = .tuple #[u, .int .i64 (codeC q k l)] ∧ Up H.next H H' ∧ Fr2 1 33 2 H.next H'.next H' u (carR q k l)) := by
  refine ACalls.wf (by kernel_rfl) fun hs => acalls_of_awp [.tmp 2, .tmp 3] Tryz.func73 (by kernel_rfl) rfl rfl (Nat.le_of_ble_eq_true rfl) (by kernel_rfl) ?_
  have hone := hv.one
  have up : Up H.next H (H.push ⟨26, true, [.int .i64 q, v]⟩) := (Up.refl _ H).push (Nat.le_refl _) _
  have e1 : (H.push ⟨26, true, [.int .i64 q, v]⟩).row H.next = some ⟨26, true, [.int .i64 q, v]⟩ := by rw [AH.push_row, if_pos rfl]
  have n1 : (H.push ⟨26, true, [.int .i64 q, v]⟩).next = H.next + 1 := rfl
  try simp (disch := first | omega | (simp only [L3] <;> omega)) only [Sall,evalOp,init,binA_s,binE,binI,unE,convE,okNil,builtE,gv,TD.isAgg,resV,↓reduceIte,Nat.reduceEqDiff,reduceCtorEq,Nat.reduceAdd,Nat.reduceMul,Nat.reduceLeDiff,quietOp,blindOp,Int.reduceEq,Int.reduceLT,Int.reduceLE,Nat.reduceLT,tiA, hone]
  revert up e1 n1
  generalize H.push ⟨26, true, [.int .i64 q, v]⟩ = H1
  intro up e1 n1
  have hv1 := hv.same (up.le hs).row
  refine (carryCode_c q v k l H1 hv1 hk).to ?_
  unfold carR
  by_cases hok : codeC q k l = 0
  · have hb := codeC_yes hok
    obtain ⟨h2, _, _⟩ := schedB_at hb
    obtain ⟨n, rfl⟩ : ∃ n : Nat, q = n := ⟨q.toNat, by omega⟩
    rw [if_pos hok, hok, Int.toNat_natCast]
    try simp (disch := first | omega | (simp only [L3] <;> omega)) only [Sall,evalOp,init,binA_s,binE,binI,unE,convE,okNil,builtE,gv,TD.isAgg,resV,↓reduceIte,Nat.reduceEqDiff,reduceCtorEq,Nat.reduceAdd,Nat.reduceMul,Nat.reduceLeDiff,quietOp,blindOp,Int.reduceEq,Int.reduceLT,Int.reduceLE,Nat.reduceLT,tiA, bne_self_eq_false, e1]
    refine (carry_c n v k l H1 hb hv1 hk).mono ?_
    rintro u H2 ⟨up2, hf⟩
    refine Holds.mp ?_
    try simp (disch := first | omega | (simp only [L3] <;> omega)) only [Sall,evalOp,init,binA_s,binE,binI,unE,convE,okNil,builtE,gv,TD.isAgg,resV,↓reduceIte,Nat.reduceEqDiff,reduceCtorEq,Nat.reduceAdd,Nat.reduceMul,Nat.reduceLeDiff,quietOp,blindOp,Int.reduceEq,Int.reduceLT,Int.reduceLE,Nat.reduceLT,tiA, true_and]
    exact ⟨u, rfl, up.trans up2 (by omega), hf.wide (by omega) (Nat.le_refl _)⟩
  · have ec := codeC_ne hok
    rw [if_neg hok]
    try simp (disch := first | omega | (simp only [L3] <;> omega)) only [Sall,evalOp,init,binA_s,binE,binI,unE,convE,okNil,builtE,gv,TD.isAgg,resV,↓reduceIte,Nat.reduceEqDiff,reduceCtorEq,Nat.reduceAdd,Nat.reduceMul,Nat.reduceLeDiff,quietOp,blindOp,Int.reduceEq,Int.reduceLT,Int.reduceLE,Nat.reduceLT,tiA, ec]
    exact ⟨_, rfl, up, .inl ⟨rfl, rfl⟩⟩
theorem specCarryMatrix_c (q : Int) (v : Value) (k : Nat) (l : List Int) (H : AH) (hv : Rd 14 H v k l) (hk : k ≤ 4294967296) :
    ACalls Tryz.prog 74 [.agg #[.int .i64 q, v]] H (fun r H' => ∃ u, r = .tuple #[u, .int .i64 (codeC q k l)] ∧ Up H.next H H' ∧ Fr2 1 33 2 H.next H'.next H' u (carR q k l)) := by
  refine ACalls.wf (by kernel_rfl) fun hs => acalls_of_awp [.tmp 2, .tmp 3] Tryz.func74 (by kernel_rfl) rfl rfl (Nat.le_of_ble_eq_true rfl) (by kernel_rfl) ?_
  have hone := hv.one
  have up : Up H.next H (H.push ⟨26, true, [.int .i64 q, v]⟩) := (Up.refl _ H).push (Nat.le_refl _) _
  have e1 : (H.push ⟨26, true, [.int .i64 q, v]⟩).row H.next = some ⟨26, true, [.int .i64 q, v]⟩ := by rw [AH.push_row, if_pos rfl]
  have n1 : (H.push ⟨26, true, [.int .i64 q, v]⟩).next = H.next + 1 := rfl
  try simp (disch := first | omega | (simp only [L3] <;> omega)) only [Sall,evalOp,init,binA_s,binE,binI,unE,convE,okNil,builtE,gv,TD.isAgg,resV,↓reduceIte,Nat.reduceEqDiff,reduceCtorEq,Nat.reduceAdd,Nat.reduceMul,Nat.reduceLeDiff,quietOp,blindOp,Int.reduceEq,Int.reduceLT,Int.reduceLE,Nat.reduceLT,tiA, hone]
  revert up e1 n1
  generalize H.push ⟨26, true, [.int .i64 q, v]⟩ = H1
  intro up e1 n1
  have hv1 := hv.same (up.le hs).row
  refine (l09Code_c q v k l H1 hv1 hk).to ?_
  unfold carR
  by_cases hok : codeC q k l = 0
  · have hb := codeC_yes hok
    obtain ⟨h2, _, _⟩ := schedB_at hb
    obtain ⟨n, rfl⟩ : ∃ n : Nat, q = n := ⟨q.toNat, by omega⟩
    rw [if_pos hok, hok, Int.toNat_natCast]
    try simp (disch := first | omega | (simp only [L3] <;> omega)) only [Sall,evalOp,init,binA_s,binE,binI,unE,convE,okNil,builtE,gv,TD.isAgg,resV,↓reduceIte,Nat.reduceEqDiff,reduceCtorEq,Nat.reduceAdd,Nat.reduceMul,Nat.reduceLeDiff,quietOp,blindOp,Int.reduceEq,Int.reduceLT,Int.reduceLE,Nat.reduceLT,tiA, bne_self_eq_false, e1]
    refine (l09Matrix_c n v k l H1 hb hv1 hk).mono ?_
    rintro u H2 ⟨up2, hf⟩
    refine Holds.mp ?_
    try simp (disch := first | omega | (simp only [L3] <;> omega)) only [Sall,evalOp,init,binA_s,binE,binI,unE,convE,okNil,builtE,gv,TD.isAgg,resV,↓reduceIte,Nat.reduceEqDiff,reduceCtorEq,Nat.reduceAdd,Nat.reduceMul,Nat.reduceLeDiff,quietOp,blindOp,Int.reduceEq,Int.reduceLT,Int.reduceLE,Nat.reduceLT,tiA, true_and]
    exact ⟨u, rfl, up.trans up2 (by omega), hf.wide (by omega) (Nat.le_refl _)⟩
  · have ec := codeC_ne hok
    rw [if_neg hok]
    try simp (disch := first | omega | (simp only [L3] <;> omega)) only [Sall,evalOp,init,binA_s,binE,binI,unE,convE,okNil,builtE,gv,TD.isAgg,resV,↓reduceIte,Nat.reduceEqDiff,reduceCtorEq,Nat.reduceAdd,Nat.reduceMul,Nat.reduceLeDiff,quietOp,blindOp,Int.reduceEq,Int.reduceLT,Int.reduceLE,Nat.reduceLT,tiA, ec]
    exact ⟨_, rfl, up, .inl ⟨rfl, rfl⟩⟩
theorem CarryCost_c (q : Int) (v : Value) (k : Nat) (l : List Int) (H : AH) (hv : Rd 14 H v k l) (hk : k ≤ 4294967296) :
    ACalls Tryz.prog 69 [.agg #[.int .i64 q, v]] H (is (.tuple #[.int .i64 (costV q k l), .int .i64 (codeC q k l)]) H) := by
  refine ACalls.wf (by kernel_rfl) fun hs => acalls_up (by simp [flat, Abs.scal]) (acalls_of_awp [.tmp 2, .tmp 3] Tryz.func69 (by kernel_rfl) rfl rfl (Nat.le_of_ble_eq_true rfl) (by kernel_rfl) ?_)
  have hone := hv.one
  have up : Up H.next H (H.push ⟨26, true, [.int .i64 q, v]⟩) := (Up.refl _ H).push (Nat.le_refl _) _
  have e1 : (H.push ⟨26, true, [.int .i64 q, v]⟩).row H.next = some ⟨26, true, [.int .i64 q, v]⟩ := by rw [AH.push_row, if_pos rfl]
  have n1 : (H.push ⟨26, true, [.int .i64 q, v]⟩).next = H.next + 1 := rfl
  try simp (disch := first | omega | (simp only [L3] <;> omega)) only [Sall,evalOp,init,binA_s,binE,binI,unE,convE,okNil,builtE,gv,TD.isAgg,resV,↓reduceIte,Nat.reduceEqDiff,reduceCtorEq,Nat.reduceAdd,Nat.reduceMul,Nat.reduceLeDiff,quietOp,blindOp,Int.reduceEq,Int.reduceLT,Int.reduceLE,Nat.reduceLT,tiA, hone]
  revert up e1 n1
  generalize H.push ⟨26, true, [.int .i64 q, v]⟩ = H1
  intro up e1 n1
  have hv1 := hv.same (up.le hs).row
  refine (carryCode_c q v k l H1 hv1 hk).to ?_
  unfold costV
  by_cases hok : codeC q k l = 0
  · have hb := codeC_yes hok
    obtain ⟨h2, _, _⟩ := schedB_at hb
    obtain ⟨n, rfl⟩ : ∃ n : Nat, q = n := ⟨q.toNat, by omega⟩
    rw [if_pos hok, hok, Int.toNat_natCast]
    try simp (disch := first | omega | (simp only [L3] <;> omega)) only [Sall,evalOp,init,binA_s,binE,binI,unE,convE,okNil,builtE,gv,TD.isAgg,resV,↓reduceIte,Nat.reduceEqDiff,reduceCtorEq,Nat.reduceAdd,Nat.reduceMul,Nat.reduceLeDiff,quietOp,blindOp,Int.reduceEq,Int.reduceLT,Int.reduceLE,Nat.reduceLT,tiA, bne_self_eq_false, e1]
    refine (cost_c n v k l H1 hb hv1 hk).to ?_
    try simp (disch := first | omega | (simp only [L3] <;> omega)) only [Sall,evalOp,init,binA_s,binE,binI,unE,convE,okNil,builtE,gv,TD.isAgg,resV,↓reduceIte,Nat.reduceEqDiff,reduceCtorEq,Nat.reduceAdd,Nat.reduceMul,Nat.reduceLeDiff,quietOp,blindOp,Int.reduceEq,Int.reduceLT,Int.reduceLE,Nat.reduceLT,tiA, true_and]
    exact up
  · have ec := codeC_ne hok
    rw [if_neg hok]
    try simp (disch := first | omega | (simp only [L3] <;> omega)) only [Sall,evalOp,init,binA_s,binE,binI,unE,convE,okNil,builtE,gv,TD.isAgg,resV,↓reduceIte,Nat.reduceEqDiff,reduceCtorEq,Nat.reduceAdd,Nat.reduceMul,Nat.reduceLeDiff,quietOp,blindOp,Int.reduceEq,Int.reduceLT,Int.reduceLE,Nat.reduceLT,tiA, ec]
    exact up
theorem specCarryCost_c (q : Int) (v : Value) (k : Nat) (l : List Int) (H : AH) (hv : Rd 14 H v k l) (hk : k ≤ 4294967296) :
    ACalls Tryz.prog 70 [.agg #[.int .i64 q, v]] H (is (.tuple #[.int .i64 (costV q k l), .int .i64 (codeC q k l)]) H) := by
  refine ACalls.wf (by kernel_rfl) fun hs => acalls_up (by simp [flat, Abs.scal]) (acalls_of_awp [.tmp 2, .tmp 3] Tryz.func70 (by kernel_rfl) rfl rfl (Nat.le_of_ble_eq_true rfl) (by kernel_rfl) ?_)
  have hone := hv.one
  have up : Up H.next H (H.push ⟨26, true, [.int .i64 q, v]⟩) := (Up.refl _ H).push (Nat.le_refl _) _
  have e1 : (H.push ⟨26, true, [.int .i64 q, v]⟩).row H.next = some ⟨26, true, [.int .i64 q, v]⟩ := by rw [AH.push_row, if_pos rfl]
  have n1 : (H.push ⟨26, true, [.int .i64 q, v]⟩).next = H.next + 1 := rfl
  try simp (disch := first | omega | (simp only [L3] <;> omega)) only [Sall,evalOp,init,binA_s,binE,binI,unE,convE,okNil,builtE,gv,TD.isAgg,resV,↓reduceIte,Nat.reduceEqDiff,reduceCtorEq,Nat.reduceAdd,Nat.reduceMul,Nat.reduceLeDiff,quietOp,blindOp,Int.reduceEq,Int.reduceLT,Int.reduceLE,Nat.reduceLT,tiA, hone]
  revert up e1 n1
  generalize H.push ⟨26, true, [.int .i64 q, v]⟩ = H1
  intro up e1 n1
  have hv1 := hv.same (up.le hs).row
  refine (l09Code_c q v k l H1 hv1 hk).to ?_
  unfold costV
  by_cases hok : codeC q k l = 0
  · have hb := codeC_yes hok
    obtain ⟨h2, _, _⟩ := schedB_at hb
    obtain ⟨n, rfl⟩ : ∃ n : Nat, q = n := ⟨q.toNat, by omega⟩
    rw [if_pos hok, hok, Int.toNat_natCast]
    try simp (disch := first | omega | (simp only [L3] <;> omega)) only [Sall,evalOp,init,binA_s,binE,binI,unE,convE,okNil,builtE,gv,TD.isAgg,resV,↓reduceIte,Nat.reduceEqDiff,reduceCtorEq,Nat.reduceAdd,Nat.reduceMul,Nat.reduceLeDiff,quietOp,blindOp,Int.reduceEq,Int.reduceLT,Int.reduceLE,Nat.reduceLT,tiA, bne_self_eq_false, e1]
    refine (l09Matrix_c n v k l H1 hb hv1 hk).mono ?_
    rintro u H2 ⟨up2, hf⟩
    refine Holds.mp ?_
    try simp (disch := first | omega | (simp only [L3] <;> omega)) only [Sall,evalOp,init,binA_s,binE,binI,unE,convE,okNil,builtE,gv,TD.isAgg,resV,↓reduceIte,Nat.reduceEqDiff,reduceCtorEq,Nat.reduceAdd,Nat.reduceMul,Nat.reduceLeDiff,quietOp,blindOp,Int.reduceEq,Int.reduceLT,Int.reduceLE,Nat.reduceLT,tiA, true_and]
    refine (l09Cost_c u n _ H2 hf.rd (carM_sq (rnd_toNat hb) k (Nat.le_refl _)) (by omega)).to ?_
    try simp (disch := first | omega | (simp only [L3] <;> omega)) only [Sall,evalOp,init,binA_s,binE,binI,unE,convE,okNil,builtE,gv,TD.isAgg,resV,↓reduceIte,Nat.reduceEqDiff,reduceCtorEq,Nat.reduceAdd,Nat.reduceMul,Nat.reduceLeDiff,quietOp,blindOp,Int.reduceEq,Int.reduceLT,Int.reduceLE,Nat.reduceLT,tiA, true_and]
    exact up.trans up2 (by omega)
  · have ec := codeC_ne hok
    rw [if_neg hok]
    try simp (disch := first | omega | (simp only [L3] <;> omega)) only [Sall,evalOp,init,binA_s,binE,binI,unE,convE,okNil,builtE,gv,TD.isAgg,resV,↓reduceIte,Nat.reduceEqDiff,reduceCtorEq,Nat.reduceAdd,Nat.reduceMul,Nat.reduceLeDiff,quietOp,blindOp,Int.reduceEq,Int.reduceLT,Int.reduceLE,Nat.reduceLT,tiA, ec]
    exact up
theorem IsCarryBalanced_c (q : Int) (v : Value) (k : Nat) (l : List Int) (H : AH) (hv : Rd 14 H v k l) (hk : k ≤ 4294967296) :
    ACalls Tryz.prog 75 [.agg #[.int .i64 q, v]] H (is (.tuple #[.bool (balV q k l), .int .i64 (codeC q k l)]) H) := by
  refine ACalls.wf (by kernel_rfl) fun hs => acalls_up (by simp [flat, Abs.scal]) (acalls_of_awp [.tmp 2, .tmp 3] Tryz.func75 (by kernel_rfl) rfl rfl (Nat.le_of_ble_eq_true rfl) (by kernel_rfl) ?_)
  have hone := hv.one
  have up : Up H.next H (H.push ⟨26, true, [.int .i64 q, v]⟩) := (Up.refl _ H).push (Nat.le_refl _) _
  have e1 : (H.push ⟨26, true, [.int .i64 q, v]⟩).row H.next = some ⟨26, true, [.int .i64 q, v]⟩ := by rw [AH.push_row, if_pos rfl]
  have n1 : (H.push ⟨26, true, [.int .i64 q, v]⟩).next = H.next + 1 := rfl
  try simp (disch := first | omega | (simp only [L3] <;> omega)) only [Sall,evalOp,init,binA_s,binE,binI,unE,convE,okNil,builtE,gv,TD.isAgg,resV,↓reduceIte,Nat.reduceEqDiff,reduceCtorEq,Nat.reduceAdd,Nat.reduceMul,Nat.reduceLeDiff,quietOp,blindOp,Int.reduceEq,Int.reduceLT,Int.reduceLE,Nat.reduceLT,tiA, hone]
  revert up e1 n1
  generalize H.push ⟨26, true, [.int .i64 q, v]⟩ = H1
  intro up e1 n1
  have hv1 := hv.same (up.le hs).row
  refine (carryCode_c q v k l H1 hv1 hk).to ?_
  unfold balV
  by_cases hok : codeC q k l = 0
  · have hb := codeC_yes hok
    obtain ⟨h2, _, _⟩ := schedB_at hb
    obtain ⟨n, rfl⟩ : ∃ n : Nat, q = n := ⟨q.toNat, by omega⟩
    rw [if_pos hok, hok, Int.toNat_natCast]
    try simp (disch := first | omega | (simp only [L3] <;> omega)) only [Sall,evalOp,init,binA_s,binE,binI,unE,convE,okNil,builtE,gv,TD.isAgg,resV,↓reduceIte,Nat.reduceEqDiff,reduceCtorEq,Nat.reduceAdd,Nat.reduceMul,Nat.reduceLeDiff,quietOp,blindOp,Int.reduceEq,Int.reduceLT,Int.reduceLE,Nat.reduceLT,tiA, bne_self_eq_false, e1]
    refine (carry_c n v k l H1 hb hv1 hk).mono ?_
    rintro u H2 ⟨up2, hf⟩
    refine Holds.mp ?_
    try simp (disch := first | omega | (simp only [L3] <;> omega)) only [Sall,evalOp,init,binA_s,binE,binI,unE,convE,okNil,builtE,gv,TD.isAgg,resV,↓reduceIte,Nat.reduceEqDiff,reduceCtorEq,Nat.reduceAdd,Nat.reduceMul,Nat.reduceLeDiff,quietOp,blindOp,Int.reduceEq,Int.reduceLT,Int.reduceLE,Nat.reduceLT,tiA, true_and]
    refine (areAllOnce_c u n _ H2 hf.rd (carM_sq (rnd_toNat hb) k (Nat.le_refl _)) (by omega)).to ?_
    try simp (disch := first | omega | (simp only [L3] <;> omega)) only [Sall,evalOp,init,binA_s,binE,binI,unE,convE,okNil,builtE,gv,TD.isAgg,resV,↓reduceIte,Nat.reduceEqDiff,reduceCtorEq,Nat.reduceAdd,Nat.reduceMul,Nat.reduceLeDiff,quietOp,blindOp,Int.reduceEq,Int.reduceLT,Int.reduceLE,Nat.reduceLT,tiA, true_and]
    exact up.trans up2 (by omega)
  · have ec := codeC_ne hok
    rw [if_neg hok]
    try simp (disch := first | omega | (simp only [L3] <;> omega)) only [Sall,evalOp,init,binA_s,binE,binI,unE,convE,okNil,builtE,gv,TD.isAgg,resV,↓reduceIte,Nat.reduceEqDiff,reduceCtorEq,Nat.reduceAdd,Nat.reduceMul,Nat.reduceLeDiff,quietOp,blindOp,Int.reduceEq,Int.reduceLT,Int.reduceLE,Nat.reduceLT,tiA, ec]
    exact up
theorem specIsCarryBalanced_c (q : Int) (v : Value) (k : Nat) (l : List Int) (H : AH) (hv : Rd 14 H v k l) (hk : k ≤ 4294967296) :
    ACalls Tryz.prog 76 [.agg #[.int .i64 q, v]] H (is (.tuple #[.bool (balV q k l), .int .i64 (codeC q k l)]) H) := by
  refine ACalls.wf (by kernel_rfl) fun hs => acalls_up (by simp [flat, Abs.scal]) (acalls_of_awp [.tmp 2, .tmp 3] Tryz.func76 (by kernel_rfl) rfl rfl (Nat.le_of_ble_eq_true rfl) (by kernel_rfl) ?_)
  have hone := hv.one
  have up : Up H.next H (H.push ⟨26, true, [.int .i64 q, v]⟩) := (Up.refl _ H).push (Nat.le_refl _) _
  have e1 : (H.push ⟨26, true, [.int .i64 q, v]⟩).row H.next = some ⟨26, true, [.int .i64 q, v]⟩ := by rw [AH.push_row, if_pos rfl]
  have n1 : (H.push ⟨26, true, [.int .i64 q, v]⟩).next = H.next + 1 := rfl
  try simp (disch := first | omega | (simp only [L3] <;> omega)) only [Sall,evalOp,init,binA_s,binE,binI,unE,convE,okNil,builtE,gv,TD.isAgg,resV,↓reduceIte,Nat.reduceEqDiff,reduceCtorEq,Nat.reduceAdd,Nat.reduceMul,Nat.reduceLeDiff,quietOp,blindOp,Int.reduceEq,Int.reduceLT,Int.reduceLE,Nat.reduceLT,tiA, hone]
  revert up e1 n1
  generalize H.push ⟨26, true, [.int .i64 q, v]⟩ = H1
  intro up e1 n1
  have hv1 := hv.same (up.le hs).row
  refine (l09Code_c q v k l H1 hv1 hk).to ?_
  unfold balV
  by_cases hok : codeC q k l = 0
  · have hb := codeC_yes hok
    obtain ⟨h2, _, _⟩ := schedB_at hb
    obtain ⟨n, rfl⟩ : ∃ n : Nat, q = n := ⟨q.toNat, by omega⟩
    rw [if_pos hok, hok, Int.toNat_natCast]
    try simp (disch := first | omega | (simp only [L3] <;> omega)) only [Sall,evalOp,init,binA_s,binE,binI,unE,convE,okNil,builtE,gv,TD.isAgg,resV,↓reduceIte,Nat.reduceEqDiff,reduceCtorEq,Nat.reduceAdd,Nat.reduceMul,Nat.reduceLeDiff,quietOp,blindOp,Int.reduceEq,Int.reduceLT,Int.reduceLE,Nat.reduceLT,tiA, bne_self_eq_false, e1]
    refine (l09Matrix_c n v k l H1 hb hv1 hk).mono ?_
    rintro u H2 ⟨up2, hf⟩
    refine Holds.mp ?_
    try simp (disch := first | omega | (simp only [L3] <;> omega)) only [Sall,evalOp,init,binA_s,binE,binI,unE,convE,okNil,builtE,gv,TD.isAgg,resV,↓reduceIte,Nat.reduceEqDiff,reduceCtorEq,Nat.reduceAdd,Nat.reduceMul,Nat.reduceLeDiff,quietOp,blindOp,Int.reduceEq,Int.reduceLT,Int.reduceLE,Nat.reduceLT,tiA, true_and]
    refine (l09Balanced_c u n _ H2 hf.rd (carM_sq (rnd_toNat hb) k (Nat.le_refl _)) (by omega)).to ?_
    try simp (disch := first | omega | (simp only [L3] <;> omega)) only [Sall,evalOp,init,binA_s,binE,binI,unE,convE,okNil,builtE,gv,TD.isAgg,resV,↓reduceIte,Nat.reduceEqDiff,reduceCtorEq,Nat.reduceAdd,Nat.reduceMul,Nat.reduceLeDiff,quietOp,blindOp,Int.reduceEq,Int.reduceLT,Int.reduceLE,Nat.reduceLT,tiA, true_and]
    exact up.trans up2 (by omega)
  · have ec := codeC_ne hok
    rw [if_neg hok]
    try simp (disch := first | omega | (simp only [L3] <;> omega)) only [Sall,evalOp,init,binA_s,binE,binI,unE,convE,okNil,builtE,gv,TD.isAgg,resV,↓reduceIte,Nat.reduceEqDiff,reduceCtorEq,Nat.reduceAdd,Nat.reduceMul,Nat.reduceLeDiff,quietOp,blindOp,Int.reduceEq,Int.reduceLT,Int.reduceLE,Nat.reduceLT,tiA, ec]
    exact up
end Go.Proofs.YtpienljnoaendaaGreat.A
end

section
namespace Go.Abs
def oddUp (n : Nat) : Nat := n - 1 + n % 2
def cb (m r x : Nat) : Int := Int.tmod (2 * (r : Int) - (x : Int) + (m : Int)) (m : Int)
def cmid (n r k : Nat) : List Int := (List.range 14).map fun x => if x < oddUp n then (if x < k ∨ cb (oddUp n) r x < k then cb (oddUp n) r x else x) else if x < n then x else 0
def cset (n r k : Nat) : List Int := (List.range 14).map fun x => if x < oddUp n then (if x < k then cb (oddUp n) r x else x) else if x < n then x else 0
def cround (n r : Nat) : List Int := if n % 2 = 0 then ((cmid n r (oddUp n)).set (n - 1) r).set r ((n : Int) - 1) else cmid n r (oddUp n)
theorem cmid_length (n r k : Nat) : (cmid n r k).length = 14 := by simp [cmid]
theorem cset_length (n r k : Nat) : (cset n r k).length = 14 := by simp [cset]
theorem cround_length (n r : Nat) : (cround n r).length = 14 := by unfold cround; split <;> simp [cmid_length]
theorem cb_range : ∀ n, n < 15 → ∀ r, r < oddUp n → ∀ x, x < oddUp n → 0 ≤ cb (oddUp n) r x ∧ cb (oddUp n) r x < oddUp n := by decide +kernel
theorem cset_zero : ∀ n, n < 15 → ∀ r, r < oddUp n → cset n r 0 = (List.range 14).map (fun (a : Nat) => if (a : Int) < (n : Int) then (a : Int) else 0) := by decide +kernel
theorem cset_step : ∀ n, n < 15 → ∀ r, r < oddUp n → ∀ k, k < oddUp n → (cset n r k).set k (cb (oddUp n) r k) = cset n r (k + 1) := by decide +kernel
theorem cset_last : ∀ n, n < 15 → ∀ r, r < oddUp n → cset n r (oddUp n) = cmid n r (oddUp n) := by decide +kernel
def circleL (n k : Nat) : List Int := ((List.range k).map (cround n)).flatten
theorem circleL_succ (n k : Nat) : circleL n (k + 1) = circleL n k ++ cround n k := by simp [circleL, List.range_succ]
end Go.Abs
end

section
set_option maxRecDepth 100000
namespace Go.Proofs.YtpienljnoaendaaGreat.A
open Go Go.Abs Go.RowKit
def freeL (n : Int) : List Int := (List.range 14).map fun (a : Nat) => if (a : Int) < n then (a : Int) else 0
theorem freeL_length (n : Int) : (freeL n).length = 14 := by simp [freeL]
theorem freeL_set (a : Int) (h : 0 ≤ a) (h' : a < 14) : (freeL a).set a.toNat a = freeL (a + 1) := by
  apply List.ext_getElem
  · simp [freeL]
  · intro i h1 h2
    simp only [freeL, List.getElem_set, List.getElem_map, List.getElem_range]
    split
    · rename_i e; rw [if_pos (by omega)]; omega
    · rename_i e; split <;> split <;> omega
theorem freeS_c (n : Int) (hn : n ≤ 14) (H : AH) : ACalls Tryz.prog 153 [.int .i64 n] H (is (.agg (ints (freeL n)).toArray) H) := by
  refine acalls_up (flat_ints _) (acalls_of_awp [.cell 2 69] Tryz.func153 (by kernel_rfl) rfl rfl (Nat.le_of_ble_eq_true rfl) (by kernel_rfl) ?_)
  try simp (disch := first | omega | (simp only [ints_length, freeL_length, List.length_replicate] <;> omega)) only [Sall,evalOp,init,binA_s,binE,binI,unE,convE,okNil,builtE,gv,TD.isAgg,resV,↓reduceIte,Nat.reduceEqDiff,reduceCtorEq,Nat.reduceAdd,Nat.reduceMul,Nat.reduceLeDiff,quietOp,blindOp,Int.reduceEq,Int.reduceLT,Int.reduceLE,Nat.reduceLT,tiA, true_and]
  refine awp_loop (fun m t H' => ∃ a : Int, m = (n - a).toNat ∧ 0 ≤ a ∧ a ≤ 14 ∧ (a ≤ n ∨ a = 0) ∧ t 4 = .int .i64 a ∧ t 0 = .int .i64 n ∧ t 3 = .pointer (some ⟨H.next + 1, 0, none⟩) ∧ t 2 = .pointer (some ⟨H.next, 0, none⟩) ∧ Up H.next H H' ∧
    H'.row H.next = some ⟨69, true, ints (List.replicate 14 0)⟩ ∧ H'.row (H.next + 1) = some ⟨69, true, ints (freeL a)⟩) n.toNat ?_ ?_
  · refine ⟨0, by omega, by omega, by omega, by omega, ?_⟩
    try simp (disch := first | omega | (simp only [ints_length, freeL_length, List.length_replicate] <;> omega)) only [Sall,evalOp,init,binA_s,binE,binI,unE,convE,okNil,builtE,gv,TD.isAgg,resV,↓reduceIte,Nat.reduceEqDiff,reduceCtorEq,Nat.reduceAdd,Nat.reduceMul,Nat.reduceLeDiff,quietOp,blindOp,Int.reduceEq,Int.reduceLT,Int.reduceLE,Nat.reduceLT,tiA, true_and]
    refine ⟨(((Up.refl _ H).push (by omega) _).push (Nat.le_succ _) _).set (by omega) _, ?_⟩
    exact congrArg (fun l => Row.mk _ true (ints l)) (by decide : List.replicate 14 0 = freeL 0)
  · rintro m t H' ⟨a, hm, h0, h14, han, h7, h6, h3, h2, hup, hr0, hr1⟩
    try simp (disch := first | omega | (simp only [ints_length, freeL_length, List.length_replicate] <;> omega)) only [Sall,evalOp,init,binA_s,binE,binI,unE,convE,okNil,builtE,gv,TD.isAgg,resV,↓reduceIte,Nat.reduceEqDiff,reduceCtorEq,Nat.reduceAdd,Nat.reduceMul,Nat.reduceLeDiff,quietOp,blindOp,Int.reduceEq,Int.reduceLT,Int.reduceLE,Nat.reduceLT,tiA, h7, h6]
    refine condC_dec (fun h => ?_) (fun h => ?_)
    · try simp (disch := first | omega | (simp only [ints_length, freeL_length, List.length_replicate] <;> omega)) only [Sall,evalOp,init,binA_s,binE,binI,unE,convE,okNil,builtE,gv,TD.isAgg,resV,↓reduceIte,Nat.reduceEqDiff,reduceCtorEq,Nat.reduceAdd,Nat.reduceMul,Nat.reduceLeDiff,quietOp,blindOp,Int.reduceEq,Int.reduceLT,Int.reduceLE,Nat.reduceLT,tiA, h7, h6, h3, h2, hr1, hr0, ints_set, w64, freeL_set, freeL_length]
      refine ⟨⟨h0, by omega⟩, by omega, (n - (a + 1)).toNat, by omega, a + 1, rfl, by omega, by omega, by omega, rfl, hup.set (by omega) _, rfl⟩
    · try simp (disch := first | omega | (simp only [ints_length, freeL_length, List.length_replicate] <;> omega)) only [Sall,evalOp,init,binA_s,binE,binI,unE,convE,okNil,builtE,gv,TD.isAgg,resV,↓reduceIte,Nat.reduceEqDiff,reduceCtorEq,Nat.reduceAdd,Nat.reduceMul,Nat.reduceLeDiff,quietOp,blindOp,Int.reduceEq,Int.reduceLT,Int.reduceLE,Nat.reduceLT,tiA, h7, h6, h3, h2, hr1, hr0, freeL_length]
      refine ⟨?_, hup.set (by omega) _⟩
      rcases han with h | h
      · rw [show a = n by omega]
      · subst h; congr 3; simp only [freeL]; apply List.map_congr_left; intro x hx; rw [if_neg (by omega), if_neg (by omega)]
end Go.Proofs.YtpienljnoaendaaGreat.A
end

section
set_option maxRecDepth 100000
namespace Go.Proofs.YtpienljnoaendaaGreat.A
open Go Go.Abs Go.RowKit
def FrS (q : Int) (n : Nat) (l : List Int) (H : AH) (v : Value) (H' : AH) : Prop := ∃ u, v = .agg #[.int .i64 q, u] ∧ Up H.next H H' ∧ Fr 14 69 H.next H'.next H' u n l
theorem circleS_c (n : Nat) (hn : 2 ≤ n ∧ n ≤ 14) (H : AH) : ACalls Tryz.prog 97 [.int .i64 n] H (FrS n (oddUp n) (circleL n (oddUp n)) H) := by
  refine acalls_of_awp [.cell 2 26] Tryz.func97 (by kernel_rfl) rfl rfl (Nat.le_of_ble_eq_true rfl) (by kernel_rfl) ?_
  have em : Int.tmod (n : Int) 2 = ((n % 2 : Nat) : Int) := rfl
  have em2 : (n : Int) - 1 + ((n % 2 : Nat) : Int) = (oddUp n : Nat) := by unfold oddUp; omega
  have hm2 : oddUp n ≤ 13 := by unfold oddUp; omega
  have hm3 : n = oddUp n ∨ n = oddUp n + 1 := by unfold oddUp; omega
  try simp (disch := first | omega | (simp only [ints_length, List.length_replicate, cround_length, cmid_length, cset_length] <;> omega)) only [Sall,evalOp,init,binA_s,binE,binI,unE,convE,okNil,builtE,gv,TD.isAgg,resV,↓reduceIte,Nat.reduceEqDiff,reduceCtorEq,Nat.reduceAdd,Nat.reduceMul,Nat.reduceLeDiff,quietOp,blindOp,Int.reduceEq,Int.reduceLT,Int.reduceLE,Nat.reduceLT,tiA, em, w64, em2, zeros_zero]
  refine awp_loop (fun m t H' => ∃ (r : Nat) (u : Value) (lo hi : Nat), m = oddUp n - r ∧ r ≤ oddUp n ∧ t 5 = .int .i64 r ∧ t 3 = .int .i64 (oddUp n) ∧ t 0 = .int .i64 n ∧ t 2 = .pointer (some ⟨H.next, 0, none⟩) ∧ t 4 = .pointer (some ⟨H.next + 2, 0, none⟩) ∧
    Up H.next H H' ∧ H'.row H.next = some ⟨26, true, [.int .i64 0, .slice none 0 0]⟩ ∧ H'.row (H.next + 2) = some ⟨26, true, [.int .i64 n, u]⟩ ∧ Fr 14 69 lo hi H' u r (circleL n r) ∧ H.next < lo ∧ hi ≤ H'.next ∧ (hi ≤ H.next + 2 ∨ H.next + 2 < lo) ∧ H.next + 3 ≤ H'.next) (oddUp n) ?_ ?_
  · refine ⟨0, .slice (some ⟨H.next + 1, 0, some 14⟩) 0 0, H.next + 1, H.next + 2, by omega, by omega, ?_⟩
    try simp (disch := first | omega | (simp only [ints_length, List.length_replicate, cround_length, cmid_length, cset_length] <;> omega)) only [Sall,evalOp,init,binA_s,binE,binI,unE,convE,okNil,builtE,gv,TD.isAgg,resV,↓reduceIte,Nat.reduceEqDiff,reduceCtorEq,Nat.reduceAdd,Nat.reduceMul,Nat.reduceLeDiff,quietOp,blindOp,Int.reduceEq,Int.reduceLT,Int.reduceLE,Nat.reduceLT,tiA, Int.natCast_zero]
    exact ⟨((((Up.refl _ H).push (by omega) _).push (Nat.le_succ _) _).push (Nat.le_succ_of_le (Nat.le_succ _)) _).set (by omega) _, ⟨by simp [circleL], .inr ⟨H.next + 1, by omega, by omega, rfl, by simp [AH.push_row, AH.setCells_row, AH.push_next, circleL, ints]⟩⟩, by omega, by omega⟩
  · rintro m t H' ⟨r, u, lo, hi, hm, hr, h5, h3, h0, h2, h4, hup, hr0, hr1, hfr, hlo, hhi, hx, hnx⟩
    try simp (disch := first | omega | (simp only [ints_length, List.length_replicate, cround_length, cmid_length, cset_length] <;> omega)) only [Sall,evalOp,init,binA_s,binE,binI,unE,convE,okNil,builtE,gv,TD.isAgg,resV,↓reduceIte,Nat.reduceEqDiff,reduceCtorEq,Nat.reduceAdd,Nat.reduceMul,Nat.reduceLeDiff,quietOp,blindOp,Int.reduceEq,Int.reduceLT,Int.reduceLE,Nat.reduceLT,tiA, h5, h3]
    refine condC_dec (fun h => ?_) (fun h => ?_)
    · try simp (disch := first | omega | (simp only [ints_length, List.length_replicate, cround_length, cmid_length, cset_length] <;> omega)) only [Sall,evalOp,init,binA_s,binE,binI,unE,convE,okNil,builtE,gv,TD.isAgg,resV,↓reduceIte,Nat.reduceEqDiff,reduceCtorEq,Nat.reduceAdd,Nat.reduceMul,Nat.reduceLeDiff,quietOp,blindOp,Int.reduceEq,Int.reduceLT,Int.reduceLE,Nat.reduceLT,tiA, h5, h3, h0, h4, h2]
      refine (freeS_c n (by omega) H').to ?_
      try simp (disch := first | omega | (simp only [ints_length, List.length_replicate, cround_length, cmid_length, cset_length] <;> omega)) only [Sall,evalOp,init,binA_s,binE,binI,unE,convE,okNil,builtE,gv,TD.isAgg,resV,↓reduceIte,Nat.reduceEqDiff,reduceCtorEq,Nat.reduceAdd,Nat.reduceMul,Nat.reduceLeDiff,quietOp,blindOp,Int.reduceEq,Int.reduceLT,Int.reduceLE,Nat.reduceLT,tiA, h5, h3, h0, h4, h2, freeL_length]
      refine awp_loop (fun m' t H'' => ∃ k : Nat, m' = oddUp n - k ∧ k ≤ oddUp n ∧ t 7 = .int .i64 k ∧ t 5 = .int .i64 r ∧ t 6 = .pointer (some ⟨H'.next, 0, none⟩) ∧ t 3 = .int .i64 (oddUp n) ∧ t 0 = .int .i64 n ∧ t 2 = .pointer (some ⟨H.next, 0, none⟩) ∧ t 4 = .pointer (some ⟨H.next + 2, 0, none⟩) ∧
        Up H'.next H' H'' ∧ H''.next = H'.next + 1 ∧ H''.row H'.next = some ⟨69, true, ints (cset n r k)⟩) (oddUp n) ?_ ?_
      · refine ⟨0, by omega, by omega, ?_⟩
        try simp (disch := first | omega | (simp only [ints_length, List.length_replicate, cround_length, cmid_length, cset_length] <;> omega)) only [Sall,evalOp,init,binA_s,binE,binI,unE,convE,okNil,builtE,gv,TD.isAgg,resV,↓reduceIte,Nat.reduceEqDiff,reduceCtorEq,Nat.reduceAdd,Nat.reduceMul,Nat.reduceLeDiff,quietOp,blindOp,Int.reduceEq,Int.reduceLT,Int.reduceLE,Nat.reduceLT,tiA, Int.natCast_zero, h5, h3, h0, h4, h2]
        refine ⟨((Up.refl _ H').push (by omega) _).set (by omega) _, ?_⟩
        rw [cset_zero n (by omega) r (by omega)]; rfl
      · rintro m' t H'' ⟨k, hm', hk, h7, h5, h6, h3, h0, h2, h4, hup2, hnx2, hr2⟩
        try simp (disch := first | omega | (simp only [ints_length, List.length_replicate, cround_length, cmid_length, cset_length] <;> omega)) only [Sall,evalOp,init,binA_s,binE,binI,unE,convE,okNil,builtE,gv,TD.isAgg,resV,↓reduceIte,Nat.reduceEqDiff,reduceCtorEq,Nat.reduceAdd,Nat.reduceMul,Nat.reduceLeDiff,quietOp,blindOp,Int.reduceEq,Int.reduceLT,Int.reduceLE,Nat.reduceLT,tiA, h7, h3]
        refine condC_dec (fun hk' => ?_) (fun hk' => ?_)
        · have hb := cb_range n (by omega) r (by omega) k (by omega)
          have eb : Int.tmod (2 * (r : Int) + (oddUp n : Int) - (k : Int)) (oddUp n : Int) = cb (oddUp n) r k := by unfold cb; rw [show 2 * (r : Int) + (oddUp n : Int) - (k : Int) = 2 * (r : Int) - (k : Int) + (oddUp n : Int) by omega]
          have st := cset_step n (by omega) r (by omega) k (by omega)
          have hl := cset_length n r k
          try simp (disch := first | omega | (simp only [ints_length, List.length_replicate, cround_length, cmid_length, cset_length] <;> omega)) only [Sall,evalOp,init,binA_s,binE,binI,unE,convE,okNil,builtE,gv,TD.isAgg,resV,↓reduceIte,Nat.reduceEqDiff,reduceCtorEq,Nat.reduceAdd,Nat.reduceMul,Nat.reduceLeDiff,quietOp,blindOp,Int.reduceEq,Int.reduceLT,Int.reduceLE,Nat.reduceLT,tiA, h7, h5, h3, h6, w64, eb, hr2, hl, ints_set, st, h0, h2, h4]
          exact ⟨by omega, ⟨by omega, by omega⟩, by omega, oddUp n - (k + 1), by omega, k + 1, rfl, by omega, by omega, hup2.set (Nat.le_refl _) _, hnx2, rfl⟩
        · have hkm : k = oddUp n := by omega
          subst hkm
          rw [cset_last n (by omega) r (by omega)] at hr2
          try simp (disch := first | omega | (simp only [ints_length, List.length_replicate, cround_length, cmid_length, cset_length] <;> omega)) only [Sall,evalOp,init,binA_s,binE,binI,unE,convE,okNil,builtE,gv,TD.isAgg,resV,↓reduceIte,Nat.reduceEqDiff,reduceCtorEq,Nat.reduceAdd,Nat.reduceMul,Nat.reduceLeDiff,quietOp,blindOp,Int.reduceEq,Int.reduceLT,Int.reduceLE,Nat.reduceLT,tiA, h0, em]
          have ne1 : ¬ (H.next + 2 = H'.next) := by omega
          have hcl := cround_length n r
          have hml := cmid_length n r (oddUp n)
          have fin : ∀ H3 : AH, Up H'.next H' H3 → H3.next = H'.next + 1 → H3.row H'.next = some ⟨69, true, ints (cround n r)⟩ →
              H3.row (H.next + 2) = some ⟨26, true, [.int .i64 n, u]⟩ ∧ Fr 14 69 lo hi H3 u r (circleL n r) := fun H3 a b c =>
            ⟨by rw [a.row _ (by omega), hr1], hfr.same fun i _ hi => a.row i (by omega)⟩
          by_cases h2n : n % 2 = 0
          · have e0 : (((n % 2 : Nat) : Int) == 0) = true := by rw [h2n]; rfl
            have hm4 : n = oddUp n + 1 := by unfold oddUp; omega
            have ec : ((cmid n r (oddUp n)).set r ((n : Int) - 1)).set ((n : Int) - 1).toNat r = cround n r := by
              unfold cround; rw [if_pos h2n, show ((n : Int) - 1).toNat = n - 1 by omega, List.set_comm _ _ (by omega)]
            have hsl : ((cmid n r (oddUp n)).set r ((n : Int) - 1)).length = 14 := by rw [List.length_set, hml]
            try simp (disch := first | omega | (simp only [ints_length, List.length_replicate, cround_length, cmid_length, cset_length] <;> omega)) only [Sall,evalOp,init,binA_s,binE,binI,unE,convE,okNil,builtE,gv,TD.isAgg,resV,↓reduceIte,Nat.reduceEqDiff,reduceCtorEq,Nat.reduceAdd,Nat.reduceMul,Nat.reduceLeDiff,quietOp,blindOp,Int.reduceEq,Int.reduceLT,Int.reduceLE,Nat.reduceLT,tiA, e0, h0, h5, h6, w64, hr2, hml, ints_set, hsl, ec, AH.setCells_setCells]
            refine ⟨⟨by omega, by omega⟩, by omega, ⟨by omega, by omega⟩, by omega, ?_⟩
            obtain ⟨g1, gf⟩ := fin (H''.setCells H'.next (ints (cround n r))) (hup2.set (Nat.le_refl _) _) hnx2 (by rw [AH.setCells_row, if_pos rfl, hr2]; rfl)
            have g2 : (H''.setCells H'.next (ints (cround n r))).row H'.next = some ⟨69, true, ints (cround n r)⟩ := by rw [AH.setCells_row, if_pos rfl, hr2]; rfl
            have g3 := hup2.set (Nat.le_refl _) (ints (cround n r))
            have g4 : (H''.setCells H'.next (ints (cround n r))).next = H'.next + 1 := hnx2
            revert g1 gf g2 g3 g4
            generalize H''.setCells H'.next (ints (cround n r)) = H3
            intro g1 gf g2 g3 g4
            try simp (disch := first | omega | (simp only [ints_length, List.length_replicate, cround_length, cmid_length, cset_length] <;> omega)) only [Sall,evalOp,init,binA_s,binE,binI,unE,convE,okNil,builtE,gv,TD.isAgg,resV,↓reduceIte,Nat.reduceEqDiff,reduceCtorEq,Nat.reduceAdd,Nat.reduceMul,Nat.reduceLeDiff,quietOp,blindOp,Int.reduceEq,Int.reduceLT,Int.reduceLE,Nat.reduceLT,tiA, h4, h6, g1, g2, g4, hcl, slCells, zeros_one, ne_eq, reduceCtorEq]
            have h3f : Fr 14 69 lo hi (H3.push ⟨69, true, ints (cround n r)⟩) u r (circleL n r) := gf.same fun i _ hi => by rw [AH.push_row, if_neg (by omega)]
            refine appE_fr h3f rfl (by omega) (by rw [hcl]) (by omega) (by decide) (by omega) (by rw [AH.push_next]; omega) ?_
            intro v' H4 k1 k2 k3
            rw [AH.push_next] at k1 k2 k3
            have k4 : H4.row (H.next + 2) = some ⟨26, true, [.int .i64 n, u]⟩ := by rw [k2 _ (by omega) (by omega), AH.push_row, if_neg (by omega), g1]
            have k5 := k3.rd.one
            try simp (disch := first | omega | (simp only [ints_length, List.length_replicate, cround_length, cmid_length, cset_length] <;> omega)) only [Sall,evalOp,init,binA_s,binE,binI,unE,convE,okNil,builtE,gv,TD.isAgg,resV,↓reduceIte,Nat.reduceEqDiff,reduceCtorEq,Nat.reduceAdd,Nat.reduceMul,Nat.reduceLeDiff,quietOp,blindOp,Int.reduceEq,Int.reduceLT,Int.reduceLE,Nat.reduceLT,tiA, h3, h6, h4, h0, h2, h5, k4, k5, w64, List.set_cons_succ, List.set_cons_zero]
            refine ⟨oddUp n - (r + 1), by omega, r + 1, v', H3.next + 1, H3.next + 2, rfl, by omega, by omega, ?_, ?_, rfl, ?_, by omega, by omega, by omega⟩
            · refine Up.set ⟨by omega, fun i hi => ?_⟩ (by omega) _
              rw [k2 i (by omega) (by omega), AH.push_row, if_neg (by omega), g3.row i (by omega), hup.row i hi]
            · rw [k2 _ (by omega) (by omega), AH.push_row, if_neg (by omega), g3.row _ (by omega), hr0]
            · rw [circleL_succ]
              refine k3.same ?_
              intro i hi _
              rw [AH.setCells_row, if_neg (by omega)]
          · have e0 : (((n % 2 : Nat) : Int) == 0) = false := by rw [beq_eq_false_iff_ne]; omega
            try simp (disch := first | omega | (simp only [ints_length, List.length_replicate, cround_length, cmid_length, cset_length] <;> omega)) only [Sall,evalOp,init,binA_s,binE,binI,unE,convE,okNil,builtE,gv,TD.isAgg,resV,↓reduceIte,Nat.reduceEqDiff,reduceCtorEq,Nat.reduceAdd,Nat.reduceMul,Nat.reduceLeDiff,quietOp,blindOp,Int.reduceEq,Int.reduceLT,Int.reduceLE,Nat.reduceLT,tiA, e0, h0, h5, h6, w64]
            have ec : cmid n r (oddUp n) = cround n r := by
              unfold cround; rw [if_neg h2n]
            rw [ec] at hr2
            obtain ⟨g1, gf⟩ := fin H'' hup2 hnx2 hr2
            have g2 := hr2
            have g3 := hup2
            have g4 := hnx2
            revert g1 gf g2 g3 g4
            generalize H'' = H3
            intro g1 gf g2 g3 g4
            try simp (disch := first | omega | (simp only [ints_length, List.length_replicate, cround_length, cmid_length, cset_length] <;> omega)) only [Sall,evalOp,init,binA_s,binE,binI,unE,convE,okNil,builtE,gv,TD.isAgg,resV,↓reduceIte,Nat.reduceEqDiff,reduceCtorEq,Nat.reduceAdd,Nat.reduceMul,Nat.reduceLeDiff,quietOp,blindOp,Int.reduceEq,Int.reduceLT,Int.reduceLE,Nat.reduceLT,tiA, h4, h6, g1, g2, g4, hcl, slCells, zeros_one, ne_eq, reduceCtorEq]
            have h3f : Fr 14 69 lo hi (H3.push ⟨69, true, ints (cround n r)⟩) u r (circleL n r) := gf.same fun i _ hi => by rw [AH.push_row, if_neg (by omega)]
            refine appE_fr h3f rfl (by omega) (by rw [hcl]) (by omega) (by decide) (by omega) (by rw [AH.push_next]; omega) ?_
            intro v' H4 k1 k2 k3
            rw [AH.push_next] at k1 k2 k3
            have k4 : H4.row (H.next + 2) = some ⟨26, true, [.int .i64 n, u]⟩ := by rw [k2 _ (by omega) (by omega), AH.push_row, if_neg (by omega), g1]
            have k5 := k3.rd.one
            try simp (disch := first | omega | (simp only [ints_length, List.length_replicate, cround_length, cmid_length, cset_length] <;> omega)) only [Sall,evalOp,init,binA_s,binE,binI,unE,convE,okNil,builtE,gv,TD.isAgg,resV,↓reduceIte,Nat.reduceEqDiff,reduceCtorEq,Nat.reduceAdd,Nat.reduceMul,Nat.reduceLeDiff,quietOp,blindOp,Int.reduceEq,Int.reduceLT,Int.reduceLE,Nat.reduceLT,tiA, h3, h6, h4, h0, h2, h5, k4, k5, w64, List.set_cons_succ, List.set_cons_zero]
            refine ⟨oddUp n - (r + 1), by omega, r + 1, v', H3.next + 1, H3.next + 2, rfl, by omega, by omega, ?_, ?_, rfl, ?_, by omega, by omega, by omega⟩
            · refine Up.set ⟨by omega, fun i hi => ?_⟩ (by omega) _
              rw [k2 i (by omega) (by omega), AH.push_row, if_neg (by omega), g3.row i (by omega), hup.row i hi]
            · rw [k2 _ (by omega) (by omega), AH.push_row, if_neg (by omega), g3.row _ (by omega), hr0]
            · rw [circleL_succ]
              refine k3.same ?_
              intro i hi _
              rw [AH.setCells_row, if_neg (by omega)]
    · have hrm : r = oddUp n := by omega
      have hne : ¬ (H.next + 2 = H.next) := by omega
      try simp (disch := first | omega | (simp only [ints_length, List.length_replicate, cround_length, cmid_length, cset_length] <;> omega)) only [Sall,evalOp,init,binA_s,binE,binI,unE,convE,okNil,builtE,gv,TD.isAgg,resV,↓reduceIte,Nat.reduceEqDiff,reduceCtorEq,Nat.reduceAdd,Nat.reduceMul,Nat.reduceLeDiff,quietOp,blindOp,Int.reduceEq,Int.reduceLT,Int.reduceLE,Nat.reduceLT,tiA, h4, h2, hr0, hr1]
      refine ⟨u, rfl, hup.set (Nat.le_refl _) _, ?_⟩
      rw [← hrm]
      exact (Fr.wide (hfr.same (H' := H'.setCells H.next [.int .i64 n, u]) fun i hi _ => by rw [AH.setCells_row, if_neg (by omega)]) (by omega) (by rw [AH.setCells_next]; omega))
end Go.Proofs.YtpienljnoaendaaGreat.A
end

section
set_option maxRecDepth 100000
namespace Go.Proofs.YtpienljnoaendaaGreat.A
open Go Go.Abs Go.RowKit
end Go.Proofs.YtpienljnoaendaaGreat.A
end

section
set_option maxRecDepth 100000
namespace Go.Proofs.YtpienljnoaendaaGreat.A
open Go Go.Abs Go.RowKit
end Go.Proofs.YtpienljnoaendaaGreat.A
end
