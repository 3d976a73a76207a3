/- The small logic, ninth text: slices of integers (k cells an element) that are read, and fresh ones. No program is named here. And what follows. -/
import Derived.Test.YtgkmdfjjlghecaaM1
import Derived.Test.YtgkmdfjjlghecaaProg
import Derived.KernelRfl
import Derived.ChangeArms
import Derived.OpenShut
import Derived.DataReads
section
set_option linter.unusedSimpArgs false
set_option linter.unusedVariables false
namespace Go.Abs
open Go Go.RowKit

/-- A slice of n elements, k integers each, reads l. -/
def Rd (k : Nat) (H : AH) (v : Value) (n : Nat) (l : List Int) : Prop :=
  l.length = n * k ∧ ((n = 0 ∧ ∃ a c, v = .slice a 0 c ∧ (a = none → c = 0)) ∨ ∃ i o u c r, v = .slice (some ⟨i, o, u⟩) n c ∧ H.row i = some r ∧ o + n * k ≤ r.cells.length ∧ seg r.cells o (n * k) = ints l)

/-- A slice that is all of its row, which lies in [lo, hi). -/
def Fr (k : Nat) (ty : TypeId) (lo hi : Nat) (H : AH) (v : Value) (n : Nat) (l : List Int) : Prop :=
  l.length = n * k ∧ ((n = 0 ∧ v = .slice none 0 0) ∨ ∃ i, lo ≤ i ∧ i < hi ∧ v = .slice (some ⟨i, 0, some k⟩) n n ∧ H.row i = some ⟨ty, true, ints l⟩)

theorem Fr.rd {k ty lo hi n : Nat} {H : AH} {v : Value} {l : List Int} (h : Fr k ty lo hi H v n l) : Rd k H v n l := by
  refine ⟨h.1, ?_⟩
  rcases h.2 with h2 | ⟨i, h1, h2, rfl, hr⟩
  · exact .inl ⟨h2.1, none, 0, h2.2, fun _ => rfl⟩
  · exact .inr ⟨i, 0, some k, n, _, rfl, hr, by rw [ints_length, h.1]; omega, seg_all _ _ (by rw [ints_length, h.1])⟩

theorem Fr.same {k ty lo hi n : Nat} {H H' : AH} {v : Value} {l : List Int} (h : Fr k ty lo hi H v n l) (hs : ∀ i, lo ≤ i → i < hi → H'.row i = H.row i) : Fr k ty lo hi H' v n l := by
  refine ⟨h.1, ?_⟩
  rcases h.2 with h2 | ⟨i, h1, h2, hv, hr⟩
  · exact .inl h2
  · exact .inr ⟨i, h1, h2, hv, by rw [hs i h1 h2]; exact hr⟩
theorem Fr.wide {k ty lo hi lo' hi' n : Nat} {H : AH} {v : Value} {l : List Int} (h : Fr k ty lo hi H v n l) (h1 : lo' ≤ lo) (h2 : hi ≤ hi') : Fr k ty lo' hi' H v n l := by
  refine ⟨h.1, ?_⟩
  rcases h.2 with h3 | ⟨i, h3, h4, hv, hr⟩
  · exact .inl h3
  · exact .inr ⟨i, by omega, by omega, hv, hr⟩

theorem Rd.same {k n : Nat} {H H' : AH} {v : Value} {l : List Int} (h : Rd k H v n l) (hs : ∀ i r, H.row i = some r → H'.row i = some r) : Rd k H' v n l := by
  refine ⟨h.1, ?_⟩
  rcases h.2 with h2 | ⟨i, o, u, c, r, hv, hr, h3⟩
  · exact .inl h2
  · exact .inr ⟨i, o, u, c, r, hv, hs _ _ hr, h3⟩

theorem Rd.len {k n : Nat} {H : AH} {v : Value} {l : List Int} (h : Rd k H v n l) (H' : AH) : asSl v (.val (.int .i64 0) H') (fun _ _ _ n _ => .val (.int .i64 (n : Int)) H') = .val (.int .i64 (n : Int)) H' := by
  rcases h.2 with ⟨rfl, a, c, rfl, _⟩ | ⟨i, o, u, c, r, rfl, hr, h3⟩
  · cases a <;> rfl
  · rfl

theorem Rd.get {k n : Nat} {H : AH} {v : Value} {l : List Int} (h : Rd k H v n l) (hn : 0 < n) :
    ∃ i o u c r, v = .slice (some ⟨i, o, u⟩) n c ∧ H.row i = some r ∧ o + n * k ≤ r.cells.length ∧ (∀ j, j < n * k → r.cells[o + j]? = some (.int .i64 (l.getD j 0))) ∧
      (∀ j m, j + m ≤ n * k → seg r.cells (o + j) m = ints ((l.drop j).take m)) := by
  rcases h.2 with ⟨rfl, _⟩ | ⟨i, o, u, c, r, rfl, hr, h3, h4⟩
  · omega
  · have key : ∀ j, j < n * k → r.cells[o + j]? = (ints l)[j]? := by
      intro j hj
      rw [← h4]; simp [seg, hj]
    refine ⟨i, o, u, c, r, rfl, hr, h3, fun j hj => ?_, fun j m hjm => ?_⟩
    · rw [key j hj, ints_get? l j (by rw [h.1]; exact hj)]
    · rw [← ints_seg, ← h4]
      apply List.ext_getElem?
      intro x
      simp only [seg, List.getElem?_take, List.getElem?_drop]
      by_cases hx : x < m
      · rw [if_pos hx, if_pos hx, if_pos (by omega)]
        congr 1; omega
      · rw [if_neg hx, if_neg hx]

theorem Rd.one {k n : Nat} {H : AH} {v : Value} {l : List Int} (h : Rd k H v n l) : v.oneCell' = true := by
  rcases h.2 with ⟨_, a, c, rfl, _⟩ | ⟨i, o, u, c, r, rfl, _⟩ <;> rfl
theorem Fr.get {k ty lo hi n : Nat} {H : AH} {v : Value} {l : List Int} (h : Fr k ty lo hi H v n l) (hn : 0 < n) :
    ∃ i, lo ≤ i ∧ i < hi ∧ v = .slice (some ⟨i, 0, some k⟩) n n ∧ H.row i = some ⟨ty, true, ints l⟩ := by
  rcases h.2 with ⟨h3, _⟩ | h3
  · omega
  · exact h3
theorem Fr.set {k ty lo hi n i : Nat} {H : AH} {l l' : List Int} (h : Fr k ty lo hi H (.slice (some ⟨i, 0, some k⟩) n n) n l) (hr : H.row i = some ⟨ty, true, ints l⟩) (h1 : lo ≤ i) (h2 : i < hi) (hl : l'.length = l.length) :
    Fr k ty lo hi (H.setCells i (ints l')) (.slice (some ⟨i, 0, some k⟩) n n) n l' :=
  ⟨by rw [hl]; exact h.1, .inr ⟨i, h1, h2, rfl, by rw [AH.setCells_row, if_pos rfl, hr]; rfl⟩⟩

/-- Numbers one behind the other. -/
def seqL (a : Int) (n : Nat) : List Int := (List.range n).map fun (i : Nat) => a + i
theorem seqL_length (a : Int) (n : Nat) : (seqL a n).length = n := by simp [seqL]
theorem seqL_getD (a : Int) (n i : Nat) (h : i < n) : (seqL a n).getD i 0 = a + i := by simp [seqL, h]

/-- The first m cells marked. -/
def markL (a : Int) (l : List Int) (m : Nat) : List Int := seqL a m ++ l.drop m
theorem markL_length (a : Int) (l : List Int) (m : Nat) (h : m ≤ l.length) : (markL a l m).length = l.length := by simp [markL, seqL_length]; omega
theorem markL_zero (a : Int) (l : List Int) : markL a l 0 = l := by simp [markL, seqL]
theorem markL_all (a : Int) (l : List Int) : markL a l l.length = seqL a l.length := by simp [markL]
theorem markL_set (a : Int) (l : List Int) (m : Nat) (h : m < l.length) : (markL a l m).set m (a + m) = markL a l (m + 1) := by
  apply List.ext_getElem?
  intro i
  simp only [markL, seqL, List.getElem?_set, List.length_append, List.length_map, List.length_range, List.length_drop, List.getElem?_append, List.getElem?_map, List.getElem?_range, List.getElem?_drop]
  by_cases h1 : i = m
  · subst h1; simp [List.getElem?_range]; omega
  · by_cases h2 : i < m
    · have : ¬ m = i := by omega
      simp [h1, h2, this, List.getElem?_range, show i < m + 1 by omega]
    · have : ¬ m = i := by omega
      have h3 : ¬ i < m + 1 := by omega
      simp only [this, h2, h3, if_false]
      congr 1; omega

theorem zeros_one (z : List Value) : zeros 1 z = z := by simp [zeros]
theorem zeros_zero (z : List Value) : zeros 0 z = [] := by simp [zeros]

theorem AH.setCells_setCells (H : AH) (i : Nat) (a b : List Value) : (H.setCells i a).setCells i b = H.setCells i b := by
  unfold AH.setCells
  simp only [AH.mk.injEq, true_and]
  funext j
  by_cases h : j = i
  · subst h; simp only [if_true]; cases H.row j <;> rfl
  · simp only [h, if_false]

/-- An append to a fresh slice gives a fresh slice. -/
theorem appE_fr {P : Program} {E : TI} {k ty lo hi n c : Nat} {H : AH} {v : Value} {l m : List Int} {K : Value → AH → Prop} (h : Fr k ty lo hi H v n l) (hk : E.size = k) (hk0 : 0 < k) (hm : m.length = c * k) (hc : 0 < c) (hb : E.bytes ≤ 32768) (hn : n + c ≤ 4294967296) (hhi : hi ≤ H.next)
    (hK : ∀ v' H', H'.next = H.next + 1 → (∀ i, ¬(lo ≤ i ∧ i < hi) → i < H.next → H'.row i = H.row i) → Fr k ty H.next (H.next + 1) H' v' (n + c) (l ++ m) → K v' H') :
    runOut P H (appE E ty v (ints m) c H) K := by
  subst hk
  have hl := h.1
  unfold appE
  rw [if_neg (by omega)]
  rcases h.2 with ⟨rfl, rfl⟩ | ⟨i, h1, h2, rfl, hr⟩
  · simp only [asSl_nil, runOut_need, runOut_val]
    have : l = [] := List.eq_nil_of_length_eq_zero (by omega)
    subst this
    refine ⟨⟨by omega, hb⟩, hK _ _ rfl (fun i _ hi => by rw [AH.push_row, if_neg (by omega)]) ⟨by simp [hm], .inr ⟨H.next, by omega, by omega, by simp, by rw [AH.push_row, if_pos rfl]; rfl⟩⟩⟩
  · simp only [asSl_some, hr, bindO_some, runOut_need, Nat.zero_add, ints_length, hl]
    refine ⟨⟨by omega, hb, Nat.le_refl _, .inl rfl⟩, ?_⟩
    rw [if_neg (by rw [Nat.add_mul]; have := Nat.mul_pos hc hk0; omega)]
    simp only [runOut_need, runOut_val]
    refine ⟨⟨trivial, trivial, hk0, trivial, trivial⟩, hK _ _ rfl (fun j hj hj2 => ?_) ⟨by simp [hm, hl, Nat.add_mul], .inr ⟨H.next, by omega, by omega, rfl, ?_⟩⟩⟩
    · rw [AH.push_row, if_neg (by rw [AH.drop_next]; omega), AH.drop_row, if_neg (by omega)]
    · rw [AH.push_row, AH.drop_next, if_pos rfl, seg_all _ _ (by rw [ints_length, hl]), ints_append]

theorem push_setCells (H : AH) (ty : TypeId) (rw : Bool) (cs ds : List Value) : (H.push ⟨ty, rw, cs⟩).setCells H.next ds = H.push ⟨ty, rw, ds⟩ := by
  unfold AH.setCells AH.push
  simp only [AH.mk.injEq, true_and]
  funext j
  by_cases h : j = H.next
  · subst h; simp
  · simp only [h, if_false]

theorem zeros_ints (n k : Nat) : zeros n (ints (List.replicate k 0)) = ints (List.replicate (n * k) 0) := by
  unfold zeros
  induction n with
  | zero => simp [ints]
  | succ n ih =>
    rw [List.replicate_succ, List.flatten_cons, ih, ints_append, List.replicate_append_replicate, Nat.succ_mul, Nat.add_comm]

/-- The first a elements of k cells copied. -/
def copyL (k : Nat) (l : List Int) (n a : Nat) : List Int := l.take (a * k) ++ List.replicate ((n - a) * k) 0
theorem copyL_length (k : Nat) (l : List Int) (n a : Nat) (hl : l.length = n * k) (ha : a ≤ n) : (copyL k l n a).length = n * k := by
  unfold copyL
  rw [List.length_append, List.length_take, List.length_replicate, hl, Nat.min_eq_left (Nat.mul_le_mul_right _ ha), ← Nat.add_mul]
  congr 1; omega
theorem copyL_zero (k : Nat) (l : List Int) (n : Nat) : copyL k l n 0 = List.replicate (n * k) 0 := by simp [copyL]
theorem copyL_all (k : Nat) (l : List Int) (n : Nat) (hl : l.length = n * k) : copyL k l n n = l := by simp [copyL, ← hl]
theorem copyL_step (k : Nat) (l : List Int) (n a : Nat) (hl : l.length = n * k) (ha : a < n) : splice (ints (copyL k l n a)) (a * k) (ints ((l.drop (a * k)).take k)) = ints (copyL k l n (a + 1)) := by
  have h1 : a * k + k ≤ n * k := by
    have := Nat.mul_le_mul_right k (show a + 1 ≤ n by omega)
    rwa [Nat.succ_mul] at this
  rw [ints_splice]
  congr 1
  have e1 : ((l.drop (a * k)).take k).length = k := by rw [List.length_take, List.length_drop]; omega
  have e2 : (l.take (a * k)).length = a * k := by rw [List.length_take]; omega
  unfold copyL
  rw [e1]
  have t1 : (l.take (a * k) ++ List.replicate ((n - a) * k) 0).take (a * k) = l.take (a * k) := by rw [List.take_append_of_le_length (by omega), List.take_of_length_le (by omega)]
  have t2 : (l.take (a * k) ++ List.replicate ((n - a) * k) (0 : Int)).drop (a * k + k) = List.replicate ((n - (a + 1)) * k) 0 := by
    rw [List.drop_append, e2, List.drop_of_length_le (by omega), List.nil_append, List.drop_replicate]
    congr 1
    have : (n - a) * k = (n - (a + 1)) * k + k := by rw [show n - a = (n - (a + 1)) + 1 by omega, Nat.succ_mul]
    omega
  rw [t1, t2, Nat.succ_mul, List.take_add]
theorem copyL_set (l : List Int) (n a : Nat) (hl : l.length = n) (ha : a < n) : (copyL 1 l n a).set a (l.getD a 0) = copyL 1 l n (a + 1) := by
  have h := copyL_step 1 l n a (by omega) ha
  simp only [Nat.mul_one] at h
  have e : (l.drop a).take 1 = [l.getD a 0] := by
    rw [List.drop_eq_getElem_cons (by omega), List.take_succ_cons, List.take_zero]
    simp [show a < l.length by omega]
  rw [e] at h
  rw [ints_splice, ints_inj] at h
  rw [← h]
  have hc := copyL_length 1 l n a (by omega) (by omega)
  rw [List.set_eq_take_append_cons_drop, if_pos (by omega)]
  simp
end Go.Abs
end

section
set_option maxRecDepth 100000
set_option linter.defProp false
namespace Go.Abs
open Go Go.RowKit
/-- All stepping lemmas in one. -/
def Sall := And.intro (And.intro (And.intro (And.intro (And.intro (And.intro (And.intro (@awp_skip) (@awp_ret)) (And.intro (@awp_exit) (And.intro (@awp_seq) (@awp_cond)))) (And.intro (And.intro (@awp_block) (And.intro (@awp_region) (@awpOps_cons))) (And.intro (@awpOps_guard) (And.intro (@awpOps_nil) (@evo_tmp))))) (And.intro (And.intro (And.intro (@evo_int) (@evo_bool)) (And.intro (@evo_func) (And.intro (@evo_nil) (@evo_str)))) (And.intro (And.intro (@evs_nil) (And.intro (@evs_cons) (@evp_nil))) (And.intro (@evp_cons) (And.intro (@bindO_some) (@asI_int)))))) (And.intro (And.intro (And.intro (And.intro (@asB_bool) (@asP_ptr)) (And.intro (@asSl_nil) (And.intro (@asSl_some) (@asAgg_agg)))) (And.intro (And.intro (@asTup_tup) (And.intro (@asStr_str) (@asFn_fn))) (And.intro (@asCells_agg) (And.intro (@asCells_int) (@asCells_bool))))) (And.intro (And.intro (And.intro (@asCells_slice) (@asCells_str)) (And.intro (@asCells_fn) (And.intro (@asCells_ptr) (@slT_sl)))) (And.intro (And.intro (@stT_st) (And.intro (@oI_none) (@oI_some))) (And.intro (@runOut_val) (And.intro (@runOut_unit) (@runOut_call))))))) (And.intro (And.intro (And.intro (And.intro (And.intro (@runOut_need) (@condW_tt)) (And.intro (@condW_tf) (And.intro (@condW_ft) (@condW_ff)))) (And.intro (And.intro (@condW_undef) (And.intro (@condC_true) (@condC_false))) (And.intro (@updO_some) (And.intro (@updO_none) (@upd_apply))))) (And.intro (And.intro (And.intro (@seqQ_normal) (@seqQ_ret)) (And.intro (@seqQ_exit) (And.intro (@blockQ_normal) (@blockQ_ret)))) (And.intro (And.intro (@blockQ_exit) (And.intro (@retQ_ret) (@retQ_normal))) (And.intro (@resL_nil) (And.intro (@resL_cons) (@res1_tmp)))))) (And.intro (And.intro (And.intro (And.intro (@pack_0) (@pack_1)) (And.intro (@pack_2) (And.intro (@AH.push_row) (@AH.push_next)))) (And.intro (And.intro (@AH.setCells_row) (And.intro (@AH.setCells_next) (@AH.drop_row))) (And.intro (@AH.drop_next) (And.intro (@List.getD_cons_zero.{0}) (@List.getD_cons_succ.{0}))))) (And.intro (And.intro (And.intro (@List.getD_nil.{0}) (And.intro (@List.getElem?_cons_zero.{0}) (@List.getElem?_cons_succ.{0}))) (And.intro (@Option.bind_some.{0, 0}) (And.intro (@Option.some.injEq.{0}) (And.intro (@exists_eq_left'.{0}) (@exists_eq_left'.{1}))))) (And.intro (And.intro (@Bool.false_eq_true) (And.intro (@true_and) (@and_true))) (And.intro (@List.toList_toArray.{0}) (And.intro (@List.cons_append.{0}) (@List.nil_append.{0})))))))) (And.intro (And.intro (And.intro (And.intro (And.intro (And.intro (@placeT_array) (@placeT_struct)) (And.intro (@placesOf_nil) (And.intro (@placesOf_cons) (@fillL_nil)))) (And.intro (And.intro (@fillL_cons) (And.intro (@cells_int) (@cells_bool))) (And.intro (@cells_slice) (And.intro (@cells_str) (@cells_agg))))) (And.intro (And.intro (And.intro (@noTuple_int) (@noTuple_bool)) (And.intro (@noTuple_slice) (And.intro (@noTuple_str) (@noTuple_agg)))) (And.intro (And.intro (@one_int) (And.intro (@one_bool) (@one_slice))) (And.intro (@one_str) (And.intro (@one_ptr) (@one_func)))))) (And.intro (And.intro (And.intro (And.intro (@splice_nil0) (@splice_cons0)) (And.intro (@splice_succ) (And.intro (@seg_zero) (@seg_cons0)))) (And.intro (And.intro (@seg_succ) (And.intro (@seg_ints14) (@splice_ints14))) (And.intro (@ints_zero) (And.intro (@ints_length) (@List.length_replicate.{0}))))) (And.intro (And.intro (And.intro (@List.length_cons.{0}) (And.intro (@List.length_nil.{0}) (@Nat.zero_add))) (And.intro (@Nat.add_zero) (And.intro (@Nat.zero_mul) (@Nat.mul_one)))) (And.intro (And.intro (@Nat.one_mul) (And.intro (@List.size_toArray.{0}) (@and_self))) (And.intro (@Nat.le_refl) (And.intro (@Option.map_some.{0, 0}) (And.intro (@ite_true.{0}) (@ite_true.{1})))))))) (And.intro (And.intro (And.intro (And.intro (And.intro (And.intro (@ite_false.{0}) (@ite_false.{1})) (@res1_cell)) (And.intro (@resC_ptr) (And.intro (@Nat.left_eq_add) (@Nat.add_eq_left)))) (And.intro (And.intro (@Nat.succ_ne_self) (And.intro (@Nat.add_left_cancel_iff) (@Nat.add_right_cancel_iff))) (And.intro (@awpD_nil) (And.intro (@awpD_cons) (@awpD_guard))))) (And.intro (And.intro (And.intro (@true_or) (And.intro (@ne_eq.{0}) (@ne_eq.{1}))) (And.intro (@Nat.one_ne_zero) (And.intro (@not_false_eq_true) (@Int.toNat_natCast)))) (And.intro (And.intro (@Value.int.injEq) (And.intro (@Value.bool.injEq) (And.intro (@implies_true.{0}) (@implies_true.{1})))) (And.intro (@awpI_nil) (And.intro (@awpI_cons) (@stepI_op)))))) (And.intro (And.intro (And.intro (And.intro (@stepI_guard) (@add_n2)) (And.intro (@add_n3) (And.intro (@add_n4) (@add_n5)))) (And.intro (And.intro (@add_n6) (And.intro (@add_n7) (@add_n8))) (And.intro (@add_n9) (And.intro (@add_n10) (@add_n11))))) (And.intro (And.intro (And.intro (@add_n12) (And.intro (@ok_rw) (@ok_int))) (And.intro (@ok_bool) (And.intro (@ok_str) (@ok_slice)))) (And.intro (And.intro (@ok_ints) (And.intro (@holds_def) (@List.set_cons_zero.{0}))) (And.intro (@List.set_cons_succ.{0}) (And.intro (@Bool.not_true) (@Bool.not_false))))))))
end Go.Abs
end

section
set_option linter.unusedSimpArgs false
namespace Go.Proofs.Ytgkmdfjjlghecaa.A
open Go Go.Abs Go.RowKit
theorem ti2 : ti Try.prog 2 = some ⟨.int .i64, 1, 8, [.int .i64 0]⟩ := by kernel_rfl
theorem ti3 : ti Try.prog 3 = some ⟨.int .i64, 1, 8, [.int .i64 0]⟩ := by kernel_rfl
theorem ti4 : ti Try.prog 4 = some ⟨.bool, 1, 1, [.bool false]⟩ := by kernel_rfl
theorem ti45 : ti Try.prog 45 = some ⟨.array 14 2, 14, 112, ints (List.replicate 14 0)⟩ := by kernel_rfl
theorem ti46 : ti Try.prog 46 = some ⟨.array 14 2, 14, 112, ints (List.replicate 14 0)⟩ := by kernel_rfl
theorem ti38 : ti Try.prog 38 = some ⟨.slice 2, 1, 24, [.slice none 0 0]⟩ := by kernel_rfl
theorem ti25 : ti Try.prog 25 = some ⟨.slice 38, 1, 24, [.slice none 0 0]⟩ := by kernel_rfl
theorem ti30 : ti Try.prog 30 = some ⟨.slice 46, 1, 24, [.slice none 0 0]⟩ := by kernel_rfl
theorem ti22 : ti Try.prog 22 = some ⟨.slice 45, 1, 24, [.slice none 0 0]⟩ := by kernel_rfl
theorem ti32 : ti Try.prog 32 = some ⟨.struct [(0, 2), (1, 30)], 2, 32, [.int .i64 0, .slice none 0 0]⟩ := by kernel_rfl
theorem ti24 : ti Try.prog 24 = some ⟨.struct [(0, 2), (1, 22)], 2, 32, [.int .i64 0, .slice none 0 0]⟩ := by kernel_rfl
theorem ti95 : ti Try.prog 95 = some ⟨.other, 1, 8, [.nilFunc]⟩ := by kernel_rfl
theorem ti172 : ti Try.prog 172 = some ⟨.other, 1, 8, [.nilFunc]⟩ := by kernel_rfl
theorem ti169 : ti Try.prog 169 = some ⟨.slice 3, 1, 24, [.slice none 0 0]⟩ := by kernel_rfl
theorem ti165 : ti Try.prog 165 = some ⟨.array 2 3, 2, 16, [.int .i64 0, .int .i64 0]⟩ := by kernel_rfl
theorem ti166 : ti Try.prog 166 = some ⟨.slice 165, 1, 24, [.slice none 0 0]⟩ := by kernel_rfl
theorem ti65 : ti Try.prog 65 = some ⟨.struct [(0, 2), (1, 25)], 2, 32, [.int .i64 0, .slice none 0 0]⟩ := by kernel_rfl
theorem ti143 : ti Try.prog 143 = some ⟨.other, 1, 8, [.nilFunc]⟩ := by kernel_rfl
theorem ti87 : ti Try.prog 87 = some ⟨.slice 4, 1, 24, [.slice none 0 0]⟩ := by kernel_rfl
/-- A check of the list. -/
theorem listed (a b : Nat) : a + b = b + a ∧ True := by
  simp only [Sall,evalOp,init,binE,binI,unE,convE,okNil,builtE,gv,TD.isAgg,resV,↓reduceIte,Nat.reduceEqDiff,reduceCtorEq,Nat.reduceAdd,Nat.reduceMul,Nat.reduceLeDiff,quietOp,blindOp,Int.reduceEq,Int.reduceLT,Int.reduceLE,Nat.reduceLT, ti2,ti3,ti4,ti45,ti46,ti38,ti25,ti30,ti22,ti32,ti24,ti95,ti172,ti169,ti165,ti166,ti65,ti143,ti87]
  exact Nat.add_comm a b
end Go.Proofs.Ytgkmdfjjlghecaa.A
end

section
set_option linter.unusedSimpArgs false
set_option linter.unusedVariables false
namespace Go.Abs

def oddUp (n : Nat) : Nat := n - 1 + n % 2
/-- Whom x meets in round r of a circle of m. -/
def cb (m r x : Nat) : Int := Int.tmod (2 * (r : Int) - (x : Int) + (m : Int)) (m : Int)
/-- The round, the first k teams having been looked at. -/
def cmid (n r k : Nat) : List Int := (List.range 14).map fun x => if x < oddUp n then (if x < k ∨ cb (oddUp n) r x < k then cb (oddUp n) r x else x) else if x < n then x else 0
def cset (n r k : Nat) : List Int := (List.range 14).map fun x => if x < oddUp n then (if x < k then cb (oddUp n) r x else x) else if x < n then x else 0
def cround (n r : Nat) : List Int := if n % 2 = 0 then ((cmid n r (oddUp n)).set (n - 1) r).set r ((n : Int) - 1) else cmid n r (oddUp n)

theorem cmid_length (n r k : Nat) : (cmid n r k).length = 14 := by simp [cmid]
theorem cset_length (n r k : Nat) : (cset n r k).length = 14 := by simp [cset]
theorem cround_length (n r : Nat) : (cround n r).length = 14 := by unfold cround; split <;> simp [cmid_length]

theorem cb_range : ∀ n, n < 15 → ∀ r, r < oddUp n → ∀ x, x < oddUp n → 0 ≤ cb (oddUp n) r x ∧ cb (oddUp n) r x < oddUp n := by decide +kernel
theorem cmid_zero : ∀ n, n < 15 → ∀ r, r < oddUp n → cmid n r 0 = (List.range 14).map (fun (a : Nat) => if (a : Int) < (n : Int) then (a : Int) else 0) := by decide +kernel
theorem cmid_step : ∀ n, n < 15 → ∀ r, r < oddUp n → ∀ k, k < oddUp n → (if (k : Int) < cb (oddUp n) r k then ((cmid n r k).set k (cb (oddUp n) r k)).set (cb (oddUp n) r k).toNat k else cmid n r k) = cmid n r (k + 1) := by decide +kernel
theorem cset_zero : ∀ n, n < 15 → ∀ r, r < oddUp n → cset n r 0 = (List.range 14).map (fun (a : Nat) => if (a : Int) < (n : Int) then (a : Int) else 0) := by decide +kernel
theorem cset_step : ∀ n, n < 15 → ∀ r, r < oddUp n → ∀ k, k < oddUp n → (cset n r k).set k (cb (oddUp n) r k) = cset n r (k + 1) := by decide +kernel
theorem cset_last : ∀ n, n < 15 → ∀ r, r < oddUp n → cset n r (oddUp n) = cmid n r (oddUp n) := by decide +kernel

def circleL (n k : Nat) : List Int := ((List.range k).map (cround n)).flatten
theorem circleL_length (n k : Nat) : (circleL n k).length = k * 14 := by
  induction k with
  | zero => simp [circleL]
  | succ k ih =>
    simp only [circleL, List.range_succ, List.map_append, List.map_cons, List.map_nil, List.flatten_append, List.flatten_cons, List.flatten_nil, List.append_nil, List.length_append, cround_length] at ih ⊢
    omega
theorem circleL_succ (n k : Nat) : circleL n (k + 1) = circleL n k ++ cround n k := by simp [circleL, List.range_succ]
end Go.Abs
end

section
set_option linter.unusedSimpArgs false
set_option linter.unusedVariables false
set_option maxRecDepth 100000
namespace Go.Proofs.Ytgkmdfjjlghecaa.A
open Go Go.Abs Go.RowKit

def freeL (n : Int) : List Int := (List.range 14).map fun (a : Nat) => if (a : Int) < n then (a : Int) else 0
theorem freeL_length (n : Int) : (freeL n).length = 14 := by simp [freeL]
theorem freeL_set (a : Int) (h : 0 ≤ a) (h' : a < 14) : (freeL a).set a.toNat a = freeL (a + 1) := by
  apply List.ext_getElem
  · simp [freeL]
  · intro i h1 h2
    simp only [freeL, List.getElem_set, List.getElem_map, List.getElem_range]
    split
    · rename_i e; rw [if_pos (by omega)]; omega
    · rename_i e; split <;> split <;> omega

theorem free_c (n : Int) (hn : n ≤ 14) (H : AH) : ACalls Try.prog 169 [.int .i64 n] H (is (.agg (ints (freeL n)).toArray) H) := by
  refine acalls_up (flat_ints _) (acalls_of_awp [.cell 2 46] Try.func169 (by kernel_rfl) rfl rfl (Nat.le_of_ble_eq_true rfl) (by kernel_rfl) ?_)
  try simp (disch := first | omega | (simp only [ints_length, freeL_length, List.length_replicate]; done) | (simp only [ints_length, freeL_length, List.length_replicate]; omega)) only [Sall,evalOp,init,binE,binI,unE,convE,okNil,builtE,gv,TD.isAgg,resV,↓reduceIte,Nat.reduceEqDiff,reduceCtorEq,Nat.reduceAdd,Nat.reduceMul,Nat.reduceLeDiff,quietOp,blindOp,Int.reduceEq,Int.reduceLT,Int.reduceLE,Nat.reduceLT,ti2,ti3,ti4,ti45,ti46,ti38,ti25,ti30,ti22,ti32,ti24,ti95,ti172,ti169,ti165,ti166,ti65,ti143,ti87, true_and]
  refine awp_loop (fun m t H' => ∃ a : Int, m = (n - a).toNat ∧ 0 ≤ a ∧ a ≤ 14 ∧ (a ≤ n ∨ a = 0) ∧ t 7 = .int .i64 a ∧ t 6 = .int .i64 n ∧ t 3 = .pointer (some ⟨H.next + 1, 0, none⟩) ∧ t 2 = .pointer (some ⟨H.next, 0, none⟩) ∧ Up H.next H H' ∧
    H'.row H.next = some ⟨46, true, ints (List.replicate 14 0)⟩ ∧ H'.row (H.next + 1) = some ⟨46, true, ints (freeL a)⟩) n.toNat ?_ ?_
  · refine ⟨0, by omega, by omega, by omega, by omega, ?_⟩
    try simp (disch := first | omega | (simp only [ints_length, freeL_length, List.length_replicate]; done) | (simp only [ints_length, freeL_length, List.length_replicate]; omega)) only [Sall,evalOp,init,binE,binI,unE,convE,okNil,builtE,gv,TD.isAgg,resV,↓reduceIte,Nat.reduceEqDiff,reduceCtorEq,Nat.reduceAdd,Nat.reduceMul,Nat.reduceLeDiff,quietOp,blindOp,Int.reduceEq,Int.reduceLT,Int.reduceLE,Nat.reduceLT,ti2,ti3,ti4,ti45,ti46,ti38,ti25,ti30,ti22,ti32,ti24,ti95,ti172,ti169,ti165,ti166,ti65,ti143,ti87, true_and]
    refine ⟨(((Up.refl _ H).push (by omega) _).push (Nat.le_succ _) _).set (by omega) _, ?_⟩
    exact congrArg (fun l => Row.mk _ true (ints l)) (by decide : List.replicate 14 0 = freeL 0)
  · rintro m t H' ⟨a, hm, h0, h14, han, h7, h6, h3, h2, hup, hr0, hr1⟩
    try simp (disch := first | omega | (simp only [ints_length, freeL_length, List.length_replicate]; done) | (simp only [ints_length, freeL_length, List.length_replicate]; omega)) only [Sall,evalOp,init,binE,binI,unE,convE,okNil,builtE,gv,TD.isAgg,resV,↓reduceIte,Nat.reduceEqDiff,reduceCtorEq,Nat.reduceAdd,Nat.reduceMul,Nat.reduceLeDiff,quietOp,blindOp,Int.reduceEq,Int.reduceLT,Int.reduceLE,Nat.reduceLT,ti2,ti3,ti4,ti45,ti46,ti38,ti25,ti30,ti22,ti32,ti24,ti95,ti172,ti169,ti165,ti166,ti65,ti143,ti87, h7, h6]
    refine condC_dec (fun h => ?_) (fun h => ?_)
    · try simp (disch := first | omega | (simp only [ints_length, freeL_length, List.length_replicate]; done) | (simp only [ints_length, freeL_length, List.length_replicate]; omega)) only [Sall,evalOp,init,binE,binI,unE,convE,okNil,builtE,gv,TD.isAgg,resV,↓reduceIte,Nat.reduceEqDiff,reduceCtorEq,Nat.reduceAdd,Nat.reduceMul,Nat.reduceLeDiff,quietOp,blindOp,Int.reduceEq,Int.reduceLT,Int.reduceLE,Nat.reduceLT,ti2,ti3,ti4,ti45,ti46,ti38,ti25,ti30,ti22,ti32,ti24,ti95,ti172,ti169,ti165,ti166,ti65,ti143,ti87, h7, h6, h3, h2, hr1, hr0, ints_set, w64, freeL_set]
      refine ⟨⟨h0, by omega⟩, by rw [freeL_length]; omega, (n - (a + 1)).toNat, by omega, a + 1, rfl, by omega, by omega, by omega, rfl, hup.set (by omega) _, rfl⟩
    · try simp (disch := first | omega | (simp only [ints_length, freeL_length, List.length_replicate]; done) | (simp only [ints_length, freeL_length, List.length_replicate]; omega)) only [Sall,evalOp,init,binE,binI,unE,convE,okNil,builtE,gv,TD.isAgg,resV,↓reduceIte,Nat.reduceEqDiff,reduceCtorEq,Nat.reduceAdd,Nat.reduceMul,Nat.reduceLeDiff,quietOp,blindOp,Int.reduceEq,Int.reduceLT,Int.reduceLE,Nat.reduceLT,ti2,ti3,ti4,ti45,ti46,ti38,ti25,ti30,ti22,ti32,ti24,ti95,ti172,ti169,ti165,ti166,ti65,ti143,ti87, h7, h6, h3, h2, hr1, hr0, freeL_length]
      refine ⟨?_, hup.set (by omega) _⟩
      rcases han with h | h
      · rw [show a = n by omega]
      · subst h; congr 3; simp only [freeL]; apply List.map_congr_left; intro x hx; rw [if_neg (by omega), if_neg (by omega)]

theorem freeS_c (n : Int) (hn : n ≤ 14) (H : AH) : ACalls Try.prog 97 [.int .i64 n] H (is (.agg (ints (freeL n)).toArray) H) := by
  refine acalls_up (flat_ints _) (acalls_of_awp [.cell 2 46] Try.func97 (by kernel_rfl) rfl rfl (Nat.le_of_ble_eq_true rfl) (by kernel_rfl) ?_)
  try simp (disch := first | omega | (simp only [ints_length, freeL_length, List.length_replicate]; done) | (simp only [ints_length, freeL_length, List.length_replicate]; omega)) only [Sall,evalOp,init,binE,binI,unE,convE,okNil,builtE,gv,TD.isAgg,resV,↓reduceIte,Nat.reduceEqDiff,reduceCtorEq,Nat.reduceAdd,Nat.reduceMul,Nat.reduceLeDiff,quietOp,blindOp,Int.reduceEq,Int.reduceLT,Int.reduceLE,Nat.reduceLT,ti2,ti3,ti4,ti45,ti46,ti38,ti25,ti30,ti22,ti32,ti24,ti95,ti172,ti169,ti165,ti166,ti65,ti143,ti87, true_and]
  refine awp_loop (fun m t H' => ∃ a : Int, m = (n - a).toNat ∧ 0 ≤ a ∧ a ≤ 14 ∧ (a ≤ n ∨ a = 0) ∧ t 4 = .int .i64 a ∧ t 0 = .int .i64 n ∧ t 3 = .pointer (some ⟨H.next + 1, 0, none⟩) ∧ t 2 = .pointer (some ⟨H.next, 0, none⟩) ∧ Up H.next H H' ∧
    H'.row H.next = some ⟨46, true, ints (List.replicate 14 0)⟩ ∧ H'.row (H.next + 1) = some ⟨46, true, ints (freeL a)⟩) n.toNat ?_ ?_
  · refine ⟨0, by omega, by omega, by omega, by omega, ?_⟩
    try simp (disch := first | omega | (simp only [ints_length, freeL_length, List.length_replicate]; done) | (simp only [ints_length, freeL_length, List.length_replicate]; omega)) only [Sall,evalOp,init,binE,binI,unE,convE,okNil,builtE,gv,TD.isAgg,resV,↓reduceIte,Nat.reduceEqDiff,reduceCtorEq,Nat.reduceAdd,Nat.reduceMul,Nat.reduceLeDiff,quietOp,blindOp,Int.reduceEq,Int.reduceLT,Int.reduceLE,Nat.reduceLT,ti2,ti3,ti4,ti45,ti46,ti38,ti25,ti30,ti22,ti32,ti24,ti95,ti172,ti169,ti165,ti166,ti65,ti143,ti87, true_and]
    refine ⟨(((Up.refl _ H).push (by omega) _).push (Nat.le_succ _) _).set (by omega) _, ?_⟩
    exact congrArg (fun l => Row.mk _ true (ints l)) (by decide : List.replicate 14 0 = freeL 0)
  · rintro m t H' ⟨a, hm, h0, h14, han, h7, h6, h3, h2, hup, hr0, hr1⟩
    try simp (disch := first | omega | (simp only [ints_length, freeL_length, List.length_replicate]; done) | (simp only [ints_length, freeL_length, List.length_replicate]; omega)) only [Sall,evalOp,init,binE,binI,unE,convE,okNil,builtE,gv,TD.isAgg,resV,↓reduceIte,Nat.reduceEqDiff,reduceCtorEq,Nat.reduceAdd,Nat.reduceMul,Nat.reduceLeDiff,quietOp,blindOp,Int.reduceEq,Int.reduceLT,Int.reduceLE,Nat.reduceLT,ti2,ti3,ti4,ti45,ti46,ti38,ti25,ti30,ti22,ti32,ti24,ti95,ti172,ti169,ti165,ti166,ti65,ti143,ti87, h7, h6]
    refine condC_dec (fun h => ?_) (fun h => ?_)
    · try simp (disch := first | omega | (simp only [ints_length, freeL_length, List.length_replicate]; done) | (simp only [ints_length, freeL_length, List.length_replicate]; omega)) only [Sall,evalOp,init,binE,binI,unE,convE,okNil,builtE,gv,TD.isAgg,resV,↓reduceIte,Nat.reduceEqDiff,reduceCtorEq,Nat.reduceAdd,Nat.reduceMul,Nat.reduceLeDiff,quietOp,blindOp,Int.reduceEq,Int.reduceLT,Int.reduceLE,Nat.reduceLT,ti2,ti3,ti4,ti45,ti46,ti38,ti25,ti30,ti22,ti32,ti24,ti95,ti172,ti169,ti165,ti166,ti65,ti143,ti87, h7, h6, h3, h2, hr1, hr0, ints_set, w64, freeL_set, freeL_length]
      refine ⟨⟨h0, by omega⟩, by omega, (n - (a + 1)).toNat, by omega, a + 1, rfl, by omega, by omega, by omega, rfl, hup.set (by omega) _, rfl⟩
    · try simp (disch := first | omega | (simp only [ints_length, freeL_length, List.length_replicate]; done) | (simp only [ints_length, freeL_length, List.length_replicate]; omega)) only [Sall,evalOp,init,binE,binI,unE,convE,okNil,builtE,gv,TD.isAgg,resV,↓reduceIte,Nat.reduceEqDiff,reduceCtorEq,Nat.reduceAdd,Nat.reduceMul,Nat.reduceLeDiff,quietOp,blindOp,Int.reduceEq,Int.reduceLT,Int.reduceLE,Nat.reduceLT,ti2,ti3,ti4,ti45,ti46,ti38,ti25,ti30,ti22,ti32,ti24,ti95,ti172,ti169,ti165,ti166,ti65,ti143,ti87, h7, h6, h3, h2, hr1, hr0, freeL_length]
      refine ⟨?_, hup.set (by omega) _⟩
      rcases han with h | h
      · rw [show a = n by omega]
      · subst h; congr 3; simp only [freeL]; apply List.map_congr_left; intro x hx; rw [if_neg (by omega), if_neg (by omega)]

theorem meet_c (i ty : Nat) (a b : Int) (l : List Int) (H : AH) (hr : H.row i = some ⟨ty, true, ints l⟩) (hl : l.length = 14) (ha : 0 ≤ a ∧ a < 14) (hb : 0 ≤ b ∧ b < 14) :
    ACalls Try.prog 171 [.pointer (some ⟨i, 0, none⟩), .int .i64 a, .int .i64 b] H (is (.tuple #[]) (H.setCells i (ints ((l.set a.toNat b).set b.toNat a)))) := by
  refine acalls_of_awp [] Try.func171 (by kernel_rfl) rfl rfl (Nat.le_of_ble_eq_true rfl) (by kernel_rfl) ?_
  try simp (disch := first | omega | (simp only [ints_length, freeL_length, List.length_replicate]; done) | (simp only [ints_length, freeL_length, List.length_replicate]; omega)) only [Sall,evalOp,init,binE,binI,unE,convE,okNil,builtE,gv,TD.isAgg,resV,↓reduceIte,Nat.reduceEqDiff,reduceCtorEq,Nat.reduceAdd,Nat.reduceMul,Nat.reduceLeDiff,quietOp,blindOp,Int.reduceEq,Int.reduceLT,Int.reduceLE,Nat.reduceLT,ti2,ti3,ti4,ti45,ti46,ti38,ti25,ti30,ti22,ti32,ti24,ti95,ti172,ti169,ti165,ti166,ti65,ti143,ti87, true_and]
  refine draw_in [0, 1, 2, 3, 4, 5, 6, 9, 7, 8, 10, 11] (by kernel_rfl) (by kernel_rfl) rfl ?_
  have e1 : (l.set a.toNat b).length = 14 := by simp [hl]
  try simp (disch := first | omega | (simp only [ints_length, freeL_length, List.length_replicate]; done) | (simp only [ints_length, freeL_length, List.length_replicate]; omega)) only [Sall,evalOp,init,binE,binI,unE,convE,okNil,builtE,gv,TD.isAgg,resV,↓reduceIte,Nat.reduceEqDiff,reduceCtorEq,Nat.reduceAdd,Nat.reduceMul,Nat.reduceLeDiff,quietOp,blindOp,Int.reduceEq,Int.reduceLT,Int.reduceLE,Nat.reduceLT,ti2,ti3,ti4,ti45,ti46,ti38,ti25,ti30,ti22,ti32,ti24,ti95,ti172,ti169,ti165,ti166,ti65,ti143,ti87, hr, ints_set, hl, e1, is, AH.setCells_setCells]
  refine ⟨⟨ha.1, by omega⟩, by omega, .inr (.inl (by kernel_rfl)), ⟨hb.1, by omega⟩, by omega, .inr (.inl (by kernel_rfl))⟩
end Go.Proofs.Ytgkmdfjjlghecaa.A
end

section
set_option linter.unusedSimpArgs false
set_option linter.unusedVariables false
set_option maxRecDepth 100000
namespace Go.Proofs.Ytgkmdfjjlghecaa.A
open Go Go.Abs Go.RowKit

/-- A fresh schedule: its rounds lie in rows of their own. -/
def FrS (q : Int) (n : Nat) (l : List Int) (H : AH) (v : Value) (H' : AH) : Prop := ∃ u, v = .agg #[.int .i64 q, u] ∧ Up H.next H H' ∧ Fr 14 46 H.next H'.next H' u n l

theorem circleS_c (n : Nat) (hn : 2 ≤ n ∧ n ≤ 14) (H : AH) : ACalls Try.prog 242 [.int .i64 n] H (FrS n (oddUp n) (circleL n (oddUp n)) H) := by
  refine acalls_of_awp [.cell 2 32] Try.func242 (by kernel_rfl) rfl rfl (Nat.le_of_ble_eq_true rfl) (by kernel_rfl) ?_
  have em : Int.tmod (n : Int) 2 = ((n % 2 : Nat) : Int) := rfl
  have em2 : (n : Int) - 1 + ((n % 2 : Nat) : Int) = (oddUp n : Nat) := by unfold oddUp; omega
  have hm2 : oddUp n ≤ 13 := by unfold oddUp; omega
  have hm3 : n = oddUp n ∨ n = oddUp n + 1 := by unfold oddUp; omega
  try simp (disch := first | omega | (simp only [ints_length, List.length_replicate, cround_length, cmid_length, cset_length]; done) | (simp only [ints_length, List.length_replicate, cround_length, cmid_length, cset_length]; omega)) only [Sall,evalOp,init,binE,binI,unE,convE,okNil,builtE,gv,TD.isAgg,resV,↓reduceIte,Nat.reduceEqDiff,reduceCtorEq,Nat.reduceAdd,Nat.reduceMul,Nat.reduceLeDiff,quietOp,blindOp,Int.reduceEq,Int.reduceLT,Int.reduceLE,Nat.reduceLT,ti2,ti3,ti4,ti45,ti46,ti38,ti25,ti30,ti22,ti32,ti24,ti95,ti172,ti169,ti165,ti166,ti65,ti143,ti87, em, w64, em2, zeros_zero]
  refine awp_loop (fun m t H' => ∃ (r : Nat) (u : Value) (lo hi : Nat), m = oddUp n - r ∧ r ≤ oddUp n ∧ t 5 = .int .i64 r ∧ t 3 = .int .i64 (oddUp n) ∧ t 0 = .int .i64 n ∧ t 2 = .pointer (some ⟨H.next, 0, none⟩) ∧ t 4 = .pointer (some ⟨H.next + 2, 0, none⟩) ∧
    Up H.next H H' ∧ H'.row H.next = some ⟨32, true, [.int .i64 0, .slice none 0 0]⟩ ∧ H'.row (H.next + 2) = some ⟨32, true, [.int .i64 n, u]⟩ ∧ Fr 14 46 lo hi H' u r (circleL n r) ∧ H.next < lo ∧ hi ≤ H'.next ∧ (hi ≤ H.next + 2 ∨ H.next + 2 < lo) ∧ H.next + 3 ≤ H'.next) (oddUp n) ?_ ?_
  · refine ⟨0, .slice (some ⟨H.next + 1, 0, some 14⟩) 0 0, H.next + 1, H.next + 2, by omega, by omega, ?_⟩
    try simp (disch := first | omega | (simp only [ints_length, List.length_replicate, cround_length, cmid_length, cset_length]; done) | (simp only [ints_length, List.length_replicate, cround_length, cmid_length, cset_length]; omega)) only [Sall,evalOp,init,binE,binI,unE,convE,okNil,builtE,gv,TD.isAgg,resV,↓reduceIte,Nat.reduceEqDiff,reduceCtorEq,Nat.reduceAdd,Nat.reduceMul,Nat.reduceLeDiff,quietOp,blindOp,Int.reduceEq,Int.reduceLT,Int.reduceLE,Nat.reduceLT,ti2,ti3,ti4,ti45,ti46,ti38,ti25,ti30,ti22,ti32,ti24,ti95,ti172,ti169,ti165,ti166,ti65,ti143,ti87, Int.natCast_zero]
    exact ⟨((((Up.refl _ H).push (by omega) _).push (Nat.le_succ _) _).push (Nat.le_succ_of_le (Nat.le_succ _)) _).set (by omega) _, ⟨by simp [circleL], .inr ⟨H.next + 1, by omega, by omega, rfl, by simp [AH.push_row, AH.setCells_row, AH.push_next, circleL, ints]⟩⟩, by omega, by omega⟩
  · rintro m t H' ⟨r, u, lo, hi, hm, hr, h5, h3, h0, h2, h4, hup, hr0, hr1, hfr, hlo, hhi, hx, hnx⟩
    try simp (disch := first | omega | (simp only [ints_length, List.length_replicate, cround_length, cmid_length, cset_length]; done) | (simp only [ints_length, List.length_replicate, cround_length, cmid_length, cset_length]; omega)) only [Sall,evalOp,init,binE,binI,unE,convE,okNil,builtE,gv,TD.isAgg,resV,↓reduceIte,Nat.reduceEqDiff,reduceCtorEq,Nat.reduceAdd,Nat.reduceMul,Nat.reduceLeDiff,quietOp,blindOp,Int.reduceEq,Int.reduceLT,Int.reduceLE,Nat.reduceLT,ti2,ti3,ti4,ti45,ti46,ti38,ti25,ti30,ti22,ti32,ti24,ti95,ti172,ti169,ti165,ti166,ti65,ti143,ti87, h5, h3]
    refine condC_dec (fun h => ?_) (fun h => ?_)
    · try simp (disch := first | omega | (simp only [ints_length, List.length_replicate, cround_length, cmid_length, cset_length]; done) | (simp only [ints_length, List.length_replicate, cround_length, cmid_length, cset_length]; omega)) only [Sall,evalOp,init,binE,binI,unE,convE,okNil,builtE,gv,TD.isAgg,resV,↓reduceIte,Nat.reduceEqDiff,reduceCtorEq,Nat.reduceAdd,Nat.reduceMul,Nat.reduceLeDiff,quietOp,blindOp,Int.reduceEq,Int.reduceLT,Int.reduceLE,Nat.reduceLT,ti2,ti3,ti4,ti45,ti46,ti38,ti25,ti30,ti22,ti32,ti24,ti95,ti172,ti169,ti165,ti166,ti65,ti143,ti87, h5, h3, h0, h4, h2]
      refine (freeS_c n (by omega) H').to ?_
      try simp (disch := first | omega | (simp only [ints_length, List.length_replicate, cround_length, cmid_length, cset_length]; done) | (simp only [ints_length, List.length_replicate, cround_length, cmid_length, cset_length]; omega)) only [Sall,evalOp,init,binE,binI,unE,convE,okNil,builtE,gv,TD.isAgg,resV,↓reduceIte,Nat.reduceEqDiff,reduceCtorEq,Nat.reduceAdd,Nat.reduceMul,Nat.reduceLeDiff,quietOp,blindOp,Int.reduceEq,Int.reduceLT,Int.reduceLE,Nat.reduceLT,ti2,ti3,ti4,ti45,ti46,ti38,ti25,ti30,ti22,ti32,ti24,ti95,ti172,ti169,ti165,ti166,ti65,ti143,ti87, h5, h3, h0, h4, h2, freeL_length]
      refine awp_loop (fun m' t H'' => ∃ k : Nat, m' = oddUp n - k ∧ k ≤ oddUp n ∧ t 7 = .int .i64 k ∧ t 5 = .int .i64 r ∧ t 6 = .pointer (some ⟨H'.next, 0, none⟩) ∧ t 3 = .int .i64 (oddUp n) ∧ t 0 = .int .i64 n ∧ t 2 = .pointer (some ⟨H.next, 0, none⟩) ∧ t 4 = .pointer (some ⟨H.next + 2, 0, none⟩) ∧
        Up H'.next H' H'' ∧ H''.next = H'.next + 1 ∧ H''.row H'.next = some ⟨46, true, ints (cset n r k)⟩) (oddUp n) ?_ ?_
      · refine ⟨0, by omega, by omega, ?_⟩
        try simp (disch := first | omega | (simp only [ints_length, List.length_replicate, cround_length, cmid_length, cset_length]; done) | (simp only [ints_length, List.length_replicate, cround_length, cmid_length, cset_length]; omega)) only [Sall,evalOp,init,binE,binI,unE,convE,okNil,builtE,gv,TD.isAgg,resV,↓reduceIte,Nat.reduceEqDiff,reduceCtorEq,Nat.reduceAdd,Nat.reduceMul,Nat.reduceLeDiff,quietOp,blindOp,Int.reduceEq,Int.reduceLT,Int.reduceLE,Nat.reduceLT,ti2,ti3,ti4,ti45,ti46,ti38,ti25,ti30,ti22,ti32,ti24,ti95,ti172,ti169,ti165,ti166,ti65,ti143,ti87, Int.natCast_zero, h5, h3, h0, h4, h2]
        refine ⟨((Up.refl _ H').push (by omega) _).set (by omega) _, ?_⟩
        rw [cset_zero n (by omega) r (by omega)]; rfl
      · rintro m' t H'' ⟨k, hm', hk, h7, h5, h6, h3, h0, h2, h4, hup2, hnx2, hr2⟩
        try simp (disch := first | omega | (simp only [ints_length, List.length_replicate, cround_length, cmid_length, cset_length]; done) | (simp only [ints_length, List.length_replicate, cround_length, cmid_length, cset_length]; omega)) only [Sall,evalOp,init,binE,binI,unE,convE,okNil,builtE,gv,TD.isAgg,resV,↓reduceIte,Nat.reduceEqDiff,reduceCtorEq,Nat.reduceAdd,Nat.reduceMul,Nat.reduceLeDiff,quietOp,blindOp,Int.reduceEq,Int.reduceLT,Int.reduceLE,Nat.reduceLT,ti2,ti3,ti4,ti45,ti46,ti38,ti25,ti30,ti22,ti32,ti24,ti95,ti172,ti169,ti165,ti166,ti65,ti143,ti87, h7, h3]
        refine condC_dec (fun hk' => ?_) (fun hk' => ?_)
        · have hb := cb_range n (by omega) r (by omega) k (by omega)
          have eb : Int.tmod (2 * (r : Int) + (oddUp n : Int) - (k : Int)) (oddUp n : Int) = cb (oddUp n) r k := by unfold cb; rw [show 2 * (r : Int) + (oddUp n : Int) - (k : Int) = 2 * (r : Int) - (k : Int) + (oddUp n : Int) by omega]
          have st := cset_step n (by omega) r (by omega) k (by omega)
          have hl := cset_length n r k
          try simp (disch := first | omega | (simp only [ints_length, List.length_replicate, cround_length, cmid_length, cset_length]; done) | (simp only [ints_length, List.length_replicate, cround_length, cmid_length, cset_length]; omega)) only [Sall,evalOp,init,binE,binI,unE,convE,okNil,builtE,gv,TD.isAgg,resV,↓reduceIte,Nat.reduceEqDiff,reduceCtorEq,Nat.reduceAdd,Nat.reduceMul,Nat.reduceLeDiff,quietOp,blindOp,Int.reduceEq,Int.reduceLT,Int.reduceLE,Nat.reduceLT,ti2,ti3,ti4,ti45,ti46,ti38,ti25,ti30,ti22,ti32,ti24,ti95,ti172,ti169,ti165,ti166,ti65,ti143,ti87, h7, h5, h3, h6, w64, eb, hr2, hl, ints_set, st, h0, h2, h4]
          exact ⟨by omega, ⟨by omega, by omega⟩, by omega, oddUp n - (k + 1), by omega, k + 1, rfl, by omega, by omega, hup2.set (Nat.le_refl _) _, hnx2, rfl⟩
        · have hkm : k = oddUp n := by omega
          subst hkm
          rw [cset_last n (by omega) r (by omega)] at hr2
          try simp (disch := first | omega | (simp only [ints_length, List.length_replicate, cround_length, cmid_length, cset_length]; done) | (simp only [ints_length, List.length_replicate, cround_length, cmid_length, cset_length]; omega)) only [Sall,evalOp,init,binE,binI,unE,convE,okNil,builtE,gv,TD.isAgg,resV,↓reduceIte,Nat.reduceEqDiff,reduceCtorEq,Nat.reduceAdd,Nat.reduceMul,Nat.reduceLeDiff,quietOp,blindOp,Int.reduceEq,Int.reduceLT,Int.reduceLE,Nat.reduceLT,ti2,ti3,ti4,ti45,ti46,ti38,ti25,ti30,ti22,ti32,ti24,ti95,ti172,ti169,ti165,ti166,ti65,ti143,ti87, h0, em]
          have ne1 : ¬ (H.next + 2 = H'.next) := by omega
          have hcl := cround_length n r
          have hml := cmid_length n r (oddUp n)
          have fin : ∀ H3 : AH, Up H'.next H' H3 → H3.next = H'.next + 1 → H3.row H'.next = some ⟨46, true, ints (cround n r)⟩ →
              H3.row (H.next + 2) = some ⟨32, true, [.int .i64 n, u]⟩ ∧ Fr 14 46 lo hi H3 u r (circleL n r) := fun H3 a b c =>
            ⟨by rw [a.row _ (by omega), hr1], hfr.same fun i _ hi => a.row i (by omega)⟩
          by_cases h2n : n % 2 = 0
          · have e0 : (((n % 2 : Nat) : Int) == 0) = true := by rw [h2n]; rfl
            have hm4 : n = oddUp n + 1 := by unfold oddUp; omega
            have ec : ((cmid n r (oddUp n)).set r ((n : Int) - 1)).set ((n : Int) - 1).toNat r = cround n r := by
              unfold cround; rw [if_pos h2n, show ((n : Int) - 1).toNat = n - 1 by omega, List.set_comm _ _ (by omega)]
            have hsl : ((cmid n r (oddUp n)).set r ((n : Int) - 1)).length = 14 := by rw [List.length_set, hml]
            try simp (disch := first | omega | (simp only [ints_length, List.length_replicate, cround_length, cmid_length, cset_length]; done) | (simp only [ints_length, List.length_replicate, cround_length, cmid_length, cset_length]; omega)) only [Sall,evalOp,init,binE,binI,unE,convE,okNil,builtE,gv,TD.isAgg,resV,↓reduceIte,Nat.reduceEqDiff,reduceCtorEq,Nat.reduceAdd,Nat.reduceMul,Nat.reduceLeDiff,quietOp,blindOp,Int.reduceEq,Int.reduceLT,Int.reduceLE,Nat.reduceLT,ti2,ti3,ti4,ti45,ti46,ti38,ti25,ti30,ti22,ti32,ti24,ti95,ti172,ti169,ti165,ti166,ti65,ti143,ti87, e0, h0, h5, h6, w64, hr2, hml, ints_set, hsl, ec, AH.setCells_setCells]
            refine ⟨⟨by omega, by omega⟩, by omega, ⟨by omega, by omega⟩, by omega, ?_⟩
            obtain ⟨g1, gf⟩ := fin (H''.setCells H'.next (ints (cround n r))) (hup2.set (Nat.le_refl _) _) hnx2 (by rw [AH.setCells_row, if_pos rfl, hr2]; rfl)
            have g2 : (H''.setCells H'.next (ints (cround n r))).row H'.next = some ⟨46, true, ints (cround n r)⟩ := by rw [AH.setCells_row, if_pos rfl, hr2]; rfl
            have g3 := hup2.set (Nat.le_refl _) (ints (cround n r))
            have g4 : (H''.setCells H'.next (ints (cround n r))).next = H'.next + 1 := hnx2
            revert g1 gf g2 g3 g4
            generalize H''.setCells H'.next (ints (cround n r)) = H3
            intro g1 gf g2 g3 g4
            try simp (disch := first | omega | (simp only [ints_length, List.length_replicate, cround_length, cmid_length, cset_length]; done) | (simp only [ints_length, List.length_replicate, cround_length, cmid_length, cset_length]; omega)) only [Sall,evalOp,init,binE,binI,unE,convE,okNil,builtE,gv,TD.isAgg,resV,↓reduceIte,Nat.reduceEqDiff,reduceCtorEq,Nat.reduceAdd,Nat.reduceMul,Nat.reduceLeDiff,quietOp,blindOp,Int.reduceEq,Int.reduceLT,Int.reduceLE,Nat.reduceLT,ti2,ti3,ti4,ti45,ti46,ti38,ti25,ti30,ti22,ti32,ti24,ti95,ti172,ti169,ti165,ti166,ti65,ti143,ti87, h4, h6, g1, g2, g4, hcl, slCells, zeros_one, ne_eq, reduceCtorEq]
            have h3f : Fr 14 46 lo hi (H3.push ⟨46, true, ints (cround n r)⟩) u r (circleL n r) := gf.same fun i _ hi => by rw [AH.push_row, if_neg (by omega)]
            refine appE_fr h3f rfl (by omega) (by rw [hcl]) (by omega) (by decide) (by omega) (by rw [AH.push_next]; omega) ?_
            intro v' H4 k1 k2 k3
            rw [AH.push_next] at k1 k2 k3
            have k4 : H4.row (H.next + 2) = some ⟨32, true, [.int .i64 n, u]⟩ := by rw [k2 _ (by omega) (by omega), AH.push_row, if_neg (by omega), g1]
            have k5 := k3.rd.one
            try simp (disch := first | omega | (simp only [ints_length, List.length_replicate, cround_length, cmid_length, cset_length]; done) | (simp only [ints_length, List.length_replicate, cround_length, cmid_length, cset_length]; omega)) only [Sall,evalOp,init,binE,binI,unE,convE,okNil,builtE,gv,TD.isAgg,resV,↓reduceIte,Nat.reduceEqDiff,reduceCtorEq,Nat.reduceAdd,Nat.reduceMul,Nat.reduceLeDiff,quietOp,blindOp,Int.reduceEq,Int.reduceLT,Int.reduceLE,Nat.reduceLT,ti2,ti3,ti4,ti45,ti46,ti38,ti25,ti30,ti22,ti32,ti24,ti95,ti172,ti169,ti165,ti166,ti65,ti143,ti87, h3, h6, h4, h0, h2, h5, k4, k5, w64, List.set_cons_succ, List.set_cons_zero]
            refine ⟨oddUp n - (r + 1), by omega, r + 1, v', H3.next + 1, H3.next + 2, rfl, by omega, by omega, ?_, ?_, rfl, ?_, by omega, by omega, by omega⟩
            · refine Up.set ⟨by omega, fun i hi => ?_⟩ (by omega) _
              rw [k2 i (by omega) (by omega), AH.push_row, if_neg (by omega), g3.row i (by omega), hup.row i hi]
            · rw [k2 _ (by omega) (by omega), AH.push_row, if_neg (by omega), g3.row _ (by omega), hr0]
            · rw [circleL_succ]
              refine k3.same ?_
              intro i hi _
              rw [AH.setCells_row, if_neg (by omega)]
          · have e0 : (((n % 2 : Nat) : Int) == 0) = false := by rw [beq_eq_false_iff_ne]; omega
            try simp (disch := first | omega | (simp only [ints_length, List.length_replicate, cround_length, cmid_length, cset_length]; done) | (simp only [ints_length, List.length_replicate, cround_length, cmid_length, cset_length]; omega)) only [Sall,evalOp,init,binE,binI,unE,convE,okNil,builtE,gv,TD.isAgg,resV,↓reduceIte,Nat.reduceEqDiff,reduceCtorEq,Nat.reduceAdd,Nat.reduceMul,Nat.reduceLeDiff,quietOp,blindOp,Int.reduceEq,Int.reduceLT,Int.reduceLE,Nat.reduceLT,ti2,ti3,ti4,ti45,ti46,ti38,ti25,ti30,ti22,ti32,ti24,ti95,ti172,ti169,ti165,ti166,ti65,ti143,ti87, e0, h0, h5, h6, w64]
            have ec : cmid n r (oddUp n) = cround n r := by
              unfold cround; rw [if_neg h2n]
            rw [ec] at hr2
            obtain ⟨g1, gf⟩ := fin H'' hup2 hnx2 hr2
            have g2 := hr2
            have g3 := hup2
            have g4 := hnx2
            revert g1 gf g2 g3 g4
            generalize H'' = H3
            intro g1 gf g2 g3 g4
            try simp (disch := first | omega | (simp only [ints_length, List.length_replicate, cround_length, cmid_length, cset_length]; done) | (simp only [ints_length, List.length_replicate, cround_length, cmid_length, cset_length]; omega)) only [Sall,evalOp,init,binE,binI,unE,convE,okNil,builtE,gv,TD.isAgg,resV,↓reduceIte,Nat.reduceEqDiff,reduceCtorEq,Nat.reduceAdd,Nat.reduceMul,Nat.reduceLeDiff,quietOp,blindOp,Int.reduceEq,Int.reduceLT,Int.reduceLE,Nat.reduceLT,ti2,ti3,ti4,ti45,ti46,ti38,ti25,ti30,ti22,ti32,ti24,ti95,ti172,ti169,ti165,ti166,ti65,ti143,ti87, h4, h6, g1, g2, g4, hcl, slCells, zeros_one, ne_eq, reduceCtorEq]
            have h3f : Fr 14 46 lo hi (H3.push ⟨46, true, ints (cround n r)⟩) u r (circleL n r) := gf.same fun i _ hi => by rw [AH.push_row, if_neg (by omega)]
            refine appE_fr h3f rfl (by omega) (by rw [hcl]) (by omega) (by decide) (by omega) (by rw [AH.push_next]; omega) ?_
            intro v' H4 k1 k2 k3
            rw [AH.push_next] at k1 k2 k3
            have k4 : H4.row (H.next + 2) = some ⟨32, true, [.int .i64 n, u]⟩ := by rw [k2 _ (by omega) (by omega), AH.push_row, if_neg (by omega), g1]
            have k5 := k3.rd.one
            try simp (disch := first | omega | (simp only [ints_length, List.length_replicate, cround_length, cmid_length, cset_length]; done) | (simp only [ints_length, List.length_replicate, cround_length, cmid_length, cset_length]; omega)) only [Sall,evalOp,init,binE,binI,unE,convE,okNil,builtE,gv,TD.isAgg,resV,↓reduceIte,Nat.reduceEqDiff,reduceCtorEq,Nat.reduceAdd,Nat.reduceMul,Nat.reduceLeDiff,quietOp,blindOp,Int.reduceEq,Int.reduceLT,Int.reduceLE,Nat.reduceLT,ti2,ti3,ti4,ti45,ti46,ti38,ti25,ti30,ti22,ti32,ti24,ti95,ti172,ti169,ti165,ti166,ti65,ti143,ti87, h3, h6, h4, h0, h2, h5, k4, k5, w64, List.set_cons_succ, List.set_cons_zero]
            refine ⟨oddUp n - (r + 1), by omega, r + 1, v', H3.next + 1, H3.next + 2, rfl, by omega, by omega, ?_, ?_, rfl, ?_, by omega, by omega, by omega⟩
            · refine Up.set ⟨by omega, fun i hi => ?_⟩ (by omega) _
              rw [k2 i (by omega) (by omega), AH.push_row, if_neg (by omega), g3.row i (by omega), hup.row i hi]
            · rw [k2 _ (by omega) (by omega), AH.push_row, if_neg (by omega), g3.row _ (by omega), hr0]
            · rw [circleL_succ]
              refine k3.same ?_
              intro i hi _
              rw [AH.setCells_row, if_neg (by omega)]
    · have hrm : r = oddUp n := by omega
      have hne : ¬ (H.next + 2 = H.next) := by omega
      try simp (disch := first | omega | (simp only [ints_length, List.length_replicate, cround_length, cmid_length, cset_length]; done) | (simp only [ints_length, List.length_replicate, cround_length, cmid_length, cset_length]; omega)) only [Sall,evalOp,init,binE,binI,unE,convE,okNil,builtE,gv,TD.isAgg,resV,↓reduceIte,Nat.reduceEqDiff,reduceCtorEq,Nat.reduceAdd,Nat.reduceMul,Nat.reduceLeDiff,quietOp,blindOp,Int.reduceEq,Int.reduceLT,Int.reduceLE,Nat.reduceLT,ti2,ti3,ti4,ti45,ti46,ti38,ti25,ti30,ti22,ti32,ti24,ti95,ti172,ti169,ti165,ti166,ti65,ti143,ti87, h4, h2, hr0, hr1]
      refine ⟨u, rfl, hup.set (Nat.le_refl _) _, ?_⟩
      rw [← hrm]
      exact (Fr.wide (hfr.same (H' := H'.setCells H.next [.int .i64 n, u]) fun i hi _ => by rw [AH.setCells_row, if_neg (by omega)]) (by omega) (by rw [AH.setCells_next]; omega))

/-- A fresh desk of two schedules, each in rows of its own. -/
def FrD (q q' : Int) (n n' : Nat) (l l' : List Int) (H : AH) (v : Value) (H' : AH) : Prop := ∃ p : Value × Value × Nat, v = .agg #[.int .i64 q, p.1, .int .i64 q', p.2.1] ∧
  Up H.next H H' ∧ H.next ≤ p.2.2 ∧ p.2.2 ≤ H'.next ∧ Fr 14 46 H.next p.2.2 H' p.1 n l ∧ Fr 14 46 p.2.2 H'.next H' p.2.1 n' l'

end Go.Proofs.Ytgkmdfjjlghecaa.A
end

section
set_option linter.unusedSimpArgs false
set_option linter.unusedVariables false
set_option maxRecDepth 100000
namespace Go.Proofs.Ytgkmdfjjlghecaa.A
open Go Go.Abs Go.RowKit

def szL (left n : Int) : Int := if left - n < 0 then -1 else left - n

theorem szRoundS_c (v : Value) (n : Nat) (l : List Int) (left : Int) (H : AH) (hv : Rd 14 H v n l) (hl : 0 ≤ left ∧ left ≤ 1048576) (hn : n ≤ 9223372036854775807) :
    ACalls Try.prog 81 [v, .int .i64 left] H (is (.int .i64 (szL left n)) H) := by
  refine acalls_of_awp [.tmp 4] Try.func81 (by kernel_rfl) rfl rfl (Nat.le_of_ble_eq_true rfl) (by kernel_rfl) ?_
  by_cases h : left - n < 0
  · try simp (disch := first | omega | (simp only [ints_length, List.length_replicate]; done) | (simp only [ints_length, List.length_replicate]; omega)) only [Sall,evalOp,init,binE,binI,unE,convE,okNil,builtE,gv,TD.isAgg,resV,↓reduceIte,Nat.reduceEqDiff,reduceCtorEq,Nat.reduceAdd,Nat.reduceMul,Nat.reduceLeDiff,quietOp,blindOp,Int.reduceEq,Int.reduceLT,Int.reduceLE,Nat.reduceLT,ti2,ti3,ti4,ti45,ti46,ti38,ti25,ti30,ti22,ti32,ti24,ti95,ti172,ti169,ti165,ti166,ti65,ti143,ti87, builtE, hv.len, w64, h, decide_true, is, szL]
  · try simp (disch := first | omega | (simp only [ints_length, List.length_replicate]; done) | (simp only [ints_length, List.length_replicate]; omega)) only [Sall,evalOp,init,binE,binI,unE,convE,okNil,builtE,gv,TD.isAgg,resV,↓reduceIte,Nat.reduceEqDiff,reduceCtorEq,Nat.reduceAdd,Nat.reduceMul,Nat.reduceLeDiff,quietOp,blindOp,Int.reduceEq,Int.reduceLT,Int.reduceLE,Nat.reduceLT,ti2,ti3,ti4,ti45,ti46,ti38,ti25,ti30,ti22,ti32,ti24,ti95,ti172,ti169,ti165,ti166,ti65,ti143,ti87, builtE, hv.len, w64, h, decide_false, is, szL]

theorem szSchedule_c (q : Int) (v : Value) (n : Nat) (l : List Int) (left : Int) (H : AH) (hv : Rd 14 H v n l) (hl : 0 ≤ left ∧ left ≤ 1048576) (hn : n ≤ 9223372036854775807) :
    ACalls Try.prog 11 [.agg #[.int .i64 q, v], .int .i64 left] H (is (.int .i64 (szL left n)) H) := by
  refine ACalls.wf (by kernel_rfl) fun hs => acalls_up rfl (acalls_of_awp [.tmp 4] Try.func11 (by kernel_rfl) rfl rfl (Nat.le_of_ble_eq_true rfl) (by kernel_rfl) ?_)
  have up : Up H.next H (H.push ⟨24, true, [.int .i64 q, v]⟩) := (Up.refl _ H).push (Nat.le_refl _) _
  try simp (disch := first | omega | (simp only [ints_length, List.length_replicate]; done) | (simp only [ints_length, List.length_replicate]; omega)) only [Sall,evalOp,init,binE,binI,unE,convE,okNil,builtE,gv,TD.isAgg,resV,↓reduceIte,Nat.reduceEqDiff,reduceCtorEq,Nat.reduceAdd,Nat.reduceMul,Nat.reduceLeDiff,quietOp,blindOp,Int.reduceEq,Int.reduceLT,Int.reduceLE,Nat.reduceLT,ti2,ti3,ti4,ti45,ti46,ti38,ti25,ti30,ti22,ti32,ti24,ti95,ti172,ti169,ti165,ti166,ti65,ti143,ti87, true_and]
  refine (szRoundS_c v n l left _ (hv.same (up.le hs).row) hl hn).to ?_
  by_cases h : left - n < 0
  · have e : szL left n = -1 := by unfold szL; rw [if_pos h]
    try simp (disch := first | omega | (simp only [ints_length, List.length_replicate]; done) | (simp only [ints_length, List.length_replicate]; omega)) only [Sall,evalOp,init,binE,binI,unE,convE,okNil,builtE,gv,TD.isAgg,resV,↓reduceIte,Nat.reduceEqDiff,reduceCtorEq,Nat.reduceAdd,Nat.reduceMul,Nat.reduceLeDiff,quietOp,blindOp,Int.reduceEq,Int.reduceLT,Int.reduceLE,Nat.reduceLT,ti2,ti3,ti4,ti45,ti46,ti38,ti25,ti30,ti22,ti32,ti24,ti95,ti172,ti169,ti165,ti166,ti65,ti143,ti87, e, decide_true]
    exact up
  · have e : szL left n = left - n := by unfold szL; rw [if_neg h]
    try simp (disch := first | omega | (simp only [ints_length, List.length_replicate]; done) | (simp only [ints_length, List.length_replicate]; omega)) only [Sall,evalOp,init,binE,binI,unE,convE,okNil,builtE,gv,TD.isAgg,resV,↓reduceIte,Nat.reduceEqDiff,reduceCtorEq,Nat.reduceAdd,Nat.reduceMul,Nat.reduceLeDiff,quietOp,blindOp,Int.reduceEq,Int.reduceLT,Int.reduceLE,Nat.reduceLT,ti2,ti3,ti4,ti45,ti46,ti38,ti25,ti30,ti22,ti32,ti24,ti95,ti172,ti169,ti165,ti166,ti65,ti143,ti87, e, h, decide_false]
    exact up

theorem toRound_c (r : List Int) (hr : r.length = 14) (H : AH) : ACalls Try.prog 158 [.agg (ints r).toArray] H (is (.agg (ints r).toArray) H) := by
  refine acalls_up (flat_ints _) (acalls_of_awp [.cell 2 46] Try.func158 (by kernel_rfl) rfl rfl (Nat.le_of_ble_eq_true rfl) (by kernel_rfl) ?_)
  try simp (disch := first | omega | (simp only [ints_length, List.length_replicate]; done) | (simp only [ints_length, List.length_replicate]; omega)) only [Sall,evalOp,init,binE,binI,unE,convE,okNil,builtE,gv,TD.isAgg,resV,↓reduceIte,Nat.reduceEqDiff,reduceCtorEq,Nat.reduceAdd,Nat.reduceMul,Nat.reduceLeDiff,quietOp,blindOp,Int.reduceEq,Int.reduceLT,Int.reduceLE,Nat.reduceLT,ti2,ti3,ti4,ti45,ti46,ti38,ti25,ti30,ti22,ti32,ti24,ti95,ti172,ti169,ti165,ti166,ti65,ti143,ti87, true_and]
  refine awp_loop (fun m t H' => ∃ a : Nat, m = 14 - a ∧ a ≤ 14 ∧ t 4 = .int .i64 a ∧ t 1 = .pointer (some ⟨H.next, 0, none⟩) ∧ t 2 = .pointer (some ⟨H.next + 1, 0, none⟩) ∧ t 3 = .pointer (some ⟨H.next + 2, 0, none⟩) ∧ Up H.next H H' ∧
    H'.row H.next = some ⟨45, true, ints r⟩ ∧ H'.row (H.next + 1) = some ⟨46, true, ints (List.replicate 14 0)⟩ ∧ H'.row (H.next + 2) = some ⟨46, true, ints (copyL 1 r 14 a)⟩) 14 ?_ ?_
  · refine ⟨0, by omega, by omega, ?_⟩
    try simp (disch := first | omega | (simp only [ints_length, List.length_replicate]; done) | (simp only [ints_length, List.length_replicate]; omega)) only [Sall,evalOp,init,binE,binI,unE,convE,okNil,builtE,gv,TD.isAgg,resV,↓reduceIte,Nat.reduceEqDiff,reduceCtorEq,Nat.reduceAdd,Nat.reduceMul,Nat.reduceLeDiff,quietOp,blindOp,Int.reduceEq,Int.reduceLT,Int.reduceLE,Nat.reduceLT,ti2,ti3,ti4,ti45,ti46,ti38,ti25,ti30,ti22,ti32,ti24,ti95,ti172,ti169,ti165,ti166,ti65,ti143,ti87, Int.natCast_zero]
    refine ⟨((((Up.refl _ H).push (by omega) _).push (Nat.le_succ _) _).push (Nat.le_succ_of_le (Nat.le_succ _)) _), ?_⟩
    rw [copyL_zero]
  · rintro m t H' ⟨a, hm, h14, h4, h1, h2, h3, hup, hr0, hr1, hr2⟩
    try simp (disch := first | omega | (simp only [ints_length, List.length_replicate]; done) | (simp only [ints_length, List.length_replicate]; omega)) only [Sall,evalOp,init,binE,binI,unE,convE,okNil,builtE,gv,TD.isAgg,resV,↓reduceIte,Nat.reduceEqDiff,reduceCtorEq,Nat.reduceAdd,Nat.reduceMul,Nat.reduceLeDiff,quietOp,blindOp,Int.reduceEq,Int.reduceLT,Int.reduceLE,Nat.reduceLT,ti2,ti3,ti4,ti45,ti46,ti38,ti25,ti30,ti22,ti32,ti24,ti95,ti172,ti169,ti165,ti166,ti65,ti143,ti87, h4]
    refine condC_dec (fun h => ?_) (fun h => ?_)
    · have hl := copyL_length 1 r 14 a (by omega) (by omega)
      have hst := copyL_set r 14 a hr (by omega)
      try simp (disch := first | omega | (simp only [ints_length, List.length_replicate]; done) | (simp only [ints_length, List.length_replicate]; omega)) only [Sall,evalOp,init,binE,binI,unE,convE,okNil,builtE,gv,TD.isAgg,resV,↓reduceIte,Nat.reduceEqDiff,reduceCtorEq,Nat.reduceAdd,Nat.reduceMul,Nat.reduceLeDiff,quietOp,blindOp,Int.reduceEq,Int.reduceLT,Int.reduceLE,Nat.reduceLT,ti2,ti3,ti4,ti45,ti46,ti38,ti25,ti30,ti22,ti32,ti24,ti95,ti172,ti169,ti165,ti166,ti65,ti143,ti87, h4, h1, h3, hr0, hr1, hr2, ints_get?, ints_set, hl, hst, w64]
      exact ⟨⟨by omega, by omega⟩, ⟨by omega, by omega⟩, by omega, 14 - (a + 1), by omega, a + 1, rfl, by omega, by omega, h2, hup.set (by omega) _, rfl⟩
    · have ha : a = 14 := by omega
      subst ha
      rw [copyL_all 1 r 14 (by omega)] at hr2
      try simp (disch := first | omega | (simp only [ints_length, List.length_replicate]; done) | (simp only [ints_length, List.length_replicate]; omega)) only [Sall,evalOp,init,binE,binI,unE,convE,okNil,builtE,gv,TD.isAgg,resV,↓reduceIte,Nat.reduceEqDiff,reduceCtorEq,Nat.reduceAdd,Nat.reduceMul,Nat.reduceLeDiff,quietOp,blindOp,Int.reduceEq,Int.reduceLT,Int.reduceLE,Nat.reduceLT,ti2,ti3,ti4,ti45,ti46,ti38,ti25,ti30,ti22,ti32,ti24,ti95,ti172,ti169,ti165,ti166,ti65,ti143,ti87, h4, h2, h3, hr0, hr1, hr2, hr]
      exact hup.set (by omega) _

theorem toRoundS_c (v : Value) (n : Nat) (l : List Int) (H : AH) (hv : Rd 14 H v n l) (hn : n ≤ 4194304) :
    ACalls Try.prog 85 [v] H (fun u H' => Up H.next H H' ∧ Fr 14 46 H.next H'.next H' u n l) := by
  refine ACalls.wf (by kernel_rfl) fun hs => acalls_of_awp [.tmp 2] Try.func85 (by kernel_rfl) rfl rfl (Nat.le_of_ble_eq_true rfl) (by kernel_rfl) ?_
  have up : ∀ cs, Up H.next H (H.push ⟨46, true, cs⟩) := fun cs => (Up.refl _ H).push (Nat.le_refl _) _
  have hv1 : ∀ cs, Rd 14 (H.push ⟨46, true, cs⟩) v n l := fun cs => hv.same ((up cs).le hs).row
  try simp (disch := first | omega | (simp only [ints_length, List.length_replicate]; done) | (simp only [ints_length, List.length_replicate]; omega)) only [Sall,evalOp,init,binE,binI,unE,convE,okNil,builtE,gv,TD.isAgg,resV,↓reduceIte,Nat.reduceEqDiff,reduceCtorEq,Nat.reduceAdd,Nat.reduceMul,Nat.reduceLeDiff,quietOp,blindOp,Int.reduceEq,Int.reduceLT,Int.reduceLE,Nat.reduceLT,ti2,ti3,ti4,ti45,ti46,ti38,ti25,ti30,ti22,ti32,ti24,ti95,ti172,ti169,ti165,ti166,ti65,ti143,ti87, builtE, hv.len, zeros_ints]
  refine ⟨by omega, ?_⟩
  refine awp_loop (fun m t H' => ∃ a : Nat, m = n - a ∧ a ≤ n ∧ t 4 = .int .i64 a ∧ t 0 = v ∧ t 3 = .slice (some ⟨H.next, 0, some 14⟩) n n ∧ H' = H.push ⟨46, true, ints (copyL 14 l n a)⟩) n ?_ ?_
  · refine ⟨0, by omega, by omega, ?_⟩
    try simp (disch := first | omega | (simp only [ints_length, List.length_replicate]; done) | (simp only [ints_length, List.length_replicate]; omega)) only [Sall,evalOp,init,binE,binI,unE,convE,okNil,builtE,gv,TD.isAgg,resV,↓reduceIte,Nat.reduceEqDiff,reduceCtorEq,Nat.reduceAdd,Nat.reduceMul,Nat.reduceLeDiff,quietOp,blindOp,Int.reduceEq,Int.reduceLT,Int.reduceLE,Nat.reduceLT,ti2,ti3,ti4,ti45,ti46,ti38,ti25,ti30,ti22,ti32,ti24,ti95,ti172,ti169,ti165,ti166,ti65,ti143,ti87, Int.natCast_zero, copyL_zero]
  · rintro m t H' ⟨a, hm, h14, h4, h0, h3, rfl⟩
    try simp (disch := first | omega | (simp only [ints_length, List.length_replicate]; done) | (simp only [ints_length, List.length_replicate]; omega)) only [Sall,evalOp,init,binE,binI,unE,convE,okNil,builtE,gv,TD.isAgg,resV,↓reduceIte,Nat.reduceEqDiff,reduceCtorEq,Nat.reduceAdd,Nat.reduceMul,Nat.reduceLeDiff,quietOp,blindOp,Int.reduceEq,Int.reduceLT,Int.reduceLE,Nat.reduceLT,ti2,ti3,ti4,ti45,ti46,ti38,ti25,ti30,ti22,ti32,ti24,ti95,ti172,ti169,ti165,ti166,ti65,ti143,ti87, h4, h0, builtE, hv.len]
    refine condC_dec (fun h => ?_) (fun h => ?_)
    · have hst := copyL_step 14 l n a hv.1 (by omega)
      have hcl := copyL_length 14 l n a hv.1 (by omega)
      obtain ⟨i, o, u, c, r, rfl, hr, hc, hs1, hg⟩ := hv.get (by omega)
      have hne : ¬ i = H.next := by have := hs _ _ hr; omega
      try simp (disch := first | omega | (simp only [ints_length, List.length_replicate]; done) | (simp only [ints_length, List.length_replicate]; omega)) only [Sall,evalOp,init,binE,binI,unE,convE,okNil,builtE,gv,TD.isAgg,resV,↓reduceIte,Nat.reduceEqDiff,reduceCtorEq,Nat.reduceAdd,Nat.reduceMul,Nat.reduceLeDiff,quietOp,blindOp,Int.reduceEq,Int.reduceLT,Int.reduceLE,Nat.reduceLT,ti2,ti3,ti4,ti45,ti46,ti38,ti25,ti30,ti22,ti32,ti24,ti95,ti172,ti169,ti165,ti166,ti65,ti143,ti87, h4, h0, h3, hr, hne, hg]
      have hll : ((l.drop (a * 14)).take 14).length = 14 := by rw [List.length_take, List.length_drop, hv.1]; omega
      refine ⟨⟨by omega, by omega⟩, by omega, (toRound_c _ hll _).to ?_⟩
      try simp (disch := first | omega | (simp only [ints_length, List.length_replicate]; done) | (simp only [ints_length, List.length_replicate]; omega)) only [Sall,evalOp,init,binE,binI,unE,convE,okNil,builtE,gv,TD.isAgg,resV,↓reduceIte,Nat.reduceEqDiff,reduceCtorEq,Nat.reduceAdd,Nat.reduceMul,Nat.reduceLeDiff,quietOp,blindOp,Int.reduceEq,Int.reduceLT,Int.reduceLE,Nat.reduceLT,ti2,ti3,ti4,ti45,ti46,ti38,ti25,ti30,ti22,ti32,ti24,ti95,ti172,ti169,ti165,ti166,ti65,ti143,ti87, h4, h0, h3, hll, hcl, hst, push_setCells, w64]
      refine ⟨⟨by omega, by omega⟩, by omega, n - (a + 1), by omega, a + 1, ?_⟩
      and_intros <;> first | omega | rfl | assumption
    · have ha : a = n := by omega
      subst ha
      try simp (disch := first | omega | (simp only [ints_length, List.length_replicate]; done) | (simp only [ints_length, List.length_replicate]; omega)) only [Sall,evalOp,init,binE,binI,unE,convE,okNil,builtE,gv,TD.isAgg,resV,↓reduceIte,Nat.reduceEqDiff,reduceCtorEq,Nat.reduceAdd,Nat.reduceMul,Nat.reduceLeDiff,quietOp,blindOp,Int.reduceEq,Int.reduceLT,Int.reduceLE,Nat.reduceLT,ti2,ti3,ti4,ti45,ti46,ti38,ti25,ti30,ti22,ti32,ti24,ti95,ti172,ti169,ti165,ti166,ti65,ti143,ti87, h3]
      rw [copyL_all 14 l a hv.1]
      exact ⟨up _, hv.1, .inr ⟨H.next, Nat.le_refl _, Nat.lt_succ_self _, rfl, by rw [AH.push_row, if_pos rfl]⟩⟩

/-- A result that is a value known but for a part: told as there is one. -/
theorem toSchedule_c (q : Int) (v : Value) (n : Nat) (l : List Int) (H : AH) (hv : Rd 14 H v n l) (hn : n ≤ 4194304) :
    ACalls Try.prog 14 [.agg #[.int .i64 q, v]] H (FrS q n l H) := by
  refine ACalls.wf (by kernel_rfl) fun hs => acalls_of_awp [.cell 2 32] Try.func14 (by kernel_rfl) rfl rfl (Nat.le_of_ble_eq_true rfl) (by kernel_rfl) ?_
  have k0 := hv.one
  try simp (disch := first | omega | (simp only [ints_length, List.length_replicate]; done) | (simp only [ints_length, List.length_replicate]; omega)) only [Sall,evalOp,init,binE,binI,unE,convE,okNil,builtE,gv,TD.isAgg,resV,↓reduceIte,Nat.reduceEqDiff,reduceCtorEq,Nat.reduceAdd,Nat.reduceMul,Nat.reduceLeDiff,quietOp,blindOp,Int.reduceEq,Int.reduceLT,Int.reduceLE,Nat.reduceLT,ti2,ti3,ti4,ti45,ti46,ti38,ti25,ti30,ti22,ti32,ti24,ti95,ti172,ti169,ti165,ti166,ti65,ti143,ti87, k0]
  obtain ⟨H1, e1⟩ : ∃ H1, H1 = (((H.push ⟨24, true, [.int .i64 q, v]⟩).push ⟨32, true, [.int .i64 0, .slice none 0 0]⟩).push ⟨32, true, [.int .i64 0, .slice none 0 0]⟩).setCells (H.next + 2) [.int .i64 q, .slice none 0 0] := ⟨_, rfl⟩
  have up : Up H.next H H1 := by rw [e1]; exact ((((Up.refl _ H).push (by omega) _).push (Nat.le_succ _) _).push (Nat.le_succ_of_le (Nat.le_succ _)) _).set (by omega) _
  have n1 : H1.next = H.next + 3 := by rw [e1]; rfl
  have a0 : H1.row (H.next + 1) = some ⟨32, true, [.int .i64 0, .slice none 0 0]⟩ := by rw [e1]; simp [AH.setCells_row, AH.push_row, AH.push_next]
  have a1 : H1.row (H.next + 2) = some ⟨32, true, [.int .i64 q, .slice none 0 0]⟩ := by rw [e1]; simp [AH.setCells_row, AH.push_row, AH.push_next]
  rw [← e1]
  clear e1
  refine (toRoundS_c v n l H1 (hv.same (up.le hs).row) hn).mono ?_
  rintro u H2 ⟨up2, hfr⟩
  have b0 : H2.row (H.next + 1) = some ⟨32, true, [.int .i64 0, .slice none 0 0]⟩ := by rw [up2.row _ (by omega), a0]
  have b1 : H2.row (H.next + 2) = some ⟨32, true, [.int .i64 q, .slice none 0 0]⟩ := by rw [up2.row _ (by omega), a1]
  have k1 := hfr.rd.one
  have n2 := up2.next
  have ne1 : ¬ (H.next + 1 = H.next + 2) := by omega
  refine Holds.mp ?_
  try simp (disch := first | omega | (simp only [ints_length, List.length_replicate]; done) | (simp only [ints_length, List.length_replicate]; omega)) only [Sall,evalOp,init,binE,binI,unE,convE,okNil,builtE,gv,TD.isAgg,resV,↓reduceIte,Nat.reduceEqDiff,reduceCtorEq,Nat.reduceAdd,Nat.reduceMul,Nat.reduceLeDiff,quietOp,blindOp,Int.reduceEq,Int.reduceLT,Int.reduceLE,Nat.reduceLT,ti2,ti3,ti4,ti45,ti46,ti38,ti25,ti30,ti22,ti32,ti24,ti95,ti172,ti169,ti165,ti166,ti65,ti143,ti87, b0, b1, k1, ne1]
  refine ⟨u, rfl, ⟨by simp only [AH.setCells_next]; omega, fun i hi => ?_⟩, ?_⟩
  · rw [AH.setCells_row, if_neg (by omega), AH.setCells_row, if_neg (by omega), up2.row i (by omega), up.row i hi]
  · refine (Fr.same (Fr.wide hfr (lo' := H1.next) (hi' := H2.next) (by omega) (by omega)) ?_).wide (by omega) (by simp only [AH.setCells_next]; omega)
    intro i hi _
    rw [AH.setCells_row, if_neg (by omega), AH.setCells_row, if_neg (by omega)]

end Go.Proofs.Ytgkmdfjjlghecaa.A
end

section
namespace Go.Abs
open Go Go.RowKit

/-- A law without arguments. -/
theorem law_end0 {P : Program} {f : FuncId} (h : ∀ H, ACalls P f [] H (fun v _ => v = .bool true ∧ True)) (W : World) : Calls P f #[] W fun e W' => e = .returned (.bool true) ∧ Below W.heap.size W W' := by
  have h0 := (h ⟨0, fun _ => none⟩).2 W.heap.size id W [] ⟨fun i r hr => (by cases hr), fun i r hr => (by cases hr), fun i r hr => (by cases hr), fun i j r s hr => (by cases hr), Nat.le_refl _⟩ LV.nil
  refine h0.mono ?_
  rintro e w' ⟨v', v, H', ρ', rfl, ⟨rfl, _⟩, R', hV, E⟩
  rw [hV.bool]
  exact ⟨rfl, E.bl⟩
end Go.Abs
end

section
set_option linter.unusedVariables false
namespace Go.Abs
open Go Go.RowKit

/-- A cell of the given memory, as far as we know its kind. -/
def absV (n : Nat) (v : Value) : Value := if scal v = true then v else match v with
  | .slice (some _) 0 c => if 0 < n then .slice (some ⟨0, 1, some 0⟩) 0 c else undef
  | .slice (some ⟨b, o, none⟩) l c => if b < n then .slice (some ⟨b, o, none⟩) l c else undef
  | _ => undef

def absRow (w : World) (b : Nat) : List Value := match bsz w b with
  | some k => (List.range k).map fun j => match w.cell? ⟨b, j, none⟩ with | some v => absV w.heap.size v | none => undef
  | none => []

def given (w : World) : AH := ⟨w.heap.size, fun b => if b < w.heap.size then some ⟨0, false, absRow w b⟩ else none⟩

theorem absV_rel (w : World) (v : Value) (h : (absV w.heap.size v).oneCell' = true) : V1 id w.heap.size w (absV w.heap.size v) v := by
  unfold absV at h ⊢
  by_cases hs : scal v = true
  · rw [if_pos hs]; exact .scal v hs
  · rw [if_neg hs] at h ⊢
    split at h
    · rename_i a c
      by_cases hb : 0 < w.heap.size
      · simp only [hb, if_true]; exact .slu 0 1 0 c 0 a c hb (Nat.zero_le _) (.inr ⟨rfl, Nat.zero_lt_one⟩)
      · simp [hb, undef, Value.oneCell'] at h
    · rename_i b o l c _
      by_cases hb : b < w.heap.size
      · simp only [hb, if_true]; exact V1.sle (ρ := id) b o l c hb
      · simp [hb, undef, Value.oneCell'] at h
    · simp [undef, Value.oneCell'] at h

theorem given_rel (w : World) : Rel w.heap.size id (given w) w := by
  refine ⟨fun i r hr => ?_, fun i r hr hb => ?_, fun i r hr hb => ?_, fun i j r s hr hs hb => ?_, Nat.le_refl _⟩
  · simp only [given] at hr ⊢; split at hr
    · assumption
    · cases hr
  · simp only [given] at hr ⊢; split at hr
    · rename_i hi
      cases hr
      refine ⟨hi, fun j v hv ho => ?_⟩
      unfold absRow at hv
      split at hv
      · simp only [List.getElem?_map, Option.map_eq_some_iff] at hv
        obtain ⟨j', hj', hv⟩ := hv
        have : j' = j := by
          rw [List.getElem?_range (by simpa using (List.getElem?_eq_some_iff.1 hj').1)] at hj'
          simpa using hj'.symm
        subst this
        split at hv
        · rename_i v' hc
          subst hv
          exact ⟨v', hc, absV_rel w v' ho⟩
        · subst hv; simp [undef, Value.oneCell'] at ho
      · simp at hv
    · cases hr
  · simp only [given] at hr; split at hr
    · cases hr; simp at hb
    · cases hr
  · simp only [given] at hr; split at hr
    · cases hr; simp at hb
    · cases hr

/-- Where the given memory has integers, they are read. -/
theorem given_rd {w : World} {b o n k c : Nat} {zs : List Int} (hk0 : 0 < k) (hb : b < w.heap.size) (hl : zs.length = n * k) (hz : ∀ j, j < n * k → w.cell? ⟨b, o + j, none⟩ = some (.int .i64 (zs.getD j 0))) :
    Rd k (given w) (.slice (some ⟨b, o, none⟩) n c) n zs := by
  refine ⟨hl, ?_⟩
  by_cases hn : n * k = 0
  · have h0 : n = 0 := by
      rcases Nat.mul_eq_zero.1 hn with h | h
      · exact h
      · omega
    subst h0
    exact .inl ⟨rfl, _, c, rfl, fun h => by cases h⟩
  · have h1 := hz 0 (by omega)
    have hsz : ∃ cs t fr, w.heap[b]? = some (.cells cs t fr) := by
      unfold World.cell? at h1
      split at h1
      · rename_i cs t fr he; exact ⟨cs, t, fr, he⟩
      · cases h1
    obtain ⟨cs, t, fr, he⟩ := hsz
    have hk : bsz w b = some cs.size := by simp [bsz, he]
    have hcell : ∀ j, w.cell? ⟨b, j, none⟩ = cs[j]? := fun j => by simp [World.cell?, he]
    have hlast := hz (n * k - 1) (by omega)
    rw [hcell] at hlast
    have hlt := (Array.getElem?_eq_some_iff.1 hlast).1
    have hlen : (absRow w b).length = cs.size := by simp [absRow, hk]
    refine .inr ⟨b, o, none, c, ⟨0, false, absRow w b⟩, rfl, by simp [given, hb], by simp only [hlen]; omega, ?_⟩
    apply List.ext_getElem?
    intro j
    simp only [seg, List.getElem?_take, List.getElem?_drop]
    by_cases hj : j < n * k
    · rw [if_pos hj, ints_get? _ _ (by omega)]
      have h2 := hz j hj
      have h3 : o + j < cs.size := by omega
      simp only [absRow, hk, List.getElem?_map]
      rw [List.getElem?_range h3]
      simp only [Option.map_some, h2, absV, scal, if_true]
    · rw [if_neg hj, List.getElem?_eq_none (by rw [ints_length]; omega)]

/-! ### What the statement's reading tells -/
theorem mapM_each {α β : Type} {f : α → Option β} : ∀ {l : List α} {ys : List β}, l.mapM f = some ys → ∀ x ∈ l, ∃ y, f x = some y
  | [], _, _, x, hx => by cases hx
  | a :: l, ys, h, x, hx => by
    rw [List.mapM_cons] at h
    cases ha : f a with
    | none => rw [ha] at h; cases h
    | some y =>
      rw [ha] at h
      cases hl : l.mapM f with
      | none => rw [hl] at h; cases h
      | some zs =>
        rcases List.mem_cons.1 hx with rfl | hx
        · exact ⟨y, ha⟩
        · exact mapM_each hl x hx

section
variable {H : Type} {enc : TypeId × Value → H} {P : Program} {w : World} {base : Nat} {spare : Nat → Bool} {held : Bool}

/-- A type whose cells are all integers (int64 or int), as far as a reading tells. -/
def IntsOf (enc : TypeId × Value → H) (P : Program) (w : World) (base : Nat) (spare : Nat → Bool) (held : Bool) (e : TypeId) : Prop :=
  ∀ fuel cs x, DataW.trod enc P w base spare held fuel e cs = some x → ∀ c ∈ cs, ∃ z, c = Value.int .i64 z

theorem intsOf_int {e : TypeId} (he : P.underlying e = some (.int .i64)) : IntsOf enc P w base spare held e := by
  intro fuel cs x h c hc
  obtain ⟨n, rfl, _⟩ := DataW.trod_int he h
  simp at hc; exact ⟨n, hc⟩

theorem intsOf_array {t e : TypeId} {n : Nat} (ht : P.underlying t = some (.array n e)) (he : P.underlying e = some (.int .i64)) (hc : P.cellsOf e = 1) (hct : P.cellsOf t = n) : IntsOf enc P w base spare held t := by
  intro fuel cs x h c hc'
  cases fuel with
  | zero => simp [DataW.trod] at h
  | succ m =>
    unfold DataW.trod at h
    rw [ht] at h
    simp only at h
    split at h
    · rename_i hl
      obtain ⟨i, hi, rfl⟩ := List.mem_iff_getElem.1 hc'
      cases hm : (List.range n).mapM fun i => DataW.trod enc P w base spare held m e ((cs.drop (i * P.cellsOf e)).take (P.cellsOf e)) with
      | none => rw [hm] at h; cases h
      | some ys =>
        obtain ⟨y, hy⟩ := mapM_each hm i (by simp; omega)
        rw [hc, Nat.mul_one] at hy
        obtain ⟨z, hz, _⟩ := DataW.trod_int he hy
        rw [List.drop_eq_getElem_cons hi, List.take_succ_cons, List.take_zero] at hz
        exact ⟨z, by simpa using hz⟩
    · cases h

/-- A slice of elements whose cells are integers. -/
theorem trod_ints {t e : TypeId} {k fuel : Nat} {x : DataW H × List MemPlace} {v : Value} (ht : P.underlying t = some (.slice e)) (hk : P.cellsOf e = k) (hk0 : 0 < k) (hi : IntsOf enc P w base spare held e)
    (h : DataW.trod enc P w base spare held fuel t [v] = some x) (hv : v = .slice none 0 0 ∨ ∃ b o n c, v = .slice (some ⟨b, o, none⟩) n c ∧ b < w.heap.size) :
    ∃ n zs, Rd k (given w) v n zs ∧ V1 id w.heap.size w v v ∧ (v = .slice none 0 0 ∧ n = 0 ∨ ∃ b o c, v = .slice (some ⟨b, o, none⟩) n c) := by
  rcases hv with rfl | ⟨b, o, n, c, rfl, hb⟩
  · exact ⟨0, [], ⟨by simp, .inl ⟨rfl, _, 0, rfl, fun _ => rfl⟩⟩, .scal _ rfl, .inl ⟨rfl, rfl⟩⟩
  · rcases DataW.trod_slice ht h with ⟨h0, _⟩ | ⟨a, len, cap, elems, rest, m, _, hcs, _, _, _, _, hlen, hel, _, _⟩
    · simp at h0
    · simp only [List.cons.injEq, Value.slice.injEq, Option.some.injEq, and_true] at hcs
      obtain ⟨rfl, rfl, rfl⟩ := hcs
      have each : ∀ j, j < n * k → ∃ z, w.cell? ⟨b, o + j, none⟩ = some (.int .i64 z) := by
        intro j hj
        have hq : j / k < n := Nat.div_lt_of_lt_mul (by rw [Nat.mul_comm]; exact hj)
        have h1 := hel (j / k) hq
        rw [List.getElem?_eq_getElem (by omega), hk, Option.bind_eq_some_iff] at h1
        obtain ⟨cs', hc1, hc2⟩ := h1
        obtain ⟨_, hl, hc⟩ := World.cells?_some hc1
        have hr : j % k < k := Nat.mod_lt _ hk0
        have h2 := hc (j % k) hr
        obtain ⟨z, hz⟩ := hi _ _ _ hc2 (cs'[j % k]'(by omega)) (List.getElem_mem _)
        refine ⟨z, ?_⟩
        rw [List.getElem?_eq_getElem (by omega), hz] at h2
        rw [← h2]
        rw [Addr.add_lit, Addr.add_lit]
        have := Nat.div_add_mod j k
        rw [Nat.mul_comm] at this
        rw [Nat.add_assoc, this]
      let zs : List Int := (List.range (n * k)).map fun j => match w.cell? ⟨b, o + j, none⟩ with | some (.int _ z) => z | _ => 0
      refine ⟨n, zs, given_rd hk0 hb (by simp [zs]) (fun j hj => ?_), V1.sle (ρ := id) b o n c hb, .inr ⟨b, o, c, rfl⟩⟩
      obtain ⟨z, hz⟩ := each j hj
      rw [hz]
      simp [zs, hj, hz]
end

/-- A slice cell of an argument. -/
theorem ok_slice_cell {P : Program} {W : World} {b0 : Nat} {t e : TypeId} {v : Value} (ht : P.underlying t = some (.slice e)) (h : Cell.okWide P W .any b0 t v) :
    v = .slice none 0 0 ∨ ∃ b o n c, v = .slice (some ⟨b, o, none⟩) n c ∧ b < W.heap.size ∧ n ≤ 9223372036854775807 := by
  have h2 : Cell.ok P W .any b0 t v := by
    unfold Cell.okWide at h
    rw [ht] at h
    exact h
  unfold Cell.ok at h2
  rw [ht] at h2
  split at h2 <;> simp_all
  rename_i a len cap _
  obtain ⟨h3, h4, _, hsp, row, cells, hsh, _⟩ := h2
  have hb : a.block < W.heap.size := by
    unfold World.shape? at hsh
    cases hg : W.heap[a.block]? with
    | none => rw [hg] at hsh; cases hsh
    | some o => exact (Array.getElem?_eq_some_iff.1 hg).1
  obtain ⟨b, o, sp⟩ := a
  simp only at hsp
  subst hsp
  exact ⟨b, o, len, ⟨rfl, rfl⟩, hb, by omega⟩

def fieldsOf (P : Program) (t : TypeId) : Option (List (TypeId × Nat)) := match P.underlying t with
  | some (.struct fs) => some (fs.toList.map fun f => (f.type, f.offset))
  | _ => none

section
variable {H : Type} {enc : TypeId × Value → H} {P : Program} {w : World} {base : Nat} {spare : Nat → Bool} {held : Bool}

theorem trod_fields {t : TypeId} {l : List (TypeId × Nat)} {fuel : Nat} {cs : List Value} {x : DataW H × List MemPlace} (ht : fieldsOf P t = some l) (h : DataW.trod enc P w base spare held fuel t cs = some x) :
    ∃ n, ∀ p ∈ l, ∃ y, DataW.trod enc P w base spare held n p.1 ((cs.drop p.2).take (P.cellsOf p.1)) = some y := by
  unfold fieldsOf at ht
  split at ht
  · rename_i fs hu
    cases ht
    obtain ⟨xs, n, _, _, _, hl, hf⟩ := DataW.trod_struct hu h
    refine ⟨n, fun p hp => ?_⟩
    obtain ⟨f, hfm, rfl⟩ := List.mem_map.1 hp
    obtain ⟨i, hi, rfl⟩ := List.mem_iff_getElem.1 hfm
    have hi' : i < fs.size := by simpa using hi
    refine ⟨xs[i]'(by omega), ?_⟩
    rw [hf i (fs.toList[i]) (by simp [hi'])]
    exact List.getElem?_eq_getElem _
  · cases ht

/-- A cell of an argument of a struct type. -/
theorem ok_struct {W : World} {b0 : Nat} {t : TypeId} {v : Value} {l : List (TypeId × Nat)} {ts : List TypeId} (ht : fieldsOf P t = some l) (hc : P.cellTypes P.depth t = some ts) (h : Value.okWide P W .any b0 t v) :
    ∃ cs : Array Value, v = .agg cs ∧ cs.size = P.cellsOf t ∧ ∀ i u, cs[i]? = some u → ∃ e, ts[i % ts.length]? = some e ∧ Cell.okWide P W .any b0 e u := by
  unfold fieldsOf at ht
  split at ht
  · rename_i fs hu
    unfold Value.okWide at h
    rw [hu] at h
    obtain ⟨cs, rfl, hs, ts', h1, _, h2⟩ := h
    rw [hc] at h1
    cases h1
    exact ⟨cs, rfl, hs, h2⟩
  · cases ht
end

/-- A law whose arguments are read out of the given memory. -/
theorem law_end {P : Program} {f : FuncId} {args : List Value} {W : World} (hl : LV id W.heap.size W args args) (h : ACalls P f args (given W) (fun v _ => v = .bool true ∧ True)) :
    Calls P f args.toArray W fun e W' => e = .returned (.bool true) ∧ Below W.heap.size W W' := by
  refine (h.2 W.heap.size id W args (given_rel W) hl).mono ?_
  rintro e w' ⟨v', v, H', ρ', rfl, ⟨rfl, _⟩, R', hV, E⟩
  rw [hV.bool]
  exact ⟨rfl, E.bl⟩
end Go.Abs
end

section
set_option linter.unusedSimpArgs false
set_option linter.unusedVariables false
namespace Go.Abs
open Go Go.RowKit

/-- A slice of slices of elements of k integers reads ll. -/
def Rd2 (k : Nat) (H : AH) (v : Value) (ll : List (List Int)) : Prop :=
  (ll = [] ∧ ∃ a c, v = .slice a 0 c ∧ (a = none → c = 0)) ∨ ∃ i o u c r, v = .slice (some ⟨i, o, u⟩) ll.length c ∧ H.row i = some r ∧
    ∀ j, j < ll.length → ∃ x m, r.cells[o + j]? = some x ∧ Rd k H x m (ll.getD j [])

/-- A slice of slices that is all of its row; the inner ones lie in disjoint ranges, apart from the outer one. -/
def Fr2 (k ty ty' lo hi : Nat) (H : AH) (v : Value) (ll : List (List Int)) : Prop :=
  (ll = [] ∧ v = .slice none 0 0) ∨ ∃ (i : Nat) (vs : List Value) (b : Nat → Nat), lo ≤ i ∧ i < hi ∧ v = .slice (some ⟨i, 0, some 1⟩) ll.length ll.length ∧ H.row i = some ⟨ty, true, vs⟩ ∧ vs.length = ll.length ∧
    lo ≤ b 0 ∧ b ll.length ≤ hi ∧ (i < b 0 ∨ b ll.length ≤ i) ∧ (∀ j, b j ≤ b (j + 1)) ∧ ∀ j, j < ll.length → ∃ x m, vs[j]? = some x ∧ Fr k ty' (b j) (b (j + 1)) H x m (ll.getD j [])

theorem mono_of_step {b : Nat → Nat} (h : ∀ j, b j ≤ b (j + 1)) {i j : Nat} (hij : i ≤ j) : b i ≤ b j := by
  induction hij with
  | refl => exact Nat.le_refl _
  | step _ ih => exact Nat.le_trans ih (h _)

theorem Fr2.rd {k ty ty' lo hi : Nat} {H : AH} {v : Value} {ll : List (List Int)} (h : Fr2 k ty ty' lo hi H v ll) : Rd2 k H v ll := by
  rcases h with ⟨h1, h2⟩ | ⟨i, vs, b, h1, h2, rfl, hr, hl, _, _, _, _, hj⟩
  · exact .inl ⟨h1, none, 0, h2, fun _ => rfl⟩
  · refine .inr ⟨i, 0, some 1, _, _, rfl, hr, fun j hjl => ?_⟩
    obtain ⟨x, m, hx, hf⟩ := hj j hjl
    exact ⟨x, m, by simpa using hx, hf.rd⟩

theorem Fr2.same {k ty ty' lo hi : Nat} {H H' : AH} {v : Value} {ll : List (List Int)} (h : Fr2 k ty ty' lo hi H v ll) (hs : ∀ i, lo ≤ i → i < hi → H'.row i = H.row i) : Fr2 k ty ty' lo hi H' v ll := by
  rcases h with h | ⟨i, vs, b, h1, h2, hv, hr, hl, h3, h4, h5, h6, hj⟩
  · exact .inl h
  · refine .inr ⟨i, vs, b, h1, h2, hv, by rw [hs i h1 h2]; exact hr, hl, h3, h4, h5, h6, fun j hjl => ?_⟩
    obtain ⟨x, m, hx, hf⟩ := hj j hjl
    have m1 := mono_of_step h6 (Nat.zero_le j)
    have m2 := mono_of_step h6 (show j + 1 ≤ ll.length from hjl)
    exact ⟨x, m, hx, hf.same fun y a1 a2 => hs y (by omega) (by omega)⟩

theorem Fr2.wide {k ty ty' lo hi lo' hi' : Nat} {H : AH} {v : Value} {ll : List (List Int)} (h : Fr2 k ty ty' lo hi H v ll) (a : lo' ≤ lo) (c : hi ≤ hi') : Fr2 k ty ty' lo' hi' H v ll := by
  rcases h with h | ⟨i, vs, b, h1, h2, hv, hr, hl, h3, h4, h5, h6, hj⟩
  · exact .inl h
  · exact .inr ⟨i, vs, b, by omega, by omega, hv, hr, hl, by omega, by omega, h5, h6, hj⟩

theorem Rd2.same {k : Nat} {H H' : AH} {v : Value} {ll : List (List Int)} (h : Rd2 k H v ll) (hs : ∀ i r, H.row i = some r → H'.row i = some r) : Rd2 k H' v ll := by
  rcases h with h | ⟨i, o, u, c, r, hv, hr, hj⟩
  · exact .inl h
  · refine .inr ⟨i, o, u, c, r, hv, hs _ _ hr, fun j hjl => ?_⟩
    obtain ⟨x, m, hx, hf⟩ := hj j hjl
    exact ⟨x, m, hx, hf.same hs⟩

theorem Rd2.len {k : Nat} {H : AH} {v : Value} {ll : List (List Int)} (h : Rd2 k H v ll) (H' : AH) : asSl v (.val (.int .i64 0) H') (fun _ _ _ n _ => .val (.int .i64 (n : Int)) H') = .val (.int .i64 (ll.length : Int)) H' := by
  rcases h with ⟨rfl, a, c, rfl, _⟩ | ⟨i, o, u, c, r, rfl, hr, h3⟩
  · cases a <;> rfl
  · rfl
theorem Rd2.one {k : Nat} {H : AH} {v : Value} {ll : List (List Int)} (h : Rd2 k H v ll) : v.oneCell' = true := by
  rcases h with ⟨_, a, c, rfl, _⟩ | ⟨i, o, u, c, r, rfl, _⟩ <;> rfl

theorem ok_one {r : Row} {v : Value} (h : v.oneCell' = true) : Row.ok r [v] := .inr fun u hu => by simp at hu; rw [hu]; exact h

theorem Rd2.get {k : Nat} {H : AH} {v : Value} {ll : List (List Int)} (h : Rd2 k H v ll) {j : Nat} (hj : j < ll.length) :
    ∃ i o u c r x m, v = .slice (some ⟨i, o, u⟩) ll.length c ∧ H.row i = some r ∧ r.cells[o + j]? = some x ∧ Rd k H x m (ll.getD j []) ∧ Row.ok r [x] := by
  rcases h with ⟨rfl, _⟩ | ⟨i, o, u, c, r, rfl, hr, h3⟩
  · simp at hj
  · obtain ⟨x, m, hx, hf⟩ := h3 j hj
    exact ⟨i, o, u, c, r, x, m, rfl, hr, hx, hf, ok_one hf.one⟩

/-- All the integers, one behind the other. -/
theorem Rd.lenK1 {n : Nat} {H : AH} {v : Value} {l : List Int} (h : Rd 1 H v n l) : n = l.length := by rw [h.1]; omega
theorem Fr.lenK1 {ty lo hi n : Nat} {H : AH} {v : Value} {l : List Int} (h : Fr 1 ty lo hi H v n l) : n = l.length := by rw [h.1]; omega

theorem ACalls.exH {P : Program} {f : FuncId} {args : List Value} {H : AH} {α : Type} {g : α → Value} {X : α → Prop} {R : Value → AH → Prop} (h : ACalls P f args H (fun v H' => ∃ u, v = g u ∧ H' = H ∧ X u)) (k : ∀ u, X u → R (g u) H) : ACalls P f args H R :=
  h.mono fun v H' hh => by obtain ⟨u, rfl, rfl, hx⟩ := hh; exact k _ hx

/-- How many integers in all. -/
def tot (ll : List (List Int)) : Nat := (ll.map List.length).sum
theorem tot_take_succ (ll : List (List Int)) (a : Nat) (ha : a < ll.length) : tot (ll.take (a + 1)) = tot (ll.take a) + (ll.getD a []).length := by
  unfold tot
  rw [List.take_add_one, List.map_append, List.sum_append, List.getElem?_eq_getElem ha, List.getD_eq_getElem?_getD, List.getElem?_eq_getElem ha]
  simp
theorem tot_take_le (ll : List (List Int)) (a : Nat) : tot (ll.take a) ≤ tot ll := by
  have h := List.take_append_drop a ll
  have : tot ll = tot (ll.take a) + tot (ll.drop a) := by
    unfold tot
    rw [← List.sum_append, ← List.map_append, h]
  omega
theorem tot_mem {ll : List (List Int)} {l : List Int} (h : l ∈ ll) : l.length ≤ tot ll := by
  unfold tot
  induction ll with
  | nil => cases h
  | cons x ll ih =>
    rw [List.map_cons, List.sum_cons]
    rcases List.mem_cons.1 h with rfl | h
    · omega
    · have := ih h; omega
theorem getD_mem {ll : List (List Int)} {a : Nat} (ha : a < ll.length) : ll.getD a [] ∈ ll := by
  rw [List.getD_eq_getElem?_getD, List.getElem?_eq_getElem ha]; exact List.getElem_mem _

theorem zeros_nil (n : Nat) : zeros n [.slice none 0 0] = List.replicate n (.slice none 0 0) := by
  unfold zeros
  induction n with
  | zero => rfl
  | succ n ih => simp only [List.replicate_succ, List.flatten_cons, ih]; rfl

/-- An append of one fresh slice to a fresh slice of slices. -/
theorem appE_fr2 {P : Program} {E : TI} {k ty ty' lo hi m : Nat} {H : AH} {v x : Value} {ll : List (List Int)} {l : List Int} {K : Value → AH → Prop} (h : Fr2 k ty ty' lo hi H v ll) (hx : Fr k ty' hi H.next H x m l) (hE : E.size = 1) (hb : E.bytes ≤ 32768) (hn : ll.length + 1 ≤ 4294967296) (hlo : lo ≤ hi) (hhi : hi ≤ H.next)
    (hK : ∀ v' H', H'.next = H.next + 1 → (∀ i, ¬(lo ≤ i ∧ i < hi) → i < H.next → H'.row i = H.row i) → Fr2 k ty ty' lo (H.next + 1) H' v' (ll ++ [l]) → K v' H') :
    runOut P H (appE E ty v [x] 1 H) K := by
  unfold appE
  rw [if_neg (by omega)]
  refine Holds.mp ?_
  rcases h with ⟨rfl, rfl⟩ | ⟨i, vs, b, h1, h2, rfl, hr, hvl, g0, gn, gi, gm, hj⟩ <;> rw [holds_def]
  · simp only [asSl_nil, runOut_need, runOut_val, hE]
    refine ⟨⟨by omega, hb⟩, hK _ _ rfl (fun i _ hi => by rw [AH.push_row, if_neg (by omega)]) (.inr ⟨H.next, [x], fun j => if j = 0 then hi else H.next, by omega, by omega, rfl, by rw [AH.push_row, if_pos rfl], rfl, ?_, ?_, .inr ?_, fun j => ?_, fun j hj => ?_⟩)⟩
    · dsimp only; rw [if_pos rfl]; exact hlo
    · dsimp only [List.nil_append, List.length_singleton]; rw [if_neg (by omega)]; omega
    · dsimp only [List.nil_append, List.length_singleton]; rw [if_neg (by omega)]; omega
    · dsimp only; split
      · rw [if_neg (by omega)]; exact hhi
      · rw [if_neg (by omega)]; omega
    · simp only [List.nil_append, List.length_singleton] at hj
      have : j = 0 := by omega
      subst this
      refine ⟨x, m, rfl, ?_⟩
      dsimp only
      rw [if_pos rfl, if_neg (by omega)]
      exact hx.same fun z _ hz => by rw [AH.push_row, if_neg (by omega)]
  · simp only [asSl_some, hr, bindO_some, runOut_need, Nat.zero_add, hE, Nat.mul_one]
    refine ⟨⟨hn, hb, by omega, .inl rfl⟩, ?_⟩
    rw [if_neg (by omega)]
    simp only [runOut_need, runOut_val]
    refine ⟨by simp, hK _ _ rfl (fun j hj hj2 => ?_) (.inr ⟨H.next, vs ++ [x], fun j => if j < ll.length then b j else if j = ll.length then hi else H.next, by omega, by omega, ?_, ?_, ?_, ?_, ?_, .inr ?_, fun j => ?_, fun j hjl => ?_⟩)⟩
    · rw [AH.push_row, if_neg (by rw [AH.drop_next]; omega), AH.drop_row, if_neg (by omega)]
    · rw [List.length_append]; rfl
    · rw [AH.push_row, AH.drop_next, if_pos rfl, seg_all _ _ hvl.symm]
    · rw [List.length_append, List.length_append, hvl]; rfl
    · dsimp only
      split
      · exact g0
      · split
        · exact hlo
        · omega
    · rw [List.length_append, List.length_singleton]
      dsimp only
      rw [if_neg (by omega), if_neg (by omega)]; omega
    · rw [List.length_append, List.length_singleton]
      dsimp only
      rw [if_neg (by omega), if_neg (by omega)]; omega
    · dsimp only
      by_cases c1 : j + 1 < ll.length
      · rw [if_pos (by omega), if_pos c1]; exact gm j
      · by_cases c2 : j + 1 = ll.length
        · rw [if_pos (by omega), if_neg c1, if_pos c2]
          have := mono_of_step gm (show j ≤ ll.length by omega); omega
        · by_cases c3 : j = ll.length
          · rw [if_neg (by omega), if_pos c3, if_neg c1, if_neg c2]; exact hhi
          · rw [if_neg (by omega), if_neg c3, if_neg c1, if_neg c2]; omega
    · rw [List.length_append, List.length_singleton] at hjl
      have old : ∀ z, lo ≤ z → z < H.next → ¬ z = i → ((H.drop i).push ⟨ty, true, seg vs 0 ll.length ++ [x]⟩).row z = H.row z := fun z _ z2 z3 => by
        rw [AH.push_row, if_neg (by rw [AH.drop_next]; omega), AH.drop_row, if_neg z3]
      by_cases c : j < ll.length
      · obtain ⟨y, q, hy, hf⟩ := hj j c
        refine ⟨y, q, by rw [List.getElem?_append_left (by omega), hy], ?_⟩
        have e1 : (ll ++ [l]).getD j [] = ll.getD j [] := by simp [List.getD_eq_getElem?_getD, List.getElem?_append_left c]
        rw [e1]
        have c1 := mono_of_step gm (Nat.zero_le j)
        have c2 := mono_of_step gm (show j + 1 ≤ ll.length by omega)
        have f1 : Fr k ty' (b j) (b (j + 1)) ((H.drop i).push ⟨ty, true, seg vs 0 ll.length ++ [x]⟩) y q (ll.getD j []) := hf.same fun z z1 z2 => old z (by omega) (by omega) (by omega)
        dsimp only
        rw [if_pos c]
        by_cases c3 : j + 1 < ll.length
        · rw [if_pos c3]; exact f1
        · rw [if_neg c3, if_pos (by omega)]; exact f1.wide (Nat.le_refl _) (by omega)
      · have c4 : j = ll.length := by omega
        subst c4
        refine ⟨x, m, by rw [← hvl, List.getElem?_append_right (Nat.le_refl _)]; simp, ?_⟩
        have e1 : (ll ++ [l]).getD ll.length [] = l := by simp [List.getD_eq_getElem?_getD]
        rw [e1]
        dsimp only
        rw [if_neg (by omega), if_pos rfl, if_neg (by omega), if_neg (by omega)]
        exact hx.same fun z z1 z2 => old z (by omega) z2 (by omega)

theorem zeros_two (z : List Value) : zeros 2 z = z ++ z := by simp [zeros, List.replicate_succ]
end Go.Abs
end

section
set_option linter.unusedSimpArgs false
set_option linter.unusedVariables false
set_option maxRecDepth 100000
namespace Go.Proofs.Ytgkmdfjjlghecaa.A
open Go Go.Abs Go.RowKit

theorem eqInt64S_c (va vb : Value) (n m : Nat) (l : List Int) (hn : n ≤ 4294967296) (H : AH) (ha : Rd 1 H va n l) (hb : Rd 1 H vb m l) : ACalls Try.prog 21 [va, vb] H (is (.bool true) H) := by
  have hmn : m = n := by rw [ha.lenK1, hb.lenK1]
  subst hmn
  refine acalls_up rfl (acalls_of_awp [.tmp 4] Try.func21 (by kernel_rfl) rfl rfl (Nat.le_of_ble_eq_true rfl) (by kernel_rfl) ?_)
  try simp (disch := first | omega | (simp only [ints_length, List.length_replicate]; done) | (simp only [ints_length, List.length_replicate]; omega)) only [Sall,evalOp,init,binE,binI,unE,convE,okNil,builtE,gv,TD.isAgg,resV,↓reduceIte,Nat.reduceEqDiff,reduceCtorEq,Nat.reduceAdd,Nat.reduceMul,Nat.reduceLeDiff,quietOp,blindOp,Int.reduceEq,Int.reduceLT,Int.reduceLE,Nat.reduceLT,ti2,ti3,ti4,ti45,ti46,ti38,ti25,ti30,ti22,ti32,ti24,ti95,ti172,ti169,ti165,ti166,ti65,ti143,ti87, builtE, ha.len, hb.len, bne_self_eq_false]
  refine awp_loop (fun x t H' => ∃ a : Nat, x = m - a ∧ a ≤ m ∧ t 5 = .int .i64 a ∧ t 0 = va ∧ t 1 = vb ∧ H' = H) m ?_ ?_
  · refine ⟨0, by omega, by omega, ?_⟩
    try simp (disch := first | omega | (simp only [ints_length, List.length_replicate]; done) | (simp only [ints_length, List.length_replicate]; omega)) only [Sall,evalOp,init,binE,binI,unE,convE,okNil,builtE,gv,TD.isAgg,resV,↓reduceIte,Nat.reduceEqDiff,reduceCtorEq,Nat.reduceAdd,Nat.reduceMul,Nat.reduceLeDiff,quietOp,blindOp,Int.reduceEq,Int.reduceLT,Int.reduceLE,Nat.reduceLT,ti2,ti3,ti4,ti45,ti46,ti38,ti25,ti30,ti22,ti32,ti24,ti95,ti172,ti169,ti165,ti166,ti65,ti143,ti87, Int.natCast_zero]
  · rintro x t H' ⟨a, hm, h14, h5, h2, h3, rfl⟩
    try simp (disch := first | omega | (simp only [ints_length, List.length_replicate]; done) | (simp only [ints_length, List.length_replicate]; omega)) only [Sall,evalOp,init,binE,binI,unE,convE,okNil,builtE,gv,TD.isAgg,resV,↓reduceIte,Nat.reduceEqDiff,reduceCtorEq,Nat.reduceAdd,Nat.reduceMul,Nat.reduceLeDiff,quietOp,blindOp,Int.reduceEq,Int.reduceLT,Int.reduceLE,Nat.reduceLT,ti2,ti3,ti4,ti45,ti46,ti38,ti25,ti30,ti22,ti32,ti24,ti95,ti172,ti169,ti165,ti166,ti65,ti143,ti87, h5, h2, builtE, ha.len]
    refine condC_dec (fun h => ?_) (fun h => ?_)
    · obtain ⟨i, o, u, c, r, rfl, hr, hc, hs, hg⟩ := ha.get (by omega)
      obtain ⟨i', o', u', c', r', rfl, hr', hc', hs', hg'⟩ := hb.get (by omega)
      refine draw_id (by kernel_rfl) (by kernel_rfl) ?_
      try simp (disch := first | omega | (simp only [ints_length, List.length_replicate]; done) | (simp only [ints_length, List.length_replicate]; omega)) only [Sall,evalOp,init,binE,binI,unE,convE,okNil,builtE,gv,TD.isAgg,resV,↓reduceIte,Nat.reduceEqDiff,reduceCtorEq,Nat.reduceAdd,Nat.reduceMul,Nat.reduceLeDiff,quietOp,blindOp,Int.reduceEq,Int.reduceLT,Int.reduceLE,Nat.reduceLT,ti2,ti3,ti4,ti45,ti46,ti38,ti25,ti30,ti22,ti32,ti24,ti95,ti172,ti169,ti165,ti166,ti65,ti143,ti87, h5, h2, h3, hr, hr', hs, hs', bne_self_eq_false, w64]
      refine ⟨⟨by omega, by omega⟩, ⟨by omega, by omega⟩, m - (a + 1), by omega, a + 1, ?_⟩
      and_intros <;> first | omega | rfl | assumption
    · try simp (disch := first | omega | (simp only [ints_length, List.length_replicate]; done) | (simp only [ints_length, List.length_replicate]; omega)) only [Sall,evalOp,init,binE,binI,unE,convE,okNil,builtE,gv,TD.isAgg,resV,↓reduceIte,Nat.reduceEqDiff,reduceCtorEq,Nat.reduceAdd,Nat.reduceMul,Nat.reduceLeDiff,quietOp,blindOp,Int.reduceEq,Int.reduceLT,Int.reduceLE,Nat.reduceLT,ti2,ti3,ti4,ti45,ti46,ti38,ti25,ti30,ti22,ti32,ti24,ti95,ti172,ti169,ti165,ti166,ti65,ti143,ti87, true_and]
      exact Up.refl _ _

theorem eqInt64SS_c (va vb : Value) (ll : List (List Int)) (hn : ll.length ≤ 4294967296) (hn2 : ∀ l ∈ ll, l.length ≤ 4294967296) (H : AH) (ha : Rd2 1 H va ll) (hb : Rd2 1 H vb ll) : ACalls Try.prog 18 [va, vb] H (is (.bool true) H) := by
  refine acalls_up rfl (acalls_of_awp [.tmp 4] Try.func18 (by kernel_rfl) rfl rfl (Nat.le_of_ble_eq_true rfl) (by kernel_rfl) ?_)
  try simp (disch := first | omega | (simp only [ints_length, List.length_replicate]; done) | (simp only [ints_length, List.length_replicate]; omega)) only [Sall,evalOp,init,binE,binI,unE,convE,okNil,builtE,gv,TD.isAgg,resV,↓reduceIte,Nat.reduceEqDiff,reduceCtorEq,Nat.reduceAdd,Nat.reduceMul,Nat.reduceLeDiff,quietOp,blindOp,Int.reduceEq,Int.reduceLT,Int.reduceLE,Nat.reduceLT,ti2,ti3,ti4,ti45,ti46,ti38,ti25,ti30,ti22,ti32,ti24,ti95,ti172,ti169,ti165,ti166,ti65,ti143,ti87, builtE, ha.len, hb.len, bne_self_eq_false]
  refine awp_loop (fun x t H' => ∃ a : Nat, x = ll.length - a ∧ a ≤ ll.length ∧ t 5 = .int .i64 a ∧ t 0 = va ∧ t 1 = vb ∧ H' = H) ll.length ?_ ?_
  · refine ⟨0, by omega, by omega, ?_⟩
    try simp (disch := first | omega | (simp only [ints_length, List.length_replicate]; done) | (simp only [ints_length, List.length_replicate]; omega)) only [Sall,evalOp,init,binE,binI,unE,convE,okNil,builtE,gv,TD.isAgg,resV,↓reduceIte,Nat.reduceEqDiff,reduceCtorEq,Nat.reduceAdd,Nat.reduceMul,Nat.reduceLeDiff,quietOp,blindOp,Int.reduceEq,Int.reduceLT,Int.reduceLE,Nat.reduceLT,ti2,ti3,ti4,ti45,ti46,ti38,ti25,ti30,ti22,ti32,ti24,ti95,ti172,ti169,ti165,ti166,ti65,ti143,ti87, Int.natCast_zero]
  · rintro x t H' ⟨a, hm, h14, h5, h2, h3, rfl⟩
    try simp (disch := first | omega | (simp only [ints_length, List.length_replicate]; done) | (simp only [ints_length, List.length_replicate]; omega)) only [Sall,evalOp,init,binE,binI,unE,convE,okNil,builtE,gv,TD.isAgg,resV,↓reduceIte,Nat.reduceEqDiff,reduceCtorEq,Nat.reduceAdd,Nat.reduceMul,Nat.reduceLeDiff,quietOp,blindOp,Int.reduceEq,Int.reduceLT,Int.reduceLE,Nat.reduceLT,ti2,ti3,ti4,ti45,ti46,ti38,ti25,ti30,ti22,ti32,ti24,ti95,ti172,ti169,ti165,ti166,ti65,ti143,ti87, h5, h2, builtE, ha.len]
    refine condC_dec (fun h => ?_) (fun h => ?_)
    · obtain ⟨i, o, u, c, r, y, m, rfl, hr, hy, hs, hk⟩ := ha.get (j := a) (by omega)
      obtain ⟨i', o', u', c', r', y', m', rfl, hr', hy', hs', hk'⟩ := hb.get (j := a) (by omega)
      refine draw_id (by kernel_rfl) (by kernel_rfl) ?_
      have hmem : ll.getD a [] ∈ ll := by rw [List.getD_eq_getElem?_getD, List.getElem?_eq_getElem (by omega)]; exact List.getElem_mem _
      have hml := hn2 _ hmem
      try simp (disch := first | omega | (simp only [ints_length, List.length_replicate]; done) | (simp only [ints_length, List.length_replicate]; omega)) only [Sall,evalOp,init,binE,binI,unE,convE,okNil,builtE,gv,TD.isAgg,resV,↓reduceIte,Nat.reduceEqDiff,reduceCtorEq,Nat.reduceAdd,Nat.reduceMul,Nat.reduceLeDiff,quietOp,blindOp,Int.reduceEq,Int.reduceLT,Int.reduceLE,Nat.reduceLT,ti2,ti3,ti4,ti45,ti46,ti38,ti25,ti30,ti22,ti32,ti24,ti95,ti172,ti169,ti165,ti166,ti65,ti143,ti87, h5, h2, h3, hr, hr', hy, hy', hk, hk']
      refine ⟨⟨by omega, by omega⟩, ⟨by omega, by omega⟩, (eqInt64S_c y y' m m' _ (by rw [hs.lenK1]; exact hml) _ hs hs').to ⟨.inr (.inr (LE.refl _)), ?_⟩⟩
      try simp (disch := first | omega | (simp only [ints_length, List.length_replicate]; done) | (simp only [ints_length, List.length_replicate]; omega)) only [Sall,evalOp,init,binE,binI,unE,convE,okNil,builtE,gv,TD.isAgg,resV,↓reduceIte,Nat.reduceEqDiff,reduceCtorEq,Nat.reduceAdd,Nat.reduceMul,Nat.reduceLeDiff,quietOp,blindOp,Int.reduceEq,Int.reduceLT,Int.reduceLE,Nat.reduceLT,ti2,ti3,ti4,ti45,ti46,ti38,ti25,ti30,ti22,ti32,ti24,ti95,ti172,ti169,ti165,ti166,ti65,ti143,ti87, h5, h2, h3, w64]
      refine ⟨ll.length - (a + 1), by omega, a + 1, ?_⟩
      and_intros <;> first | omega | rfl | assumption
    · try simp (disch := first | omega | (simp only [ints_length, List.length_replicate]; done) | (simp only [ints_length, List.length_replicate]; omega)) only [Sall,evalOp,init,binE,binI,unE,convE,okNil,builtE,gv,TD.isAgg,resV,↓reduceIte,Nat.reduceEqDiff,reduceCtorEq,Nat.reduceAdd,Nat.reduceMul,Nat.reduceLeDiff,quietOp,blindOp,Int.reduceEq,Int.reduceLT,Int.reduceLE,Nat.reduceLT,ti2,ti3,ti4,ti45,ti46,ti38,ti25,ti30,ti22,ti32,ti24,ti95,ti172,ti169,ti165,ti166,ti65,ti143,ti87, true_and]
      exact Up.refl _ _

theorem markInt64S_c (ty lo hi : Nat) (v : Value) (n : Nat) (l : List Int) (k0 : Int) (hk : 0 ≤ k0 ∧ k0 ≤ 4294967296) (hn : n ≤ 4294967296) (H : AH) (hv : Fr 1 ty lo hi H v n l) :
    ACalls Try.prog 24 [v, .int .i64 k0] H (fun r H' => r = .int .i64 (k0 + n) ∧ H'.next = H.next ∧ (∀ i, ¬(lo ≤ i ∧ i < hi) → H'.row i = H.row i) ∧ Fr 1 ty lo hi H' v n (seqL k0 n)) := by
  refine acalls_of_awp [.tmp 4] Try.func24 (by kernel_rfl) rfl rfl (Nat.le_of_ble_eq_true rfl) (by kernel_rfl) ?_
  try simp (disch := first | omega | (simp only [ints_length, List.length_replicate]; done) | (simp only [ints_length, List.length_replicate]; omega)) only [Sall,evalOp,init,binE,binI,unE,convE,okNil,builtE,gv,TD.isAgg,resV,↓reduceIte,Nat.reduceEqDiff,reduceCtorEq,Nat.reduceAdd,Nat.reduceMul,Nat.reduceLeDiff,quietOp,blindOp,Int.reduceEq,Int.reduceLT,Int.reduceLE,Nat.reduceLT,ti2,ti3,ti4,ti45,ti46,ti38,ti25,ti30,ti22,ti32,ti24,ti95,ti172,ti169,ti165,ti166,ti65,ti143,ti87, true_and]
  have hl := hv.lenK1
  refine awp_loop (fun m t H' => ∃ a : Nat, m = n - a ∧ a ≤ n ∧ t 5 = .int .i64 a ∧ t 1 = .int .i64 (k0 + a) ∧ t 0 = v ∧ H'.next = H.next ∧ (∀ i, ¬(lo ≤ i ∧ i < hi) → H'.row i = H.row i) ∧ Fr 1 ty lo hi H' v n (markL k0 l a)) n ?_ ?_
  · refine ⟨0, by omega, by omega, ?_⟩
    try simp (disch := first | omega | (simp only [ints_length, List.length_replicate]; done) | (simp only [ints_length, List.length_replicate]; omega)) only [Sall,evalOp,init,binE,binI,unE,convE,okNil,builtE,gv,TD.isAgg,resV,↓reduceIte,Nat.reduceEqDiff,reduceCtorEq,Nat.reduceAdd,Nat.reduceMul,Nat.reduceLeDiff,quietOp,blindOp,Int.reduceEq,Int.reduceLT,Int.reduceLE,Nat.reduceLT,ti2,ti3,ti4,ti45,ti46,ti38,ti25,ti30,ti22,ti32,ti24,ti95,ti172,ti169,ti165,ti166,ti65,ti143,ti87, markL_zero, Int.natCast_zero]
    exact ⟨by omega, hv⟩
  · rintro m t H' ⟨a, hm, h14, h5, h1, h0, hnx, hsm, hfr⟩
    try simp (disch := first | omega | (simp only [ints_length, List.length_replicate]; done) | (simp only [ints_length, List.length_replicate]; omega)) only [Sall,evalOp,init,binE,binI,unE,convE,okNil,builtE,gv,TD.isAgg,resV,↓reduceIte,Nat.reduceEqDiff,reduceCtorEq,Nat.reduceAdd,Nat.reduceMul,Nat.reduceLeDiff,quietOp,blindOp,Int.reduceEq,Int.reduceLT,Int.reduceLE,Nat.reduceLT,ti2,ti3,ti4,ti45,ti46,ti38,ti25,ti30,ti22,ti32,ti24,ti95,ti172,ti169,ti165,ti166,ti65,ti143,ti87, h5, h1, h0, builtE, hfr.rd.len]
    refine condC_dec (fun h => ?_) (fun h => ?_)
    · obtain ⟨i, hi1, hi2, rfl, hr⟩ := hfr.get (by omega)
      have e2 : (markL k0 l a).set a (k0 + (a : Int)) = markL k0 l (a + 1) := markL_set _ _ _ (by omega)
      have e3 : (markL k0 l a).length = n := by rw [markL_length _ _ _ (by omega), hl]
      try simp (disch := first | omega | (simp only [ints_length, List.length_replicate]; done) | (simp only [ints_length, List.length_replicate]; omega)) only [Sall,evalOp,init,binE,binI,unE,convE,okNil,builtE,gv,TD.isAgg,resV,↓reduceIte,Nat.reduceEqDiff,reduceCtorEq,Nat.reduceAdd,Nat.reduceMul,Nat.reduceLeDiff,quietOp,blindOp,Int.reduceEq,Int.reduceLT,Int.reduceLE,Nat.reduceLT,ti2,ti3,ti4,ti45,ti46,ti38,ti25,ti30,ti22,ti32,ti24,ti95,ti172,ti169,ti165,ti166,ti65,ti143,ti87, h5, h1, h0, hr, ints_set, e2, e3, w64]
      refine ⟨⟨by omega, by omega⟩, by omega, n - (a + 1), by omega, a + 1, rfl, by omega, by omega, by omega, hnx, fun x hx => ?_, ?_⟩
      · rw [if_neg (by omega)]; exact hsm x hx
      · exact hfr.set hr hi1 hi2 (by rw [e3, markL_length _ _ _ (by omega), hl])
    · try simp (disch := first | omega | (simp only [ints_length, List.length_replicate]; done) | (simp only [ints_length, List.length_replicate]; omega)) only [Sall,evalOp,init,binE,binI,unE,convE,okNil,builtE,gv,TD.isAgg,resV,↓reduceIte,Nat.reduceEqDiff,reduceCtorEq,Nat.reduceAdd,Nat.reduceMul,Nat.reduceLeDiff,quietOp,blindOp,Int.reduceEq,Int.reduceLT,Int.reduceLE,Nat.reduceLT,ti2,ti3,ti4,ti45,ti46,ti38,ti25,ti30,ti22,ti32,ti24,ti95,ti172,ti169,ti165,ti166,ti65,ti143,ti87, h1]
      have ha : a = n := by omega
      subst ha
      refine ⟨rfl, hnx, hsm, ?_⟩
      rw [hl] at hfr ⊢
      rwa [markL_all] at hfr

theorem heldInt64S_c (v : Value) (n : Nat) (k0 : Int) (hk : 0 ≤ k0 ∧ k0 ≤ 4294967296) (hn : n ≤ 4294967296) (H : AH) (hv : Rd 1 H v n (seqL k0 n)) :
    ACalls Try.prog 25 [v, .int .i64 k0] H (is (.int .i64 (k0 + n)) H) := by
  refine acalls_up rfl (acalls_of_awp [.tmp 4] Try.func25 (by kernel_rfl) rfl rfl (Nat.le_of_ble_eq_true rfl) (by kernel_rfl) ?_)
  try simp (disch := first | omega | (simp only [ints_length, List.length_replicate]; done) | (simp only [ints_length, List.length_replicate]; omega)) only [Sall,evalOp,init,binE,binI,unE,convE,okNil,builtE,gv,TD.isAgg,resV,↓reduceIte,Nat.reduceEqDiff,reduceCtorEq,Nat.reduceAdd,Nat.reduceMul,Nat.reduceLeDiff,quietOp,blindOp,Int.reduceEq,Int.reduceLT,Int.reduceLE,Nat.reduceLT,ti2,ti3,ti4,ti45,ti46,ti38,ti25,ti30,ti22,ti32,ti24,ti95,ti172,ti169,ti165,ti166,ti65,ti143,ti87, true_and]
  refine awp_loop (fun m t H' => ∃ a : Nat, m = n - a ∧ a ≤ n ∧ t 5 = .int .i64 a ∧ t 1 = .int .i64 (k0 + a) ∧ t 0 = v ∧ H' = H) n ?_ ?_
  · refine ⟨0, by omega, by omega, ?_⟩
    try simp (disch := first | omega | (simp only [ints_length, List.length_replicate]; done) | (simp only [ints_length, List.length_replicate]; omega)) only [Sall,evalOp,init,binE,binI,unE,convE,okNil,builtE,gv,TD.isAgg,resV,↓reduceIte,Nat.reduceEqDiff,reduceCtorEq,Nat.reduceAdd,Nat.reduceMul,Nat.reduceLeDiff,quietOp,blindOp,Int.reduceEq,Int.reduceLT,Int.reduceLE,Nat.reduceLT,ti2,ti3,ti4,ti45,ti46,ti38,ti25,ti30,ti22,ti32,ti24,ti95,ti172,ti169,ti165,ti166,ti65,ti143,ti87, Int.natCast_zero]
    omega
  · rintro m t H' ⟨a, hm, h14, h5, h1, h0, rfl⟩
    try simp (disch := first | omega | (simp only [ints_length, List.length_replicate]; done) | (simp only [ints_length, List.length_replicate]; omega)) only [Sall,evalOp,init,binE,binI,unE,convE,okNil,builtE,gv,TD.isAgg,resV,↓reduceIte,Nat.reduceEqDiff,reduceCtorEq,Nat.reduceAdd,Nat.reduceMul,Nat.reduceLeDiff,quietOp,blindOp,Int.reduceEq,Int.reduceLT,Int.reduceLE,Nat.reduceLT,ti2,ti3,ti4,ti45,ti46,ti38,ti25,ti30,ti22,ti32,ti24,ti95,ti172,ti169,ti165,ti166,ti65,ti143,ti87, h5, h1, h0, builtE, hv.len]
    refine condC_dec (fun h => ?_) (fun h => ?_)
    · obtain ⟨i, o, u, c, r, rfl, hr, hc, hs, _⟩ := hv.get (by omega)
      have e1 := hs a (by omega)
      rw [seqL_getD _ _ _ (by omega)] at e1
      try simp (disch := first | omega | (simp only [ints_length, List.length_replicate]; done) | (simp only [ints_length, List.length_replicate]; omega)) only [Sall,evalOp,init,binE,binI,unE,convE,okNil,builtE,gv,TD.isAgg,resV,↓reduceIte,Nat.reduceEqDiff,reduceCtorEq,Nat.reduceAdd,Nat.reduceMul,Nat.reduceLeDiff,quietOp,blindOp,Int.reduceEq,Int.reduceLT,Int.reduceLE,Nat.reduceLT,ti2,ti3,ti4,ti45,ti46,ti38,ti25,ti30,ti22,ti32,ti24,ti95,ti172,ti169,ti165,ti166,ti65,ti143,ti87, h5, h1, h0, hr, e1, bne_self_eq_false, w64]
      refine ⟨⟨by omega, by omega⟩, n - (a + 1), by omega, a + 1, ?_⟩
      and_intros <;> first | omega | rfl | assumption
    · try simp (disch := first | omega | (simp only [ints_length, List.length_replicate]; done) | (simp only [ints_length, List.length_replicate]; omega)) only [Sall,evalOp,init,binE,binI,unE,convE,okNil,builtE,gv,TD.isAgg,resV,↓reduceIte,Nat.reduceEqDiff,reduceCtorEq,Nat.reduceAdd,Nat.reduceMul,Nat.reduceLeDiff,quietOp,blindOp,Int.reduceEq,Int.reduceLT,Int.reduceLE,Nat.reduceLT,ti2,ti3,ti4,ti45,ti46,ti38,ti25,ti30,ti22,ti32,ti24,ti95,ti172,ti169,ti165,ti166,ti65,ti143,ti87, h1]
      refine ⟨by omega, Up.refl _ _⟩

theorem szInt64S_c (v : Value) (n : Nat) (l : List Int) (left : Int) (H : AH) (hv : Rd 1 H v n l) (hl : 0 ≤ left ∧ left ≤ 1048576) (hn : n ≤ 9223372036854775807) :
    ACalls Try.prog 82 [v, .int .i64 left] H (is (.int .i64 (szL left n)) H) := by
  refine acalls_of_awp [.tmp 4] Try.func82 (by kernel_rfl) rfl rfl (Nat.le_of_ble_eq_true rfl) (by kernel_rfl) ?_
  by_cases h : left - n < 0
  · try simp (disch := first | omega | (simp only [ints_length, List.length_replicate]; done) | (simp only [ints_length, List.length_replicate]; omega)) only [Sall,evalOp,init,binE,binI,unE,convE,okNil,builtE,gv,TD.isAgg,resV,↓reduceIte,Nat.reduceEqDiff,reduceCtorEq,Nat.reduceAdd,Nat.reduceMul,Nat.reduceLeDiff,quietOp,blindOp,Int.reduceEq,Int.reduceLT,Int.reduceLE,Nat.reduceLT,ti2,ti3,ti4,ti45,ti46,ti38,ti25,ti30,ti22,ti32,ti24,ti95,ti172,ti169,ti165,ti166,ti65,ti143,ti87, builtE, hv.len, w64, h, decide_true, is, szL]
  · try simp (disch := first | omega | (simp only [ints_length, List.length_replicate]; done) | (simp only [ints_length, List.length_replicate]; omega)) only [Sall,evalOp,init,binE,binI,unE,convE,okNil,builtE,gv,TD.isAgg,resV,↓reduceIte,Nat.reduceEqDiff,reduceCtorEq,Nat.reduceAdd,Nat.reduceMul,Nat.reduceLeDiff,quietOp,blindOp,Int.reduceEq,Int.reduceLT,Int.reduceLE,Nat.reduceLT,ti2,ti3,ti4,ti45,ti46,ti38,ti25,ti30,ti22,ti32,ti24,ti95,ti172,ti169,ti165,ti166,ti65,ti143,ti87, builtE, hv.len, w64, h, decide_false, is, szL]

theorem toInt64S_c (v : Value) (n : Nat) (l : List Int) (H : AH) (hv : Rd 1 H v n l) (hn : n ≤ 4194304) :
    ACalls Try.prog 86 [v] H (is (.slice (some ⟨H.next, 0, some 1⟩) n n) (H.push ⟨2, true, ints l⟩)) := by
  refine ACalls.wf (by kernel_rfl) fun hs => acalls_of_awp [.tmp 2] Try.func86 (by kernel_rfl) rfl rfl (Nat.le_of_ble_eq_true rfl) (by kernel_rfl) ?_
  have hl := hv.lenK1
  try simp (disch := first | omega | (simp only [ints_length, List.length_replicate]; done) | (simp only [ints_length, List.length_replicate]; omega)) only [Sall,evalOp,init,binE,binI,unE,convE,okNil,builtE,gv,TD.isAgg,resV,↓reduceIte,Nat.reduceEqDiff,reduceCtorEq,Nat.reduceAdd,Nat.reduceMul,Nat.reduceLeDiff,quietOp,blindOp,Int.reduceEq,Int.reduceLT,Int.reduceLE,Nat.reduceLT,ti2,ti3,ti4,ti45,ti46,ti38,ti25,ti30,ti22,ti32,ti24,ti95,ti172,ti169,ti165,ti166,ti65,ti143,ti87, builtE, hv.len, ints_zeros]
  refine ⟨by omega, ?_⟩
  refine awp_loop (fun m t H' => ∃ a : Nat, m = n - a ∧ a ≤ n ∧ t 4 = .int .i64 a ∧ t 0 = v ∧ t 3 = .slice (some ⟨H.next, 0, some 1⟩) n n ∧ H' = H.push ⟨2, true, ints (copyL 1 l n a)⟩) n ?_ ?_
  · refine ⟨0, by omega, by omega, ?_⟩
    try simp (disch := first | omega | (simp only [ints_length, List.length_replicate]; done) | (simp only [ints_length, List.length_replicate]; omega)) only [Sall,evalOp,init,binE,binI,unE,convE,okNil,builtE,gv,TD.isAgg,resV,↓reduceIte,Nat.reduceEqDiff,reduceCtorEq,Nat.reduceAdd,Nat.reduceMul,Nat.reduceLeDiff,quietOp,blindOp,Int.reduceEq,Int.reduceLT,Int.reduceLE,Nat.reduceLT,ti2,ti3,ti4,ti45,ti46,ti38,ti25,ti30,ti22,ti32,ti24,ti95,ti172,ti169,ti165,ti166,ti65,ti143,ti87, Int.natCast_zero, copyL_zero]
  · rintro m t H' ⟨a, hm, h14, h4, h0, h3, rfl⟩
    try simp (disch := first | omega | (simp only [ints_length, List.length_replicate]; done) | (simp only [ints_length, List.length_replicate]; omega)) only [Sall,evalOp,init,binE,binI,unE,convE,okNil,builtE,gv,TD.isAgg,resV,↓reduceIte,Nat.reduceEqDiff,reduceCtorEq,Nat.reduceAdd,Nat.reduceMul,Nat.reduceLeDiff,quietOp,blindOp,Int.reduceEq,Int.reduceLT,Int.reduceLE,Nat.reduceLT,ti2,ti3,ti4,ti45,ti46,ti38,ti25,ti30,ti22,ti32,ti24,ti95,ti172,ti169,ti165,ti166,ti65,ti143,ti87, h4, h0, builtE, hv.len]
    refine condC_dec (fun h => ?_) (fun h => ?_)
    · have hst := copyL_set l n a hl.symm (by omega)
      have hcl := copyL_length 1 l n a (by omega) (by omega)
      rw [Nat.mul_one] at hcl
      obtain ⟨i, o, u, c, r, rfl, hr, hc, hs1, hg⟩ := hv.get (by omega)
      have hne : ¬ i = H.next := by have := hs _ _ hr; omega
      try simp (disch := first | omega | (simp only [ints_length, List.length_replicate]; done) | (simp only [ints_length, List.length_replicate]; omega)) only [Sall,evalOp,init,binE,binI,unE,convE,okNil,builtE,gv,TD.isAgg,resV,↓reduceIte,Nat.reduceEqDiff,reduceCtorEq,Nat.reduceAdd,Nat.reduceMul,Nat.reduceLeDiff,quietOp,blindOp,Int.reduceEq,Int.reduceLT,Int.reduceLE,Nat.reduceLT,ti2,ti3,ti4,ti45,ti46,ti38,ti25,ti30,ti22,ti32,ti24,ti95,ti172,ti169,ti165,ti166,ti65,ti143,ti87, h4, h0, h3, hr, hne, hs1, ints_set, hst, hcl, push_setCells, w64]
      refine ⟨⟨by omega, by omega⟩, ⟨by omega, by omega⟩, by omega, n - (a + 1), by omega, a + 1, ?_⟩
      and_intros <;> first | omega | rfl | assumption
    · have ha : a = n := by omega
      subst ha
      try simp (disch := first | omega | (simp only [ints_length, List.length_replicate]; done) | (simp only [ints_length, List.length_replicate]; omega)) only [Sall,evalOp,init,binE,binI,unE,convE,okNil,builtE,gv,TD.isAgg,resV,↓reduceIte,Nat.reduceEqDiff,reduceCtorEq,Nat.reduceAdd,Nat.reduceMul,Nat.reduceLeDiff,quietOp,blindOp,Int.reduceEq,Int.reduceLT,Int.reduceLE,Nat.reduceLT,ti2,ti3,ti4,ti45,ti46,ti38,ti25,ti30,ti22,ti32,ti24,ti95,ti172,ti169,ti165,ti166,ti65,ti143,ti87, h3, is]
      rw [copyL_all 1 l a (by omega)]

theorem szInt64SS_c (v : Value) (ll : List (List Int)) (left : Int) (H : AH) (hv : Rd2 1 H v ll) (hl : 0 ≤ left ∧ left ≤ 1048576) (hn : ll.length ≤ 9223372036854775807) (hn2 : ∀ l ∈ ll, l.length ≤ 9223372036854775807) :
    ACalls Try.prog 12 [v, .int .i64 left] H (fun r H' => ∃ x : Int, r = .int .i64 x ∧ H' = H ∧ (0 ≤ x → (ll.length : Int) + tot ll + x = left)) := by
  refine acalls_of_awp [.tmp 4] Try.func12 (by kernel_rfl) rfl rfl (Nat.le_of_ble_eq_true rfl) (by kernel_rfl) ?_
  by_cases h0 : left - (ll.length : Int) < 0
  · try simp (disch := first | omega | (simp only [ints_length, List.length_replicate]; done) | (simp only [ints_length, List.length_replicate]; omega)) only [Sall,evalOp,init,binE,binI,unE,convE,okNil,builtE,gv,TD.isAgg,resV,↓reduceIte,Nat.reduceEqDiff,reduceCtorEq,Nat.reduceAdd,Nat.reduceMul,Nat.reduceLeDiff,quietOp,blindOp,Int.reduceEq,Int.reduceLT,Int.reduceLE,Nat.reduceLT,ti2,ti3,ti4,ti45,ti46,ti38,ti25,ti30,ti22,ti32,ti24,ti95,ti172,ti169,ti165,ti166,ti65,ti143,ti87, builtE, hv.len, w64, h0, decide_true]
    exact fun h => h.elim
  · try simp (disch := first | omega | (simp only [ints_length, List.length_replicate]; done) | (simp only [ints_length, List.length_replicate]; omega)) only [Sall,evalOp,init,binE,binI,unE,convE,okNil,builtE,gv,TD.isAgg,resV,↓reduceIte,Nat.reduceEqDiff,reduceCtorEq,Nat.reduceAdd,Nat.reduceMul,Nat.reduceLeDiff,quietOp,blindOp,Int.reduceEq,Int.reduceLT,Int.reduceLE,Nat.reduceLT,ti2,ti3,ti4,ti45,ti46,ti38,ti25,ti30,ti22,ti32,ti24,ti95,ti172,ti169,ti165,ti166,ti65,ti143,ti87, builtE, hv.len, w64, h0, decide_false]
    refine awp_loop (fun x t H' => ∃ a : Nat, x = ll.length - a ∧ a ≤ ll.length ∧ t 5 = .int .i64 a ∧ t 0 = v ∧ t 1 = .int .i64 (left - ll.length - tot (ll.take a)) ∧ 0 ≤ left - ll.length - tot (ll.take a) ∧ H' = H) ll.length ?_ ?_
    · refine ⟨0, by omega, by omega, ?_⟩
      try simp (disch := first | omega | (simp only [ints_length, List.length_replicate]; done) | (simp only [ints_length, List.length_replicate]; omega)) only [Sall,evalOp,init,binE,binI,unE,convE,okNil,builtE,gv,TD.isAgg,resV,↓reduceIte,Nat.reduceEqDiff,reduceCtorEq,Nat.reduceAdd,Nat.reduceMul,Nat.reduceLeDiff,quietOp,blindOp,Int.reduceEq,Int.reduceLT,Int.reduceLE,Nat.reduceLT,ti2,ti3,ti4,ti45,ti46,ti38,ti25,ti30,ti22,ti32,ti24,ti95,ti172,ti169,ti165,ti166,ti65,ti143,ti87, Int.natCast_zero]
      refine ⟨by simp [tot], by simp [tot]; omega⟩
    · rintro x t H' ⟨a, hm, h14, h5, h0', h1, hnn, rfl⟩
      try simp (disch := first | omega | (simp only [ints_length, List.length_replicate]; done) | (simp only [ints_length, List.length_replicate]; omega)) only [Sall,evalOp,init,binE,binI,unE,convE,okNil,builtE,gv,TD.isAgg,resV,↓reduceIte,Nat.reduceEqDiff,reduceCtorEq,Nat.reduceAdd,Nat.reduceMul,Nat.reduceLeDiff,quietOp,blindOp,Int.reduceEq,Int.reduceLT,Int.reduceLE,Nat.reduceLT,ti2,ti3,ti4,ti45,ti46,ti38,ti25,ti30,ti22,ti32,ti24,ti95,ti172,ti169,ti165,ti166,ti65,ti143,ti87, h5, h0', builtE, hv.len]
      refine condC_dec (fun h => ?_) (fun h => ?_)
      · obtain ⟨i, o, u, c, r, y, m, rfl, hr, hy, hs, hk⟩ := hv.get (j := a) (by omega)
        have hml := hn2 _ (getD_mem (ll := ll) (a := a) (by omega))
        have hmm := hs.lenK1
        have ht := tot_take_succ ll a (by omega)
        try simp (disch := first | omega | (simp only [ints_length, List.length_replicate]; done) | (simp only [ints_length, List.length_replicate]; omega)) only [Sall,evalOp,init,binE,binI,unE,convE,okNil,builtE,gv,TD.isAgg,resV,↓reduceIte,Nat.reduceEqDiff,reduceCtorEq,Nat.reduceAdd,Nat.reduceMul,Nat.reduceLeDiff,quietOp,blindOp,Int.reduceEq,Int.reduceLT,Int.reduceLE,Nat.reduceLT,ti2,ti3,ti4,ti45,ti46,ti38,ti25,ti30,ti22,ti32,ti24,ti95,ti172,ti169,ti165,ti166,ti65,ti143,ti87, h5, h0', h1, hr, hy, hk]
        refine ⟨⟨by omega, by omega⟩, (szInt64S_c y m _ _ _ hs ⟨hnn, by omega⟩ (by omega)).to ?_⟩
        by_cases hz : left - (ll.length : Int) - (tot (ll.take a) : Int) - (m : Int) < 0
        · have e : szL (left - (ll.length : Int) - (tot (ll.take a) : Int)) m = -1 := by unfold szL; rw [if_pos hz]
          try simp (disch := first | omega | (simp only [ints_length, List.length_replicate]; done) | (simp only [ints_length, List.length_replicate]; omega)) only [Sall,evalOp,init,binE,binI,unE,convE,okNil,builtE,gv,TD.isAgg,resV,↓reduceIte,Nat.reduceEqDiff,reduceCtorEq,Nat.reduceAdd,Nat.reduceMul,Nat.reduceLeDiff,quietOp,blindOp,Int.reduceEq,Int.reduceLT,Int.reduceLE,Nat.reduceLT,ti2,ti3,ti4,ti45,ti46,ti38,ti25,ti30,ti22,ti32,ti24,ti95,ti172,ti169,ti165,ti166,ti65,ti143,ti87, e, decide_true]
          exact fun h => h.elim
        · have e : szL (left - (ll.length : Int) - (tot (ll.take a) : Int)) m = left - (ll.length : Int) - (tot (ll.take a) : Int) - m := by unfold szL; rw [if_neg hz]
          try simp (disch := first | omega | (simp only [ints_length, List.length_replicate]; done) | (simp only [ints_length, List.length_replicate]; omega)) only [Sall,evalOp,init,binE,binI,unE,convE,okNil,builtE,gv,TD.isAgg,resV,↓reduceIte,Nat.reduceEqDiff,reduceCtorEq,Nat.reduceAdd,Nat.reduceMul,Nat.reduceLeDiff,quietOp,blindOp,Int.reduceEq,Int.reduceLT,Int.reduceLE,Nat.reduceLT,ti2,ti3,ti4,ti45,ti46,ti38,ti25,ti30,ti22,ti32,ti24,ti95,ti172,ti169,ti165,ti166,ti65,ti143,ti87, e, hz, decide_false, h5, h0', w64]
          refine ⟨ll.length - (a + 1), by omega, a + 1, ?_⟩
          and_intros <;> first | omega | rfl | assumption
      · have ha : a = ll.length := by omega
        subst ha
        try simp (disch := first | omega | (simp only [ints_length, List.length_replicate]; done) | (simp only [ints_length, List.length_replicate]; omega)) only [Sall,evalOp,init,binE,binI,unE,convE,okNil,builtE,gv,TD.isAgg,resV,↓reduceIte,Nat.reduceEqDiff,reduceCtorEq,Nat.reduceAdd,Nat.reduceMul,Nat.reduceLeDiff,quietOp,blindOp,Int.reduceEq,Int.reduceLT,Int.reduceLE,Nat.reduceLT,ti2,ti3,ti4,ti45,ti46,ti38,ti25,ti30,ti22,ti32,ti24,ti95,ti172,ti169,ti165,ti166,ti65,ti143,ti87, h1]
        rw [List.take_length]
        exact fun _ => by omega

theorem toInt64SS_c (v : Value) (ll : List (List Int)) (H : AH) (hv : Rd2 1 H v ll) (hn : ll.length ≤ 4194304) (hn2 : ∀ l ∈ ll, l.length ≤ 4194304) :
    ACalls Try.prog 15 [v] H (fun u H' => Up H.next H H' ∧ Fr2 1 38 2 H.next H'.next H' u ll) := by
  refine ACalls.wf (by kernel_rfl) fun hs => acalls_of_awp [.tmp 2] Try.func15 (by kernel_rfl) rfl rfl (Nat.le_of_ble_eq_true rfl) (by kernel_rfl) ?_
  try simp (disch := first | omega | (simp only [ints_length, List.length_replicate]; done) | (simp only [ints_length, List.length_replicate]; omega)) only [Sall,evalOp,init,binE,binI,unE,convE,okNil,builtE,gv,TD.isAgg,resV,↓reduceIte,Nat.reduceEqDiff,reduceCtorEq,Nat.reduceAdd,Nat.reduceMul,Nat.reduceLeDiff,quietOp,blindOp,Int.reduceEq,Int.reduceLT,Int.reduceLE,Nat.reduceLT,ti2,ti3,ti4,ti45,ti46,ti38,ti25,ti30,ti22,ti32,ti24,ti95,ti172,ti169,ti165,ti166,ti65,ti143,ti87, builtE, hv.len]
  refine ⟨by omega, ?_⟩
  refine awp_loop (fun m t H' => ∃ (a : Nat) (vs : List Value) (b : Nat → Nat), m = ll.length - a ∧ a ≤ ll.length ∧ t 4 = .int .i64 a ∧ t 0 = v ∧ t 3 = .slice (some ⟨H.next, 0, some 1⟩) ll.length ll.length ∧ Up H.next H H' ∧ H'.row H.next = some ⟨38, true, vs⟩ ∧ vs.length = ll.length ∧
    b 0 = H.next + 1 ∧ b a = H'.next ∧ (∀ j, b j ≤ b (j + 1)) ∧ ∀ j, j < a → ∃ x m, vs[j]? = some x ∧ Fr 1 2 (b j) (b (j + 1)) H' x m (ll.getD j [])) ll.length ?_ ?_
  · refine ⟨0, List.replicate ll.length (.slice none 0 0), fun j => H.next + 1, by omega, by omega, ?_⟩
    try simp (disch := first | omega | (simp only [ints_length, List.length_replicate]; done) | (simp only [ints_length, List.length_replicate]; omega)) only [Sall,evalOp,init,binE,binI,unE,convE,okNil,builtE,gv,TD.isAgg,resV,↓reduceIte,Nat.reduceEqDiff,reduceCtorEq,Nat.reduceAdd,Nat.reduceMul,Nat.reduceLeDiff,quietOp,blindOp,Int.reduceEq,Int.reduceLT,Int.reduceLE,Nat.reduceLT,ti2,ti3,ti4,ti45,ti46,ti38,ti25,ti30,ti22,ti32,ti24,ti95,ti172,ti169,ti165,ti166,ti65,ti143,ti87, Int.natCast_zero, zeros_nil, Nat.not_lt_zero, false_implies]
    exact (Up.refl _ H).push (Nat.le_refl _) _
  · rintro m t H' ⟨a, vs, b, hm, h14, h4, h0, h3, hup, hr1, hvl, hb0, hba, hbm, hall⟩
    try simp (disch := first | omega | (simp only [ints_length, List.length_replicate]; done) | (simp only [ints_length, List.length_replicate]; omega)) only [Sall,evalOp,init,binE,binI,unE,convE,okNil,builtE,gv,TD.isAgg,resV,↓reduceIte,Nat.reduceEqDiff,reduceCtorEq,Nat.reduceAdd,Nat.reduceMul,Nat.reduceLeDiff,quietOp,blindOp,Int.reduceEq,Int.reduceLT,Int.reduceLE,Nat.reduceLT,ti2,ti3,ti4,ti45,ti46,ti38,ti25,ti30,ti22,ti32,ti24,ti95,ti172,ti169,ti165,ti166,ti65,ti143,ti87, h4, h0, builtE, hv.len]
    refine condC_dec (fun h => ?_) (fun h => ?_)
    · obtain ⟨i, o, u, c, r, y, m', rfl, hr, hy, hsx, hk⟩ := hv.get (j := a) (by omega)
      have hil := hs _ _ hr
      have hr' : H'.row i = some r := by rw [hup.row i hil, hr]
      have hy' : Rd 1 H' y m' (ll.getD a []) := hsx.same fun x q hx => by rw [hup.row x (hs _ _ hx), hx]
      have hml := hn2 _ (getD_mem (ll := ll) (a := a) (by omega))
      have hmm := hsx.lenK1
      try simp (disch := first | omega | (simp only [ints_length, List.length_replicate]; done) | (simp only [ints_length, List.length_replicate]; omega)) only [Sall,evalOp,init,binE,binI,unE,convE,okNil,builtE,gv,TD.isAgg,resV,↓reduceIte,Nat.reduceEqDiff,reduceCtorEq,Nat.reduceAdd,Nat.reduceMul,Nat.reduceLeDiff,quietOp,blindOp,Int.reduceEq,Int.reduceLT,Int.reduceLE,Nat.reduceLT,ti2,ti3,ti4,ti45,ti46,ti38,ti25,ti30,ti22,ti32,ti24,ti95,ti172,ti169,ti165,ti166,ti65,ti143,ti87, h4, h0, h3, hr', hy, hk]
      refine ⟨⟨by omega, by omega⟩, (toInt64S_c y m' _ H' hy' (by omega)).to ?_⟩
      have n1 := hup.next
      have m1 := mono_of_step hbm (Nat.zero_le a)
      have hne : ¬ H.next = H'.next := by omega
      try simp (disch := first | omega | (simp only [ints_length, List.length_replicate]; done) | (simp only [ints_length, List.length_replicate]; omega)) only [Sall,evalOp,init,binE,binI,unE,convE,okNil,builtE,gv,TD.isAgg,resV,↓reduceIte,Nat.reduceEqDiff,reduceCtorEq,Nat.reduceAdd,Nat.reduceMul,Nat.reduceLeDiff,quietOp,blindOp,Int.reduceEq,Int.reduceLT,Int.reduceLE,Nat.reduceLT,ti2,ti3,ti4,ti45,ti46,ti38,ti25,ti30,ti22,ti32,ti24,ti95,ti172,ti169,ti165,ti166,ti65,ti143,ti87, h4, h0, h3, hr1, hne, hvl, w64]
      refine ⟨⟨by omega, by omega⟩, by omega, ll.length - (a + 1), by omega, a + 1, vs.set a (.slice (some ⟨H'.next, 0, some 1⟩) m' m'), fun j => if j ≤ a then b j else H'.next + 1, rfl, by omega, by omega, ?_, rfl, by rw [List.length_set, hvl], by dsimp only; rw [if_pos (Nat.zero_le _), hb0], by dsimp only; rw [if_neg (by omega)], fun j => ?_, fun j hj => ?_⟩
      · exact (hup.push (by omega) _).set (Nat.le_refl _) _
      · dsimp only
        by_cases h1 : j + 1 ≤ a
        · rw [if_pos (by omega), if_pos h1]; exact hbm j
        · rw [if_neg h1]; split
          · rw [show j = a by omega, hba]; omega
          · omega
      · by_cases hja : j = a
        · subst hja
          refine ⟨_, m', by rw [List.getElem?_set_self (by omega)], ?_⟩
          dsimp only
          rw [if_pos (Nat.le_refl _), if_neg (by omega), hba]
          exact ⟨by omega, .inr ⟨H'.next, Nat.le_refl _, Nat.lt_succ_self _, rfl, by rw [AH.setCells_row, if_neg (by omega), AH.push_row, if_pos rfl]⟩⟩
        · obtain ⟨x, q, hx, hf⟩ := hall j (by omega)
          refine ⟨x, q, by rw [List.getElem?_set_ne (by omega), hx], ?_⟩
          dsimp only
          rw [if_pos (by omega), if_pos (by omega)]
          have m2 := mono_of_step hbm (show j + 1 ≤ a by omega)
          have m3 := mono_of_step hbm (Nat.zero_le j)
          refine hf.same fun z z1 z2 => ?_
          rw [AH.setCells_row, if_neg (by omega), AH.push_row, if_neg (by omega)]
    · have ha : a = ll.length := by omega
      subst ha
      try simp (disch := first | omega | (simp only [ints_length, List.length_replicate]; done) | (simp only [ints_length, List.length_replicate]; omega)) only [Sall,evalOp,init,binE,binI,unE,convE,okNil,builtE,gv,TD.isAgg,resV,↓reduceIte,Nat.reduceEqDiff,reduceCtorEq,Nat.reduceAdd,Nat.reduceMul,Nat.reduceLeDiff,quietOp,blindOp,Int.reduceEq,Int.reduceLT,Int.reduceLE,Nat.reduceLT,ti2,ti3,ti4,ti45,ti46,ti38,ti25,ti30,ti22,ti32,ti24,ti95,ti172,ti169,ti165,ti166,ti65,ti143,ti87, h3]
      refine ⟨hup, .inr ⟨H.next, vs, b, Nat.le_refl _, ?_, rfl, hr1, hvl, by omega, by omega, .inl (by omega), hbm, hall⟩⟩
      have m1 := mono_of_step hbm (Nat.zero_le ll.length)
      omega

/-- The marked lists: numbers one behind the other, from list to list. -/
def seqLL (k0 : Int) (ll : List (List Int)) : List (List Int) := (List.range ll.length).map fun j => seqL (k0 + tot (ll.take j)) (ll.getD j []).length
theorem seqLL_length (k0 : Int) (ll : List (List Int)) : (seqLL k0 ll).length = ll.length := by simp [seqLL]
theorem seqLL_getD (k0 : Int) (ll : List (List Int)) (j : Nat) (h : j < ll.length) : (seqLL k0 ll).getD j [] = seqL (k0 + tot (ll.take j)) (ll.getD j []).length := by simp [seqLL, h]

theorem heldInt64SS_c (v : Value) (ll : List (List Int)) (k0 : Int) (hk0 : 0 ≤ k0 ∧ k0 ≤ 268435456) (hn : ll.length ≤ 4194304) (ht0 : tot ll ≤ 4194304) (H : AH) (hv : Rd2 1 H v (seqLL k0 ll)) :
    ACalls Try.prog 107 [v, .int .i64 k0] H (is (.int .i64 (k0 + tot ll)) H) := by
  refine acalls_up rfl (acalls_of_awp [.tmp 4] Try.func107 (by kernel_rfl) rfl rfl (Nat.le_of_ble_eq_true rfl) (by kernel_rfl) ?_)
  have hlen := seqLL_length k0 ll
  try simp (disch := first | omega | (simp only [ints_length, List.length_replicate]; done) | (simp only [ints_length, List.length_replicate]; omega)) only [Sall,evalOp,init,binE,binI,unE,convE,okNil,builtE,gv,TD.isAgg,resV,↓reduceIte,Nat.reduceEqDiff,reduceCtorEq,Nat.reduceAdd,Nat.reduceMul,Nat.reduceLeDiff,quietOp,blindOp,Int.reduceEq,Int.reduceLT,Int.reduceLE,Nat.reduceLT,ti2,ti3,ti4,ti45,ti46,ti38,ti25,ti30,ti22,ti32,ti24,ti95,ti172,ti169,ti165,ti166,ti65,ti143,ti87, true_and]
  refine awp_loop (fun x t H' => ∃ a : Nat, x = ll.length - a ∧ a ≤ ll.length ∧ t 5 = .int .i64 a ∧ t 0 = v ∧ t 1 = .int .i64 (k0 + tot (ll.take a)) ∧ H' = H) ll.length ?_ ?_
  · refine ⟨0, by omega, by omega, ?_⟩
    try simp (disch := first | omega | (simp only [ints_length, List.length_replicate]; done) | (simp only [ints_length, List.length_replicate]; omega)) only [Sall,evalOp,init,binE,binI,unE,convE,okNil,builtE,gv,TD.isAgg,resV,↓reduceIte,Nat.reduceEqDiff,reduceCtorEq,Nat.reduceAdd,Nat.reduceMul,Nat.reduceLeDiff,quietOp,blindOp,Int.reduceEq,Int.reduceLT,Int.reduceLE,Nat.reduceLT,ti2,ti3,ti4,ti45,ti46,ti38,ti25,ti30,ti22,ti32,ti24,ti95,ti172,ti169,ti165,ti166,ti65,ti143,ti87, Int.natCast_zero]
    simp [tot]
  · rintro x t H' ⟨a, hm, h14, h5, h0, h1, rfl⟩
    have hle := hv.len
    rw [hlen] at hle
    try simp (disch := first | omega | (simp only [ints_length, List.length_replicate]; done) | (simp only [ints_length, List.length_replicate]; omega)) only [Sall,evalOp,init,binE,binI,unE,convE,okNil,builtE,gv,TD.isAgg,resV,↓reduceIte,Nat.reduceEqDiff,reduceCtorEq,Nat.reduceAdd,Nat.reduceMul,Nat.reduceLeDiff,quietOp,blindOp,Int.reduceEq,Int.reduceLT,Int.reduceLE,Nat.reduceLT,ti2,ti3,ti4,ti45,ti46,ti38,ti25,ti30,ti22,ti32,ti24,ti95,ti172,ti169,ti165,ti166,ti65,ti143,ti87, h5, h0, builtE, hle]
    refine condC_dec (fun h => ?_) (fun h => ?_)
    · obtain ⟨i, o, u, c, r, y, m, rfl, hr, hy, hs, hk⟩ := hv.get (j := a) (by omega)
      rw [seqLL_getD _ _ _ (by omega)] at hs
      have hmm := hs.lenK1
      rw [seqL_length] at hmm
      subst hmm
      have ht := tot_take_succ ll a (by omega)
      have ht2 := tot_take_le ll (a + 1)
      try simp (disch := first | omega | (simp only [ints_length, List.length_replicate]; done) | (simp only [ints_length, List.length_replicate]; omega)) only [Sall,evalOp,init,binE,binI,unE,convE,okNil,builtE,gv,TD.isAgg,resV,↓reduceIte,Nat.reduceEqDiff,reduceCtorEq,Nat.reduceAdd,Nat.reduceMul,Nat.reduceLeDiff,quietOp,blindOp,Int.reduceEq,Int.reduceLT,Int.reduceLE,Nat.reduceLT,ti2,ti3,ti4,ti45,ti46,ti38,ti25,ti30,ti22,ti32,ti24,ti95,ti172,ti169,ti165,ti166,ti65,ti143,ti87, h5, h0, h1, hr, hy, hk, hlen]
      refine ⟨⟨by omega, by omega⟩, (heldInt64S_c y _ _ (by omega) (by omega) _ hs).to ?_⟩
      try simp (disch := first | omega | (simp only [ints_length, List.length_replicate]; done) | (simp only [ints_length, List.length_replicate]; omega)) only [Sall,evalOp,init,binE,binI,unE,convE,okNil,builtE,gv,TD.isAgg,resV,↓reduceIte,Nat.reduceEqDiff,reduceCtorEq,Nat.reduceAdd,Nat.reduceMul,Nat.reduceLeDiff,quietOp,blindOp,Int.reduceEq,Int.reduceLT,Int.reduceLE,Nat.reduceLT,ti2,ti3,ti4,ti45,ti46,ti38,ti25,ti30,ti22,ti32,ti24,ti95,ti172,ti169,ti165,ti166,ti65,ti143,ti87, true_and]
      rw [decide_eq_false (by omega)]
      try simp (disch := first | omega | (simp only [ints_length, List.length_replicate]; done) | (simp only [ints_length, List.length_replicate]; omega)) only [Sall,evalOp,init,binE,binI,unE,convE,okNil,builtE,gv,TD.isAgg,resV,↓reduceIte,Nat.reduceEqDiff,reduceCtorEq,Nat.reduceAdd,Nat.reduceMul,Nat.reduceLeDiff,quietOp,blindOp,Int.reduceEq,Int.reduceLT,Int.reduceLE,Nat.reduceLT,ti2,ti3,ti4,ti45,ti46,ti38,ti25,ti30,ti22,ti32,ti24,ti95,ti172,ti169,ti165,ti166,ti65,ti143,ti87, h5, h0, w64]
      refine ⟨ll.length - (a + 1), by omega, a + 1, ?_⟩
      and_intros <;> first | omega | rfl | assumption
    · have ha : a = ll.length := by omega
      subst ha
      try simp (disch := first | omega | (simp only [ints_length, List.length_replicate]; done) | (simp only [ints_length, List.length_replicate]; omega)) only [Sall,evalOp,init,binE,binI,unE,convE,okNil,builtE,gv,TD.isAgg,resV,↓reduceIte,Nat.reduceEqDiff,reduceCtorEq,Nat.reduceAdd,Nat.reduceMul,Nat.reduceLeDiff,quietOp,blindOp,Int.reduceEq,Int.reduceLT,Int.reduceLE,Nat.reduceLT,ti2,ti3,ti4,ti45,ti46,ti38,ti25,ti30,ti22,ti32,ti24,ti95,ti172,ti169,ti165,ti166,ti65,ti143,ti87, h1]
      rw [List.take_length]
      exact ⟨rfl, Up.refl _ _⟩

theorem markInt64SS_c (ty ty' lo hi : Nat) (v : Value) (ll : List (List Int)) (k0 : Int) (hk0 : 0 ≤ k0 ∧ k0 ≤ 268435456) (hn : ll.length ≤ 4194304) (ht0 : tot ll ≤ 4194304) (H : AH) (hv : Fr2 1 ty ty' lo hi H v ll) :
    ACalls Try.prog 23 [v, .int .i64 k0] H (fun r H' => r = .int .i64 (k0 + tot ll) ∧ H'.next = H.next ∧ (∀ i, ¬(lo ≤ i ∧ i < hi) → H'.row i = H.row i) ∧ Fr2 1 ty ty' lo hi H' v (seqLL k0 ll)) := by
  refine acalls_of_awp [.tmp 4] Try.func23 (by kernel_rfl) rfl rfl (Nat.le_of_ble_eq_true rfl) (by kernel_rfl) ?_
  try simp (disch := first | omega | (simp only [ints_length, List.length_replicate]; done) | (simp only [ints_length, List.length_replicate]; omega)) only [Sall,evalOp,init,binE,binI,unE,convE,okNil,builtE,gv,TD.isAgg,resV,↓reduceIte,Nat.reduceEqDiff,reduceCtorEq,Nat.reduceAdd,Nat.reduceMul,Nat.reduceLeDiff,quietOp,blindOp,Int.reduceEq,Int.reduceLT,Int.reduceLE,Nat.reduceLT,ti2,ti3,ti4,ti45,ti46,ti38,ti25,ti30,ti22,ti32,ti24,ti95,ti172,ti169,ti165,ti166,ti65,ti143,ti87, true_and]
  refine Holds.mp ?_
  rcases hv with ⟨rfl, rfl⟩ | ⟨i, vs, b, g1, g2, rfl, hr, hvl, gb0, gbn, gi, gbm, hall⟩
  · rw [holds_def]
    refine awp_loop (fun x t H' => t 5 = .int .i64 0 ∧ t 0 = .slice none 0 0 ∧ t 1 = .int .i64 k0 ∧ H' = H) 0 ?_ ?_
    · try simp (disch := first | omega | (simp only [ints_length, List.length_replicate]; done) | (simp only [ints_length, List.length_replicate]; omega)) only [Sall,evalOp,init,binE,binI,unE,convE,okNil,builtE,gv,TD.isAgg,resV,↓reduceIte,Nat.reduceEqDiff,reduceCtorEq,Nat.reduceAdd,Nat.reduceMul,Nat.reduceLeDiff,quietOp,blindOp,Int.reduceEq,Int.reduceLT,Int.reduceLE,Nat.reduceLT,ti2,ti3,ti4,ti45,ti46,ti38,ti25,ti30,ti22,ti32,ti24,ti95,ti172,ti169,ti165,ti166,ti65,ti143,ti87, true_and]
    · rintro x t H' ⟨h5, h0, h1, rfl⟩
      try simp (disch := first | omega | (simp only [ints_length, List.length_replicate]; done) | (simp only [ints_length, List.length_replicate]; omega)) only [Sall,evalOp,init,binE,binI,unE,convE,okNil,builtE,gv,TD.isAgg,resV,↓reduceIte,Nat.reduceEqDiff,reduceCtorEq,Nat.reduceAdd,Nat.reduceMul,Nat.reduceLeDiff,quietOp,blindOp,Int.reduceEq,Int.reduceLT,Int.reduceLE,Nat.reduceLT,ti2,ti3,ti4,ti45,ti46,ti38,ti25,ti30,ti22,ti32,ti24,ti95,ti172,ti169,ti165,ti166,ti65,ti143,ti87, h5, h0, h1, builtE, Int.lt_irrefl, decide_false]
      exact ⟨by simp [tot], .inl ⟨rfl, rfl⟩⟩
  · rw [holds_def]
    refine awp_loop (fun x t H' => ∃ a : Nat, x = ll.length - a ∧ a ≤ ll.length ∧ t 5 = .int .i64 a ∧ t 0 = .slice (some ⟨i, 0, some 1⟩) ll.length ll.length ∧ t 1 = .int .i64 (k0 + tot (ll.take a)) ∧ H'.next = H.next ∧ (∀ i, ¬(lo ≤ i ∧ i < hi) → H'.row i = H.row i) ∧ H'.row i = some ⟨ty, true, vs⟩ ∧
        ∀ j, j < ll.length → ∃ x m, vs[j]? = some x ∧ Fr 1 ty' (b j) (b (j + 1)) H' x m (if j < a then seqL (k0 + tot (ll.take j)) (ll.getD j []).length else ll.getD j [])) ll.length ?_ ?_
    · refine ⟨0, by omega, by omega, ?_⟩
      try simp (disch := first | omega | (simp only [ints_length, List.length_replicate]; done) | (simp only [ints_length, List.length_replicate]; omega)) only [Sall,evalOp,init,binE,binI,unE,convE,okNil,builtE,gv,TD.isAgg,resV,↓reduceIte,Nat.reduceEqDiff,reduceCtorEq,Nat.reduceAdd,Nat.reduceMul,Nat.reduceLeDiff,quietOp,blindOp,Int.reduceEq,Int.reduceLT,Int.reduceLE,Nat.reduceLT,ti2,ti3,ti4,ti45,ti46,ti38,ti25,ti30,ti22,ti32,ti24,ti95,ti172,ti169,ti165,ti166,ti65,ti143,ti87, Int.natCast_zero]
      refine ⟨by simp [tot], hr, fun j hj => ?_⟩
      rw [if_neg (by omega)]; exact hall j hj
    · rintro x t H' ⟨a, hm, h14, h5, h0, h1, hnx, hsm, hr', hal⟩
      try simp (disch := first | omega | (simp only [ints_length, List.length_replicate]; done) | (simp only [ints_length, List.length_replicate]; omega)) only [Sall,evalOp,init,binE,binI,unE,convE,okNil,builtE,gv,TD.isAgg,resV,↓reduceIte,Nat.reduceEqDiff,reduceCtorEq,Nat.reduceAdd,Nat.reduceMul,Nat.reduceLeDiff,quietOp,blindOp,Int.reduceEq,Int.reduceLT,Int.reduceLE,Nat.reduceLT,ti2,ti3,ti4,ti45,ti46,ti38,ti25,ti30,ti22,ti32,ti24,ti95,ti172,ti169,ti165,ti166,ti65,ti143,ti87, h5, h0, builtE]
      refine condC_dec (fun h => ?_) (fun h => ?_)
      · obtain ⟨y, m, hy, hf⟩ := hal a (by omega)
        rw [if_neg (by omega)] at hf
        have hmm := hf.lenK1
        have ht := tot_take_succ ll a (by omega)
        have ht2 := tot_take_le ll (a + 1)
        try simp (disch := first | omega | (simp only [ints_length, List.length_replicate]; done) | (simp only [ints_length, List.length_replicate]; omega)) only [Sall,evalOp,init,binE,binI,unE,convE,okNil,builtE,gv,TD.isAgg,resV,↓reduceIte,Nat.reduceEqDiff,reduceCtorEq,Nat.reduceAdd,Nat.reduceMul,Nat.reduceLeDiff,quietOp,blindOp,Int.reduceEq,Int.reduceLT,Int.reduceLE,Nat.reduceLT,ti2,ti3,ti4,ti45,ti46,ti38,ti25,ti30,ti22,ti32,ti24,ti95,ti172,ti169,ti165,ti166,ti65,ti143,ti87, h5, h0, h1, hr', hy]
        refine ⟨⟨by omega, by omega⟩, (markInt64S_c ty' (b a) (b (a + 1)) y m _ _ (by omega) (by omega) H' hf).fin ?_⟩
        rintro H'' ⟨hnx2, hsm2, hf2⟩
        have c1 := mono_of_step gbm (Nat.zero_le a)
        have c2 := mono_of_step gbm (show a + 1 ≤ ll.length by omega)
        try simp (disch := first | omega | (simp only [ints_length, List.length_replicate]; done) | (simp only [ints_length, List.length_replicate]; omega)) only [Sall,evalOp,init,binE,binI,unE,convE,okNil,builtE,gv,TD.isAgg,resV,↓reduceIte,Nat.reduceEqDiff,reduceCtorEq,Nat.reduceAdd,Nat.reduceMul,Nat.reduceLeDiff,quietOp,blindOp,Int.reduceEq,Int.reduceLT,Int.reduceLE,Nat.reduceLT,ti2,ti3,ti4,ti45,ti46,ti38,ti25,ti30,ti22,ti32,ti24,ti95,ti172,ti169,ti165,ti166,ti65,ti143,ti87, h5, h0, w64]
        refine ⟨ll.length - (a + 1), by omega, a + 1, rfl, by omega, by omega, by omega, by rw [hnx2, hnx], fun z hz => ?_, ?_, fun j hj => ?_⟩
        · rw [hsm2 z (by omega)]; exact hsm z hz
        · rw [hsm2 i (by omega)]; exact hr'
        · by_cases hja : j = a
          · subst hja
            refine ⟨y, m, hy, ?_⟩
            rw [if_pos (by omega), ← hmm]
            exact hf2
          · obtain ⟨y', m', hy', hf'⟩ := hal j hj
            refine ⟨y', m', hy', ?_⟩
            have e : (if j < a + 1 then seqL (k0 + ↑(tot (ll.take j))) (ll.getD j []).length else ll.getD j []) = (if j < a then seqL (k0 + ↑(tot (ll.take j))) (ll.getD j []).length else ll.getD j []) := by
              by_cases h1 : j < a
              · rw [if_pos (by omega), if_pos h1]
              · rw [if_neg (by omega), if_neg h1]
            rw [e]
            refine hf'.same fun z z1 z2 => hsm2 z ?_
            rcases Nat.lt_or_gt_of_ne hja with hlt | hgt
            · have := mono_of_step gbm (show j + 1 ≤ a from hlt); omega
            · have := mono_of_step gbm (show a + 1 ≤ j from hgt); omega
      · have ha : a = ll.length := by omega
        subst ha
        try simp (disch := first | omega | (simp only [ints_length, List.length_replicate]; done) | (simp only [ints_length, List.length_replicate]; omega)) only [Sall,evalOp,init,binE,binI,unE,convE,okNil,builtE,gv,TD.isAgg,resV,↓reduceIte,Nat.reduceEqDiff,reduceCtorEq,Nat.reduceAdd,Nat.reduceMul,Nat.reduceLeDiff,quietOp,blindOp,Int.reduceEq,Int.reduceLT,Int.reduceLE,Nat.reduceLT,ti2,ti3,ti4,ti45,ti46,ti38,ti25,ti30,ti22,ti32,ti24,ti95,ti172,ti169,ti165,ti166,ti65,ti143,ti87, h1]
        rw [List.take_length]
        refine ⟨rfl, hnx, hsm, .inr ⟨i, vs, b, g1, g2, by rw [seqLL_length], hr', by rw [seqLL_length, hvl], gb0, by rw [seqLL_length]; exact gbn, by rw [seqLL_length]; exact gi, gbm, fun j hj => ?_⟩⟩
        rw [seqLL_length] at hj
        obtain ⟨y, m, hy, hf⟩ := hal j hj
        rw [if_pos hj] at hf
        exact ⟨y, m, hy, by rw [seqLL_getD _ _ _ hj]; exact hf⟩
end Go.Proofs.Ytgkmdfjjlghecaa.A
end

section
set_option linter.unusedSimpArgs false
set_option linter.unusedVariables false
namespace Go.Abs

def okAt (n : Int) (r : List Int) (a : Nat) : Bool := if n ≤ a then r.getD a 0 == 0 else decide (0 ≤ r.getD a 0 ∧ r.getD a 0 ≤ n - 1) && r.getD (r.getD a 0).toNat 0 == a
def roundB (n : Int) (r : List Int) : Bool := decide (2 ≤ n ∧ n ≤ 14) && (List.range 14).all (okAt n r)
/-- Round i of rounds that lie one behind the other. -/
def rnd (l : List Int) (i : Nat) : List Int := (l.drop (i * 14)).take 14
def schedB (n : Int) (k : Nat) (l : List Int) : Bool := decide (2 ≤ n ∧ n ≤ 14) && decide (k ≤ 40) && (List.range k).all fun i => roundB n (rnd l i)

theorem rnd_length (l : List Int) (i k : Nat) (h : l.length = k * 14) (hi : i < k) : (rnd l i).length = 14 := by
  unfold rnd; rw [List.length_take, List.length_drop]; omega

theorem all_false_of {n i : Nat} {p : Nat → Bool} (hi : i < n) (h : p i = false) : (List.range n).all p = false := by
  rw [List.all_eq_false]; exact ⟨i, by simpa using hi, by simp [h]⟩
theorem all_true_of {n : Nat} {p : Nat → Bool} (h : ∀ x, x < n → p x = true) : (List.range n).all p = true := by
  rw [List.all_eq_true]; intro x hx; exact h x (by simpa using hx)
theorem any_true_of {n i : Nat} {p : Nat → Bool} (hi : i < n) (h : p i = true) : (List.range n).any p = true := by
  rw [List.any_eq_true]; exact ⟨i, by simpa using hi, h⟩
theorem any_false_of {n : Nat} {p : Nat → Bool} (h : ∀ x, x < n → p x = false) : (List.range n).any p = false := by
  rw [List.any_eq_false]; intro x hx; simp [h x (by simpa using hx)]

theorem roundB_bad {n : Int} {r : List Int} {a : Nat} (ha : a < 14) (h : okAt n r a = false) : roundB n r = false := by
  unfold roundB; rw [all_false_of ha h, Bool.and_false]
theorem roundB_good {n : Int} {r : List Int} (hn : 2 ≤ n ∧ n ≤ 14) (h : ∀ x, x < 14 → okAt n r x = true) : roundB n r = true := by
  unfold roundB; rw [all_true_of h, Bool.and_true]; simp [hn]
theorem roundB_range {n : Int} {r : List Int} (hn : ¬ (2 ≤ n ∧ n ≤ 14)) : roundB n r = false := by
  unfold roundB; simp only [hn, decide_false, Bool.false_and]

def firstI (p : Nat → Bool) (k : Nat) : Int := match (List.range k).find? p with | some i => (i : Int) | none => -1
theorem find_at {p : Nat → Bool} {k a : Nat} (ha : a < k) (h : p a = true) (hb : ∀ x, x < a → p x = false) : (List.range k).find? p = some a := by
  rw [List.find?_range_eq_some]
  refine ⟨h, by simpa using ha, fun x hx => by simp [hb x hx]⟩
theorem firstI_at {p : Nat → Bool} {k a : Nat} (ha : a < k) (h : p a = true) (hb : ∀ x, x < a → p x = false) : firstI p k = a := by
  unfold firstI; rw [find_at ha h hb]
theorem firstI_none {p : Nat → Bool} {k : Nat} (hb : ∀ x, x < k → p x = false) : firstI p k = -1 := by
  unfold firstI
  rw [List.find?_eq_none.2 (by intro x hx; simp [hb x (by simpa using hx)])]
theorem firstI_any (p : Nat → Bool) (k : Nat) : decide (0 ≤ firstI p k) = (List.range k).any p := by
  unfold firstI
  cases h : (List.range k).find? p with
  | none => rw [List.find?_eq_none] at h; rw [List.any_eq_false.2 h]; rfl
  | some i =>
    have h1 := List.find?_some h
    have h2 := List.mem_of_find?_eq_some h
    rw [List.any_eq_true.2 ⟨i, h2, h1⟩]
    simp
theorem schedB_any (n : Int) (k : Nat) (l : List Int) : schedB n k l = (decide (2 ≤ n ∧ n ≤ 14) && decide (k ≤ 40) && !((List.range k).any fun i => !roundB n (rnd l i))) := by
  unfold schedB; congr 1; rw [List.not_any_eq_all_not]; simp
end Go.Abs
end

section
set_option linter.unusedSimpArgs false
set_option linter.unusedVariables false
set_option maxRecDepth 100000
namespace Go.Proofs.Ytgkmdfjjlghecaa.A
open Go Go.Abs Go.RowKit

theorem between_c (n lo hi : Int) (H : AH) : ACalls Try.prog 116 [.int .i64 n, .int .i64 lo, .int .i64 hi] H (is (.bool (decide (lo ≤ n ∧ n ≤ hi))) H) := by
  refine acalls_of_awp [.tmp 6] Try.func116 (by kernel_rfl) rfl rfl (Nat.le_of_ble_eq_true rfl) (by kernel_rfl) ?_
  by_cases h : lo ≤ n
  · try simp (disch := first | omega | (simp only [ints_length, List.length_replicate]; done) | (simp only [ints_length, List.length_replicate]; omega)) only [Sall,evalOp,init,binE,binI,unE,convE,okNil,builtE,gv,TD.isAgg,resV,↓reduceIte,Nat.reduceEqDiff,reduceCtorEq,Nat.reduceAdd,Nat.reduceMul,Nat.reduceLeDiff,quietOp,blindOp,Int.reduceEq,Int.reduceLT,Int.reduceLE,Nat.reduceLT,ti2,ti3,ti4,ti45,ti46,ti38,ti25,ti30,ti22,ti32,ti24,ti95,ti172,ti169,ti165,ti166,ti65,ti143,ti87, h, decide_true, is]
  · try simp (disch := first | omega | (simp only [ints_length, List.length_replicate]; done) | (simp only [ints_length, List.length_replicate]; omega)) only [Sall,evalOp,init,binE,binI,unE,convE,okNil,builtE,gv,TD.isAgg,resV,↓reduceIte,Nat.reduceEqDiff,reduceCtorEq,Nat.reduceAdd,Nat.reduceMul,Nat.reduceLeDiff,quietOp,blindOp,Int.reduceEq,Int.reduceLT,Int.reduceLE,Nat.reduceLT,ti2,ti3,ti4,ti45,ti46,ti38,ti25,ti30,ti22,ti32,ti24,ti95,ti172,ti169,ti165,ti166,ti65,ti143,ti87, h, decide_false, is, false_and]

theorem l01In_c (n lo hi : Int) (H : AH) : ACalls Try.prog 123 [.int .i64 n, .int .i64 lo, .int .i64 hi] H (is (.bool (decide (lo ≤ n ∧ n ≤ hi))) H) := by
  refine acalls_of_awp [.tmp 6] Try.func123 (by kernel_rfl) rfl rfl (Nat.le_of_ble_eq_true rfl) (by kernel_rfl) ?_
  by_cases h : lo ≤ n
  · try simp (disch := first | omega | (simp only [ints_length, List.length_replicate]; done) | (simp only [ints_length, List.length_replicate]; omega)) only [Sall,evalOp,init,binE,binI,unE,convE,okNil,builtE,gv,TD.isAgg,resV,↓reduceIte,Nat.reduceEqDiff,reduceCtorEq,Nat.reduceAdd,Nat.reduceMul,Nat.reduceLeDiff,quietOp,blindOp,Int.reduceEq,Int.reduceLT,Int.reduceLE,Nat.reduceLT,ti2,ti3,ti4,ti45,ti46,ti38,ti25,ti30,ti22,ti32,ti24,ti95,ti172,ti169,ti165,ti166,ti65,ti143,ti87, h, decide_true, is]
  · try simp (disch := first | omega | (simp only [ints_length, List.length_replicate]; done) | (simp only [ints_length, List.length_replicate]; omega)) only [Sall,evalOp,init,binE,binI,unE,convE,okNil,builtE,gv,TD.isAgg,resV,↓reduceIte,Nat.reduceEqDiff,reduceCtorEq,Nat.reduceAdd,Nat.reduceMul,Nat.reduceLeDiff,quietOp,blindOp,Int.reduceEq,Int.reduceLT,Int.reduceLE,Nat.reduceLT,ti2,ti3,ti4,ti45,ti46,ti38,ti25,ti30,ti22,ti32,ti24,ti95,ti172,ti169,ti165,ti166,ti65,ti143,ti87, h, decide_false, is, false_and]

theorem l01Round_c (n : Int) (r : List Int) (hr : r.length = 14) (H : AH) : ACalls Try.prog 205 [.int .i64 n, .agg (ints r).toArray] H (is (.bool (roundB n r)) H) := by
  refine acalls_up rfl (acalls_of_awp [.tmp 4] Try.func205 (by kernel_rfl) rfl rfl (Nat.le_of_ble_eq_true rfl) (by kernel_rfl) ?_)
  have up : Up H.next H (H.push ⟨46, true, ints r⟩) := (Up.refl _ H).push (Nat.le_refl _) _
  try simp (disch := first | omega | (simp only [ints_length, List.length_replicate]; done) | (simp only [ints_length, List.length_replicate]; omega)) only [Sall,evalOp,init,binE,binI,unE,convE,okNil,builtE,gv,TD.isAgg,resV,↓reduceIte,Nat.reduceEqDiff,reduceCtorEq,Nat.reduceAdd,Nat.reduceMul,Nat.reduceLeDiff,quietOp,blindOp,Int.reduceEq,Int.reduceLT,Int.reduceLE,Nat.reduceLT,ti2,ti3,ti4,ti45,ti46,ti38,ti25,ti30,ti22,ti32,ti24,ti95,ti172,ti169,ti165,ti166,ti65,ti143,ti87, true_and]
  refine (l01In_c _ _ _ _).to ?_
  by_cases hn : 2 ≤ n ∧ n ≤ 14
  · try simp (disch := first | omega | (simp only [ints_length, List.length_replicate]; done) | (simp only [ints_length, List.length_replicate]; omega)) only [Sall,evalOp,init,binE,binI,unE,convE,okNil,builtE,gv,TD.isAgg,resV,↓reduceIte,Nat.reduceEqDiff,reduceCtorEq,Nat.reduceAdd,Nat.reduceMul,Nat.reduceLeDiff,quietOp,blindOp,Int.reduceEq,Int.reduceLT,Int.reduceLE,Nat.reduceLT,ti2,ti3,ti4,ti45,ti46,ti38,ti25,ti30,ti22,ti32,ti24,ti95,ti172,ti169,ti165,ti166,ti65,ti143,ti87, hn, decide_true, Bool.not_true]
    refine awp_loop (fun m t H' => ∃ a : Nat, m = 14 - a ∧ a ≤ 14 ∧ t 5 = .int .i64 a ∧ t 0 = .int .i64 n ∧ t 3 = .pointer (some ⟨H.next, 0, none⟩) ∧ H' = H.push ⟨46, true, ints r⟩ ∧ (∀ x, x < a → okAt n r x = true)) 14 ?_ ?_
    · refine ⟨0, by omega, by omega, ?_⟩
      try simp (disch := first | omega | (simp only [ints_length, List.length_replicate]; done) | (simp only [ints_length, List.length_replicate]; omega)) only [Sall,evalOp,init,binE,binI,unE,convE,okNil,builtE,gv,TD.isAgg,resV,↓reduceIte,Nat.reduceEqDiff,reduceCtorEq,Nat.reduceAdd,Nat.reduceMul,Nat.reduceLeDiff,quietOp,blindOp,Int.reduceEq,Int.reduceLT,Int.reduceLE,Nat.reduceLT,ti2,ti3,ti4,ti45,ti46,ti38,ti25,ti30,ti22,ti32,ti24,ti95,ti172,ti169,ti165,ti166,ti65,ti143,ti87, Int.natCast_zero, Nat.not_lt_zero, false_implies]
    · rintro m t H' ⟨a, hm, h14, h5, h0, h3, rfl, hall⟩
      try simp (disch := first | omega | (simp only [ints_length, List.length_replicate]; done) | (simp only [ints_length, List.length_replicate]; omega)) only [Sall,evalOp,init,binE,binI,unE,convE,okNil,builtE,gv,TD.isAgg,resV,↓reduceIte,Nat.reduceEqDiff,reduceCtorEq,Nat.reduceAdd,Nat.reduceMul,Nat.reduceLeDiff,quietOp,blindOp,Int.reduceEq,Int.reduceLT,Int.reduceLE,Nat.reduceLT,ti2,ti3,ti4,ti45,ti46,ti38,ti25,ti30,ti22,ti32,ti24,ti95,ti172,ti169,ti165,ti166,ti65,ti143,ti87, h5]
      refine condC_dec (fun h => ?_) (fun h => ?_)
      · by_cases h1 : n ≤ (a : Int)
        · have h1' : ¬ (a : Int) < n := by omega
          by_cases h2 : r.getD a 0 = 0
          · have hok : okAt n r a = true := by unfold okAt; rw [if_pos h1, h2]; rfl
            try simp (disch := first | omega | (simp only [ints_length, List.length_replicate]; done) | (simp only [ints_length, List.length_replicate]; omega)) only [Sall,evalOp,init,binE,binI,unE,convE,okNil,builtE,gv,TD.isAgg,resV,↓reduceIte,Nat.reduceEqDiff,reduceCtorEq,Nat.reduceAdd,Nat.reduceMul,Nat.reduceLeDiff,quietOp,blindOp,Int.reduceEq,Int.reduceLT,Int.reduceLE,Nat.reduceLT,ti2,ti3,ti4,ti45,ti46,ti38,ti25,ti30,ti22,ti32,ti24,ti95,ti172,ti169,ti165,ti166,ti65,ti143,ti87, h5, h0, h3, h1, h1', decide_true, decide_false, ints_get?, h2, bne_self_eq_false, w64]
            refine ⟨⟨by omega, by omega⟩, 14 - (a + 1), by omega, a + 1, rfl, by omega, by omega, fun x hx => ?_⟩
            by_cases e : x = a
            · rw [e]; exact hok
            · exact hall x (by omega)
          · have hok : okAt n r a = false := by unfold okAt; rw [if_pos h1]; simpa using h2
            have h2' : (r.getD a 0 != 0) = true := by simpa using h2
            try simp (disch := first | omega | (simp only [ints_length, List.length_replicate]; done) | (simp only [ints_length, List.length_replicate]; omega)) only [Sall,evalOp,init,binE,binI,unE,convE,okNil,builtE,gv,TD.isAgg,resV,↓reduceIte,Nat.reduceEqDiff,reduceCtorEq,Nat.reduceAdd,Nat.reduceMul,Nat.reduceLeDiff,quietOp,blindOp,Int.reduceEq,Int.reduceLT,Int.reduceLE,Nat.reduceLT,ti2,ti3,ti4,ti45,ti46,ti38,ti25,ti30,ti22,ti32,ti24,ti95,ti172,ti169,ti165,ti166,ti65,ti143,ti87, h5, h0, h3, h1, h1', decide_true, decide_false, ints_get?, h2', w64]
            refine ⟨⟨by omega, by omega⟩, ?_⟩
            rw [roundB_bad (by omega) hok]
            exact ⟨rfl, up⟩
        · have h1' : (a : Int) < n := by omega
          try simp (disch := first | omega | (simp only [ints_length, List.length_replicate]; done) | (simp only [ints_length, List.length_replicate]; omega)) only [Sall,evalOp,init,binE,binI,unE,convE,okNil,builtE,gv,TD.isAgg,resV,↓reduceIte,Nat.reduceEqDiff,reduceCtorEq,Nat.reduceAdd,Nat.reduceMul,Nat.reduceLeDiff,quietOp,blindOp,Int.reduceEq,Int.reduceLT,Int.reduceLE,Nat.reduceLT,ti2,ti3,ti4,ti45,ti46,ti38,ti25,ti30,ti22,ti32,ti24,ti95,ti172,ti169,ti165,ti166,ti65,ti143,ti87, h5, h0, h3, h1, h1', decide_true, decide_false, ints_get?, w64]
          refine ⟨⟨by omega, by omega⟩, ?_⟩
          refine (l01In_c _ _ _ _).to ?_
          by_cases h2 : 0 ≤ r.getD a 0 ∧ r.getD a 0 ≤ n - 1
          · by_cases h4 : r.getD (r.getD a 0).toNat 0 = a
            · have hok : okAt n r a = true := by unfold okAt; rw [if_neg h1, h4]; simp only [h2, decide_true, Bool.true_and, beq_self_eq_true, and_self]
              try simp (disch := first | omega | (simp only [ints_length, List.length_replicate]; done) | (simp only [ints_length, List.length_replicate]; omega)) only [Sall,evalOp,init,binE,binI,unE,convE,okNil,builtE,gv,TD.isAgg,resV,↓reduceIte,Nat.reduceEqDiff,reduceCtorEq,Nat.reduceAdd,Nat.reduceMul,Nat.reduceLeDiff,quietOp,blindOp,Int.reduceEq,Int.reduceLT,Int.reduceLE,Nat.reduceLT,ti2,ti3,ti4,ti45,ti46,ti38,ti25,ti30,ti22,ti32,ti24,ti95,ti172,ti169,ti165,ti166,ti65,ti143,ti87, h5, h0, h3, h1, h1', decide_true, decide_false, ints_get?, h2, h4, bne_self_eq_false, w64, Bool.not_true]
              refine ⟨by omega, by omega, 14 - (a + 1), by omega, a + 1, rfl, by omega, by omega, fun x hx => ?_⟩
              by_cases e : x = a
              · rw [e]; exact hok
              · exact hall x (by omega)
            · have hok : okAt n r a = false := by unfold okAt; rw [if_neg h1]; simp only [h2, decide_true, Bool.true_and, and_self]; simpa using h4
              have h4' : (r.getD (r.getD a 0).toNat 0 != (a : Int)) = true := by simpa using h4
              try simp (disch := first | omega | (simp only [ints_length, List.length_replicate]; done) | (simp only [ints_length, List.length_replicate]; omega)) only [Sall,evalOp,init,binE,binI,unE,convE,okNil,builtE,gv,TD.isAgg,resV,↓reduceIte,Nat.reduceEqDiff,reduceCtorEq,Nat.reduceAdd,Nat.reduceMul,Nat.reduceLeDiff,quietOp,blindOp,Int.reduceEq,Int.reduceLT,Int.reduceLE,Nat.reduceLT,ti2,ti3,ti4,ti45,ti46,ti38,ti25,ti30,ti22,ti32,ti24,ti95,ti172,ti169,ti165,ti166,ti65,ti143,ti87, h5, h0, h3, h1, h1', decide_true, decide_false, ints_get?, h2, h4', w64, Bool.not_true]
              refine ⟨by omega, by omega, ?_⟩
              rw [roundB_bad (by omega) hok]
              exact ⟨rfl, up⟩
          · have hok : okAt n r a = false := by unfold okAt; rw [if_neg h1]; simp only [h2, decide_false, Bool.false_and]
            try simp (disch := first | omega | (simp only [ints_length, List.length_replicate]; done) | (simp only [ints_length, List.length_replicate]; omega)) only [Sall,evalOp,init,binE,binI,unE,convE,okNil,builtE,gv,TD.isAgg,resV,↓reduceIte,Nat.reduceEqDiff,reduceCtorEq,Nat.reduceAdd,Nat.reduceMul,Nat.reduceLeDiff,quietOp,blindOp,Int.reduceEq,Int.reduceLT,Int.reduceLE,Nat.reduceLT,ti2,ti3,ti4,ti45,ti46,ti38,ti25,ti30,ti22,ti32,ti24,ti95,ti172,ti169,ti165,ti166,ti65,ti143,ti87, h5, h0, h3, h1, h1', decide_true, decide_false, ints_get?, h2, w64, Bool.not_false]
            rw [roundB_bad (by omega) hok]
            exact ⟨rfl, up⟩
      · try simp (disch := first | omega | (simp only [ints_length, List.length_replicate]; done) | (simp only [ints_length, List.length_replicate]; omega)) only [Sall,evalOp,init,binE,binI,unE,convE,okNil,builtE,gv,TD.isAgg,resV,↓reduceIte,Nat.reduceEqDiff,reduceCtorEq,Nat.reduceAdd,Nat.reduceMul,Nat.reduceLeDiff,quietOp,blindOp,Int.reduceEq,Int.reduceLT,Int.reduceLE,Nat.reduceLT,ti2,ti3,ti4,ti45,ti46,ti38,ti25,ti30,ti22,ti32,ti24,ti95,ti172,ti169,ti165,ti166,ti65,ti143,ti87, true_and]
        rw [roundB_good hn fun x hx => hall x (by omega)]
        exact ⟨rfl, up⟩
  · try simp (disch := first | omega | (simp only [ints_length, List.length_replicate]; done) | (simp only [ints_length, List.length_replicate]; omega)) only [Sall,evalOp,init,binE,binI,unE,convE,okNil,builtE,gv,TD.isAgg,resV,↓reduceIte,Nat.reduceEqDiff,reduceCtorEq,Nat.reduceAdd,Nat.reduceMul,Nat.reduceLeDiff,quietOp,blindOp,Int.reduceEq,Int.reduceLT,Int.reduceLE,Nat.reduceLT,ti2,ti3,ti4,ti45,ti46,ti38,ti25,ti30,ti22,ti32,ti24,ti95,ti172,ti169,ti165,ti166,ti65,ti143,ti87, hn, decide_false, Bool.not_false]
    rw [roundB_range hn]
    exact ⟨rfl, up⟩

theorem IsRound_c (n : Int) (r : List Int) (hr : r.length = 14) (H : AH) : ACalls Try.prog 225 [.int .i64 n, .agg (ints r).toArray] H (is (.bool (roundB n r)) H) := by
  refine acalls_up rfl (acalls_of_awp [.tmp 4] Try.func225 (by kernel_rfl) rfl rfl (Nat.le_of_ble_eq_true rfl) (by kernel_rfl) ?_)
  have up : Up H.next H (H.push ⟨46, true, ints r⟩) := (Up.refl _ H).push (Nat.le_refl _) _
  try simp (disch := first | omega | (simp only [ints_length, List.length_replicate]; done) | (simp only [ints_length, List.length_replicate]; omega)) only [Sall,evalOp,init,binE,binI,unE,convE,okNil,builtE,gv,TD.isAgg,resV,↓reduceIte,Nat.reduceEqDiff,reduceCtorEq,Nat.reduceAdd,Nat.reduceMul,Nat.reduceLeDiff,quietOp,blindOp,Int.reduceEq,Int.reduceLT,Int.reduceLE,Nat.reduceLT,ti2,ti3,ti4,ti45,ti46,ti38,ti25,ti30,ti22,ti32,ti24,ti95,ti172,ti169,ti165,ti166,ti65,ti143,ti87, true_and]
  refine (between_c _ _ _ _).to ?_
  by_cases hn : 2 ≤ n ∧ n ≤ 14
  · try simp (disch := first | omega | (simp only [ints_length, List.length_replicate]; done) | (simp only [ints_length, List.length_replicate]; omega)) only [Sall,evalOp,init,binE,binI,unE,convE,okNil,builtE,gv,TD.isAgg,resV,↓reduceIte,Nat.reduceEqDiff,reduceCtorEq,Nat.reduceAdd,Nat.reduceMul,Nat.reduceLeDiff,quietOp,blindOp,Int.reduceEq,Int.reduceLT,Int.reduceLE,Nat.reduceLT,ti2,ti3,ti4,ti45,ti46,ti38,ti25,ti30,ti22,ti32,ti24,ti95,ti172,ti169,ti165,ti166,ti65,ti143,ti87, hn, decide_true, Bool.not_true]
    refine ⟨by omega, ?_⟩
    refine awp_loop (fun m t H' => ∃ a : Nat, m = 14 - a ∧ a ≤ 14 ∧ t 11 = .int .i64 a ∧ t 10 = .agg (ints r).toArray ∧ t 0 = .int .i64 n ∧ t 3 = .pointer (some ⟨H.next, 0, none⟩) ∧ H' = H.push ⟨46, true, ints r⟩ ∧ (∀ x, x < a → okAt n r x = true)) 14 ?_ ?_
    · refine ⟨0, by omega, by omega, ?_⟩
      try simp (disch := first | omega | (simp only [ints_length, List.length_replicate]; done) | (simp only [ints_length, List.length_replicate]; omega)) only [Sall,evalOp,init,binE,binI,unE,convE,okNil,builtE,gv,TD.isAgg,resV,↓reduceIte,Nat.reduceEqDiff,reduceCtorEq,Nat.reduceAdd,Nat.reduceMul,Nat.reduceLeDiff,quietOp,blindOp,Int.reduceEq,Int.reduceLT,Int.reduceLE,Nat.reduceLT,ti2,ti3,ti4,ti45,ti46,ti38,ti25,ti30,ti22,ti32,ti24,ti95,ti172,ti169,ti165,ti166,ti65,ti143,ti87, Int.natCast_zero, Nat.not_lt_zero, false_implies]
    · rintro m t H' ⟨a, hm, h14, h5, h10, h0, h3, rfl, hall⟩
      try simp (disch := first | omega | (simp only [ints_length, List.length_replicate]; done) | (simp only [ints_length, List.length_replicate]; omega)) only [Sall,evalOp,init,binE,binI,unE,convE,okNil,builtE,gv,TD.isAgg,resV,↓reduceIte,Nat.reduceEqDiff,reduceCtorEq,Nat.reduceAdd,Nat.reduceMul,Nat.reduceLeDiff,quietOp,blindOp,Int.reduceEq,Int.reduceLT,Int.reduceLE,Nat.reduceLT,ti2,ti3,ti4,ti45,ti46,ti38,ti25,ti30,ti22,ti32,ti24,ti95,ti172,ti169,ti165,ti166,ti65,ti143,ti87, h5]
      refine condC_dec (fun h => ?_) (fun h => ?_)
      · by_cases h1 : n ≤ (a : Int)
        · have h1' : ¬ (a : Int) < n := by omega
          by_cases h2 : r.getD a 0 = 0
          · have hok : okAt n r a = true := by unfold okAt; rw [if_pos h1, h2]; rfl
            try simp (disch := first | omega | (simp only [ints_length, List.length_replicate]; done) | (simp only [ints_length, List.length_replicate]; omega)) only [Sall,evalOp,init,binE,binI,unE,convE,okNil,builtE,gv,TD.isAgg,resV,↓reduceIte,Nat.reduceEqDiff,reduceCtorEq,Nat.reduceAdd,Nat.reduceMul,Nat.reduceLeDiff,quietOp,blindOp,Int.reduceEq,Int.reduceLT,Int.reduceLE,Nat.reduceLT,ti2,ti3,ti4,ti45,ti46,ti38,ti25,ti30,ti22,ti32,ti24,ti95,ti172,ti169,ti165,ti166,ti65,ti143,ti87, h5, h10, h0, h3, h1, h1', decide_true, decide_false, ints_get?, h2, bne_self_eq_false, w64]
            refine ⟨⟨by omega, by omega⟩, 14 - (a + 1), by omega, a + 1, rfl, by omega, by omega, fun x hx => ?_⟩
            by_cases e : x = a
            · rw [e]; exact hok
            · exact hall x (by omega)
          · have hok : okAt n r a = false := by unfold okAt; rw [if_pos h1]; simpa using h2
            have h2' : (r.getD a 0 != 0) = true := by simpa using h2
            try simp (disch := first | omega | (simp only [ints_length, List.length_replicate]; done) | (simp only [ints_length, List.length_replicate]; omega)) only [Sall,evalOp,init,binE,binI,unE,convE,okNil,builtE,gv,TD.isAgg,resV,↓reduceIte,Nat.reduceEqDiff,reduceCtorEq,Nat.reduceAdd,Nat.reduceMul,Nat.reduceLeDiff,quietOp,blindOp,Int.reduceEq,Int.reduceLT,Int.reduceLE,Nat.reduceLT,ti2,ti3,ti4,ti45,ti46,ti38,ti25,ti30,ti22,ti32,ti24,ti95,ti172,ti169,ti165,ti166,ti65,ti143,ti87, h5, h10, h0, h3, h1, h1', decide_true, decide_false, ints_get?, h2', w64]
            refine ⟨⟨by omega, by omega⟩, ?_⟩
            rw [roundB_bad (by omega) hok]
            exact ⟨rfl, up⟩
        · have h1' : (a : Int) < n := by omega
          try simp (disch := first | omega | (simp only [ints_length, List.length_replicate]; done) | (simp only [ints_length, List.length_replicate]; omega)) only [Sall,evalOp,init,binE,binI,unE,convE,okNil,builtE,gv,TD.isAgg,resV,↓reduceIte,Nat.reduceEqDiff,reduceCtorEq,Nat.reduceAdd,Nat.reduceMul,Nat.reduceLeDiff,quietOp,blindOp,Int.reduceEq,Int.reduceLT,Int.reduceLE,Nat.reduceLT,ti2,ti3,ti4,ti45,ti46,ti38,ti25,ti30,ti22,ti32,ti24,ti95,ti172,ti169,ti165,ti166,ti65,ti143,ti87, h5, h10, h0, h3, h1, h1', decide_true, decide_false, ints_get?, w64]
          refine ⟨⟨by omega, by omega⟩, ?_⟩
          refine (between_c _ _ _ _).to ?_
          by_cases h2 : 0 ≤ r.getD a 0 ∧ r.getD a 0 ≤ n - 1
          · by_cases h4 : r.getD (r.getD a 0).toNat 0 = a
            · have hok : okAt n r a = true := by unfold okAt; rw [if_neg h1, h4]; simp only [h2, decide_true, Bool.true_and, beq_self_eq_true, and_self]
              try simp (disch := first | omega | (simp only [ints_length, List.length_replicate]; done) | (simp only [ints_length, List.length_replicate]; omega)) only [Sall,evalOp,init,binE,binI,unE,convE,okNil,builtE,gv,TD.isAgg,resV,↓reduceIte,Nat.reduceEqDiff,reduceCtorEq,Nat.reduceAdd,Nat.reduceMul,Nat.reduceLeDiff,quietOp,blindOp,Int.reduceEq,Int.reduceLT,Int.reduceLE,Nat.reduceLT,ti2,ti3,ti4,ti45,ti46,ti38,ti25,ti30,ti22,ti32,ti24,ti95,ti172,ti169,ti165,ti166,ti65,ti143,ti87, h5, h10, h0, h3, h1, h1', decide_true, decide_false, ints_get?, h2, h4, bne_self_eq_false, w64, Bool.not_true]
              refine ⟨by omega, 14 - (a + 1), by omega, a + 1, rfl, by omega, by omega, fun x hx => ?_⟩
              by_cases e : x = a
              · rw [e]; exact hok
              · exact hall x (by omega)
            · have hok : okAt n r a = false := by unfold okAt; rw [if_neg h1]; simp only [h2, decide_true, Bool.true_and, and_self]; simpa using h4
              have h4' : (r.getD (r.getD a 0).toNat 0 != (a : Int)) = true := by simpa using h4
              try simp (disch := first | omega | (simp only [ints_length, List.length_replicate]; done) | (simp only [ints_length, List.length_replicate]; omega)) only [Sall,evalOp,init,binE,binI,unE,convE,okNil,builtE,gv,TD.isAgg,resV,↓reduceIte,Nat.reduceEqDiff,reduceCtorEq,Nat.reduceAdd,Nat.reduceMul,Nat.reduceLeDiff,quietOp,blindOp,Int.reduceEq,Int.reduceLT,Int.reduceLE,Nat.reduceLT,ti2,ti3,ti4,ti45,ti46,ti38,ti25,ti30,ti22,ti32,ti24,ti95,ti172,ti169,ti165,ti166,ti65,ti143,ti87, h5, h10, h0, h3, h1, h1', decide_true, decide_false, ints_get?, h2, h4', w64, Bool.not_true]
              refine ⟨by omega, ?_⟩
              rw [roundB_bad (by omega) hok]
              exact ⟨rfl, up⟩
          · have hok : okAt n r a = false := by unfold okAt; rw [if_neg h1]; simp only [h2, decide_false, Bool.false_and]
            try simp (disch := first | omega | (simp only [ints_length, List.length_replicate]; done) | (simp only [ints_length, List.length_replicate]; omega)) only [Sall,evalOp,init,binE,binI,unE,convE,okNil,builtE,gv,TD.isAgg,resV,↓reduceIte,Nat.reduceEqDiff,reduceCtorEq,Nat.reduceAdd,Nat.reduceMul,Nat.reduceLeDiff,quietOp,blindOp,Int.reduceEq,Int.reduceLT,Int.reduceLE,Nat.reduceLT,ti2,ti3,ti4,ti45,ti46,ti38,ti25,ti30,ti22,ti32,ti24,ti95,ti172,ti169,ti165,ti166,ti65,ti143,ti87, h5, h10, h0, h3, h1, h1', decide_true, decide_false, ints_get?, h2, w64, Bool.not_false]
            rw [roundB_bad (by omega) hok]
            exact ⟨rfl, up⟩
      · try simp (disch := first | omega | (simp only [ints_length, List.length_replicate]; done) | (simp only [ints_length, List.length_replicate]; omega)) only [Sall,evalOp,init,binE,binI,unE,convE,okNil,builtE,gv,TD.isAgg,resV,↓reduceIte,Nat.reduceEqDiff,reduceCtorEq,Nat.reduceAdd,Nat.reduceMul,Nat.reduceLeDiff,quietOp,blindOp,Int.reduceEq,Int.reduceLT,Int.reduceLE,Nat.reduceLT,ti2,ti3,ti4,ti45,ti46,ti38,ti25,ti30,ti22,ti32,ti24,ti95,ti172,ti169,ti165,ti166,ti65,ti143,ti87, true_and]
        rw [roundB_good hn fun x hx => hall x (by omega)]
        exact ⟨rfl, up⟩
  · try simp (disch := first | omega | (simp only [ints_length, List.length_replicate]; done) | (simp only [ints_length, List.length_replicate]; omega)) only [Sall,evalOp,init,binE,binI,unE,convE,okNil,builtE,gv,TD.isAgg,resV,↓reduceIte,Nat.reduceEqDiff,reduceCtorEq,Nat.reduceAdd,Nat.reduceMul,Nat.reduceLeDiff,quietOp,blindOp,Int.reduceEq,Int.reduceLT,Int.reduceLE,Nat.reduceLT,ti2,ti3,ti4,ti45,ti46,ti38,ti25,ti30,ti22,ti32,ti24,ti95,ti172,ti169,ti165,ti166,ti65,ti143,ti87, hn, decide_false, Bool.not_false]
    rw [roundB_range hn]
    exact ⟨rfl, up⟩

theorem l01Is_c (q : Int) (v : Value) (k : Nat) (l : List Int) (H : AH) (hv : Rd 14 H v k l) (hk : k ≤ 4294967296) : ACalls Try.prog 154 [.agg #[.int .i64 q, v]] H (is (.bool (schedB q k l)) H) := by
  refine ACalls.wf (by kernel_rfl) fun hs => acalls_up rfl (acalls_of_awp [.tmp 2] Try.func154 (by kernel_rfl) rfl rfl (Nat.le_of_ble_eq_true rfl) (by kernel_rfl) ?_)
  have up : Up H.next H (H.push ⟨32, true, [.int .i64 q, v]⟩) := (Up.refl _ H).push (Nat.le_refl _) _
  have hv1 := hv.same (up.le hs).row
  have e1 : (H.push ⟨32, true, [.int .i64 q, v]⟩).row H.next = some ⟨32, true, [.int .i64 q, v]⟩ := by rw [AH.push_row, if_pos rfl]
  try simp (disch := first | omega | (simp only [ints_length, List.length_replicate]; done) | (simp only [ints_length, List.length_replicate]; omega)) only [Sall,evalOp,init,binE,binI,unE,convE,okNil,builtE,gv,TD.isAgg,resV,↓reduceIte,Nat.reduceEqDiff,reduceCtorEq,Nat.reduceAdd,Nat.reduceMul,Nat.reduceLeDiff,quietOp,blindOp,Int.reduceEq,Int.reduceLT,Int.reduceLE,Nat.reduceLT,ti2,ti3,ti4,ti45,ti46,ti38,ti25,ti30,ti22,ti32,ti24,ti95,ti172,ti169,ti165,ti166,ti65,ti143,ti87, true_and]
  refine (l01In_c _ _ _ _).to ?_
  revert up hv1 e1
  generalize H.push ⟨32, true, [.int .i64 q, v]⟩ = H1
  intro up hv1 e1
  by_cases hn : 2 ≤ q ∧ q ≤ 14
  · by_cases h40 : k ≤ 40
    · have h40' : ¬ (40 : Int) < k := by omega
      try simp (disch := first | omega | (simp only [ints_length, List.length_replicate]; done) | (simp only [ints_length, List.length_replicate]; omega)) only [Sall,evalOp,init,binE,binI,unE,convE,okNil,builtE,gv,TD.isAgg,resV,↓reduceIte,Nat.reduceEqDiff,reduceCtorEq,Nat.reduceAdd,Nat.reduceMul,Nat.reduceLeDiff,quietOp,blindOp,Int.reduceEq,Int.reduceLT,Int.reduceLE,Nat.reduceLT,ti2,ti3,ti4,ti45,ti46,ti38,ti25,ti30,ti22,ti32,ti24,ti95,ti172,ti169,ti165,ti166,ti65,ti143,ti87, hn, decide_true, Bool.not_true, e1, builtE, hv1.len, h40', decide_false]
      refine awp_loop (fun m t H' => ∃ a : Nat, m = k - a ∧ a ≤ k ∧ t 3 = .int .i64 a ∧ t 1 = .pointer (some ⟨H.next, 0, none⟩) ∧ H' = H1 ∧ (∀ x, x < a → roundB q (rnd l x) = true)) k ?_ ?_
      · refine ⟨0, by omega, by omega, ?_⟩
        try simp (disch := first | omega | (simp only [ints_length, List.length_replicate]; done) | (simp only [ints_length, List.length_replicate]; omega)) only [Sall,evalOp,init,binE,binI,unE,convE,okNil,builtE,gv,TD.isAgg,resV,↓reduceIte,Nat.reduceEqDiff,reduceCtorEq,Nat.reduceAdd,Nat.reduceMul,Nat.reduceLeDiff,quietOp,blindOp,Int.reduceEq,Int.reduceLT,Int.reduceLE,Nat.reduceLT,ti2,ti3,ti4,ti45,ti46,ti38,ti25,ti30,ti22,ti32,ti24,ti95,ti172,ti169,ti165,ti166,ti65,ti143,ti87, Int.natCast_zero, Nat.not_lt_zero, false_implies]
      · rintro m t H' ⟨a, hm, h14, h3, h1, rfl, hall⟩
        try simp (disch := first | omega | (simp only [ints_length, List.length_replicate]; done) | (simp only [ints_length, List.length_replicate]; omega)) only [Sall,evalOp,init,binE,binI,unE,convE,okNil,builtE,gv,TD.isAgg,resV,↓reduceIte,Nat.reduceEqDiff,reduceCtorEq,Nat.reduceAdd,Nat.reduceMul,Nat.reduceLeDiff,quietOp,blindOp,Int.reduceEq,Int.reduceLT,Int.reduceLE,Nat.reduceLT,ti2,ti3,ti4,ti45,ti46,ti38,ti25,ti30,ti22,ti32,ti24,ti95,ti172,ti169,ti165,ti166,ti65,ti143,ti87, h3, h1, e1, builtE, hv1.len]
        refine condC_dec (fun h => ?_) (fun h => ?_)
        · obtain ⟨i, o, u, c, r, rfl, hr, hc, hs1, hg⟩ := hv1.get (by omega)
          refine draw_id (by kernel_rfl) (by kernel_rfl) ?_
          try simp (disch := first | omega | (simp only [ints_length, List.length_replicate]; done) | (simp only [ints_length, List.length_replicate]; omega)) only [Sall,evalOp,init,binE,binI,unE,convE,okNil,builtE,gv,TD.isAgg,resV,↓reduceIte,Nat.reduceEqDiff,reduceCtorEq,Nat.reduceAdd,Nat.reduceMul,Nat.reduceLeDiff,quietOp,blindOp,Int.reduceEq,Int.reduceLT,Int.reduceLE,Nat.reduceLT,ti2,ti3,ti4,ti45,ti46,ti38,ti25,ti30,ti22,ti32,ti24,ti95,ti172,ti169,ti165,ti166,ti65,ti143,ti87, h3, h1, e1, hr, hg]
          refine ⟨⟨by omega, by omega⟩, by omega, (l01Round_c _ _ ?_ _).to ⟨.inr (.inr (LE.refl _)), ?_⟩⟩
          · rw [List.length_take, List.length_drop, hv.1]; omega
          · cases hb : roundB q (List.take 14 (List.drop (a * 14) l)) with
            | true =>
              try simp (disch := first | omega | (simp only [ints_length, List.length_replicate]; done) | (simp only [ints_length, List.length_replicate]; omega)) only [Sall,evalOp,init,binE,binI,unE,convE,okNil,builtE,gv,TD.isAgg,resV,↓reduceIte,Nat.reduceEqDiff,reduceCtorEq,Nat.reduceAdd,Nat.reduceMul,Nat.reduceLeDiff,quietOp,blindOp,Int.reduceEq,Int.reduceLT,Int.reduceLE,Nat.reduceLT,ti2,ti3,ti4,ti45,ti46,ti38,ti25,ti30,ti22,ti32,ti24,ti95,ti172,ti169,ti165,ti166,ti65,ti143,ti87, h3, h1, Bool.not_true, w64]
              refine ⟨k - (a + 1), by omega, a + 1, rfl, by omega, by omega, fun x hx => ?_⟩
              by_cases e : x = a
              · rw [e]; exact hb
              · exact hall x (by omega)
            | false =>
              try simp (disch := first | omega | (simp only [ints_length, List.length_replicate]; done) | (simp only [ints_length, List.length_replicate]; omega)) only [Sall,evalOp,init,binE,binI,unE,convE,okNil,builtE,gv,TD.isAgg,resV,↓reduceIte,Nat.reduceEqDiff,reduceCtorEq,Nat.reduceAdd,Nat.reduceMul,Nat.reduceLeDiff,quietOp,blindOp,Int.reduceEq,Int.reduceLT,Int.reduceLE,Nat.reduceLT,ti2,ti3,ti4,ti45,ti46,ti38,ti25,ti30,ti22,ti32,ti24,ti95,ti172,ti169,ti165,ti166,ti65,ti143,ti87, h3, h1, Bool.not_false]
              unfold schedB
              rw [all_false_of (p := fun i => roundB q (rnd l i)) (i := a) (by omega) hb, Bool.and_false]
              exact ⟨rfl, up⟩
        · try simp (disch := first | omega | (simp only [ints_length, List.length_replicate]; done) | (simp only [ints_length, List.length_replicate]; omega)) only [Sall,evalOp,init,binE,binI,unE,convE,okNil,builtE,gv,TD.isAgg,resV,↓reduceIte,Nat.reduceEqDiff,reduceCtorEq,Nat.reduceAdd,Nat.reduceMul,Nat.reduceLeDiff,quietOp,blindOp,Int.reduceEq,Int.reduceLT,Int.reduceLE,Nat.reduceLT,ti2,ti3,ti4,ti45,ti46,ti38,ti25,ti30,ti22,ti32,ti24,ti95,ti172,ti169,ti165,ti166,ti65,ti143,ti87, true_and]
          unfold schedB
          rw [all_true_of (p := fun i => roundB q (rnd l i)) fun x hx => hall x (by omega)]
          simp only [hn, h40, decide_true, and_self, Bool.and_self, true_and]
          exact up
    · have h40' : (40 : Int) < k := by omega
      try simp (disch := first | omega | (simp only [ints_length, List.length_replicate]; done) | (simp only [ints_length, List.length_replicate]; omega)) only [Sall,evalOp,init,binE,binI,unE,convE,okNil,builtE,gv,TD.isAgg,resV,↓reduceIte,Nat.reduceEqDiff,reduceCtorEq,Nat.reduceAdd,Nat.reduceMul,Nat.reduceLeDiff,quietOp,blindOp,Int.reduceEq,Int.reduceLT,Int.reduceLE,Nat.reduceLT,ti2,ti3,ti4,ti45,ti46,ti38,ti25,ti30,ti22,ti32,ti24,ti95,ti172,ti169,ti165,ti166,ti65,ti143,ti87, hn, decide_true, Bool.not_true, e1, builtE, hv1.len, h40']
      unfold schedB
      simp only [h40, decide_false, Bool.and_false, Bool.false_and, true_and]
      exact up
  · try simp (disch := first | omega | (simp only [ints_length, List.length_replicate]; done) | (simp only [ints_length, List.length_replicate]; omega)) only [Sall,evalOp,init,binE,binI,unE,convE,okNil,builtE,gv,TD.isAgg,resV,↓reduceIte,Nat.reduceEqDiff,reduceCtorEq,Nat.reduceAdd,Nat.reduceMul,Nat.reduceLeDiff,quietOp,blindOp,Int.reduceEq,Int.reduceLT,Int.reduceLE,Nat.reduceLT,ti2,ti3,ti4,ti45,ti46,ti38,ti25,ti30,ti22,ti32,ti24,ti95,ti172,ti169,ti165,ti166,ti65,ti143,ti87, hn, decide_false, Bool.not_false]
    unfold schedB
    simp only [hn, decide_false, Bool.false_and, true_and]
    exact up

theorem indexFuncR_c (g : FuncId) (cap : List Value) (p : List Int → Bool) (v : Value) (k : Nat) (l : List Int) (H : AH) (hv : Rd 14 H v k l) (hk : k ≤ 4294967296)
    (hp : ∀ r : List Int, r.length = 14 → ACalls Try.prog g (.agg (ints r).toArray :: cap) H (is (.bool (p r)) H)) :
    ACalls Try.prog 244 [v, .func (.func g) #[] cap.toArray] H (is (.int .i64 (firstI (fun i => p (rnd l i)) k)) H) := by
  refine acalls_of_awp [.tmp 4] Try.func244 (by kernel_rfl) rfl rfl (Nat.le_of_ble_eq_true rfl) (by kernel_rfl) ?_
  try simp (disch := first | omega | (simp only [ints_length, List.length_replicate]; done) | (simp only [ints_length, List.length_replicate]; omega)) only [Sall,evalOp,init,binE,binI,unE,convE,okNil,builtE,gv,TD.isAgg,resV,↓reduceIte,Nat.reduceEqDiff,reduceCtorEq,Nat.reduceAdd,Nat.reduceMul,Nat.reduceLeDiff,quietOp,blindOp,Int.reduceEq,Int.reduceLT,Int.reduceLE,Nat.reduceLT,ti2,ti3,ti4,ti45,ti46,ti38,ti25,ti30,ti22,ti32,ti24,ti95,ti172,ti169,ti165,ti166,ti65,ti143,ti87, builtE, hv.len]
  refine awp_loop (fun m t H' => ∃ a : Nat, m = k - a ∧ a ≤ k ∧ t 8 = .int .i64 a ∧ t 7 = .int .i64 k ∧ t 0 = v ∧ t 1 = .func (.func g) #[] cap.toArray ∧ H' = H ∧ (∀ x, x < a → p (rnd l x) = false)) k ?_ ?_
  · refine ⟨0, by omega, by omega, ?_⟩
    try simp (disch := first | omega | (simp only [ints_length, List.length_replicate]; done) | (simp only [ints_length, List.length_replicate]; omega)) only [Sall,evalOp,init,binE,binI,unE,convE,okNil,builtE,gv,TD.isAgg,resV,↓reduceIte,Nat.reduceEqDiff,reduceCtorEq,Nat.reduceAdd,Nat.reduceMul,Nat.reduceLeDiff,quietOp,blindOp,Int.reduceEq,Int.reduceLT,Int.reduceLE,Nat.reduceLT,ti2,ti3,ti4,ti45,ti46,ti38,ti25,ti30,ti22,ti32,ti24,ti95,ti172,ti169,ti165,ti166,ti65,ti143,ti87, Int.natCast_zero, Nat.not_lt_zero, false_implies]
  · rintro m t H' ⟨a, hm, h14, h8, h7, h0, h1, rfl, hall⟩
    try simp (disch := first | omega | (simp only [ints_length, List.length_replicate]; done) | (simp only [ints_length, List.length_replicate]; omega)) only [Sall,evalOp,init,binE,binI,unE,convE,okNil,builtE,gv,TD.isAgg,resV,↓reduceIte,Nat.reduceEqDiff,reduceCtorEq,Nat.reduceAdd,Nat.reduceMul,Nat.reduceLeDiff,quietOp,blindOp,Int.reduceEq,Int.reduceLT,Int.reduceLE,Nat.reduceLT,ti2,ti3,ti4,ti45,ti46,ti38,ti25,ti30,ti22,ti32,ti24,ti95,ti172,ti169,ti165,ti166,ti65,ti143,ti87, h8, h7]
    refine condC_dec (fun h => ?_) (fun h => ?_)
    · obtain ⟨i, o, u, c, r, rfl, hr, hc, hs1, hg⟩ := hv.get (by omega)
      try simp (disch := first | omega | (simp only [ints_length, List.length_replicate]; done) | (simp only [ints_length, List.length_replicate]; omega)) only [Sall,evalOp,init,binE,binI,unE,convE,okNil,builtE,gv,TD.isAgg,resV,↓reduceIte,Nat.reduceEqDiff,reduceCtorEq,Nat.reduceAdd,Nat.reduceMul,Nat.reduceLeDiff,quietOp,blindOp,Int.reduceEq,Int.reduceLT,Int.reduceLE,Nat.reduceLT,ti2,ti3,ti4,ti45,ti46,ti38,ti25,ti30,ti22,ti32,ti24,ti95,ti172,ti169,ti165,ti166,ti65,ti143,ti87, h8, h7, h0, h1, hr, hg]
      refine ⟨⟨by omega, by omega⟩, by omega, (hp _ ?_).to ?_⟩
      · rw [List.length_take, List.length_drop, hv.1]; omega
      · cases hb : p (List.take 14 (List.drop (a * 14) l)) with
        | true =>
          try simp (disch := first | omega | (simp only [ints_length, List.length_replicate]; done) | (simp only [ints_length, List.length_replicate]; omega)) only [Sall,evalOp,init,binE,binI,unE,convE,okNil,builtE,gv,TD.isAgg,resV,↓reduceIte,Nat.reduceEqDiff,reduceCtorEq,Nat.reduceAdd,Nat.reduceMul,Nat.reduceLeDiff,quietOp,blindOp,Int.reduceEq,Int.reduceLT,Int.reduceLE,Nat.reduceLT,ti2,ti3,ti4,ti45,ti46,ti38,ti25,ti30,ti22,ti32,ti24,ti95,ti172,ti169,ti165,ti166,ti65,ti143,ti87, h8, h7, h0, h1, is]
          rw [firstI_at (p := fun i => p (rnd l i)) (by omega) hb hall]
        | false =>
          try simp (disch := first | omega | (simp only [ints_length, List.length_replicate]; done) | (simp only [ints_length, List.length_replicate]; omega)) only [Sall,evalOp,init,binE,binI,unE,convE,okNil,builtE,gv,TD.isAgg,resV,↓reduceIte,Nat.reduceEqDiff,reduceCtorEq,Nat.reduceAdd,Nat.reduceMul,Nat.reduceLeDiff,quietOp,blindOp,Int.reduceEq,Int.reduceLT,Int.reduceLE,Nat.reduceLT,ti2,ti3,ti4,ti45,ti46,ti38,ti25,ti30,ti22,ti32,ti24,ti95,ti172,ti169,ti165,ti166,ti65,ti143,ti87, h8, h7, h0, h1, w64]
          refine ⟨k - (a + 1), by omega, a + 1, rfl, by omega, by omega, fun x hx => ?_⟩
          by_cases e : x = a
          · rw [e]; exact hb
          · exact hall x (by omega)
    · try simp (disch := first | omega | (simp only [ints_length, List.length_replicate]; done) | (simp only [ints_length, List.length_replicate]; omega)) only [Sall,evalOp,init,binE,binI,unE,convE,okNil,builtE,gv,TD.isAgg,resV,↓reduceIte,Nat.reduceEqDiff,reduceCtorEq,Nat.reduceAdd,Nat.reduceMul,Nat.reduceLeDiff,quietOp,blindOp,Int.reduceEq,Int.reduceLT,Int.reduceLE,Nat.reduceLT,ti2,ti3,ti4,ti45,ti46,ti38,ti25,ti30,ti22,ti32,ti24,ti95,ti172,ti169,ti165,ti166,ti65,ti143,ti87, is]
      rw [firstI_none (p := fun i => p (rnd l i)) fun x hx => hall x (by omega)]

theorem containsFuncR_c (g : FuncId) (cap : List Value) (p : List Int → Bool) (v : Value) (k : Nat) (l : List Int) (H : AH) (hv : Rd 14 H v k l) (hk : k ≤ 4294967296)
    (hp : ∀ r : List Int, r.length = 14 → ACalls Try.prog g (.agg (ints r).toArray :: cap) H (is (.bool (p r)) H)) :
    ACalls Try.prog 223 [v, .func (.func g) #[] cap.toArray] H (is (.bool ((List.range k).any fun i => p (rnd l i))) H) := by
  refine acalls_of_awp [.tmp 4] Try.func223 (by kernel_rfl) rfl rfl (Nat.le_of_ble_eq_true rfl) (by kernel_rfl) ?_
  try simp (disch := first | omega | (simp only [ints_length, List.length_replicate]; done) | (simp only [ints_length, List.length_replicate]; omega)) only [Sall,evalOp,init,binE,binI,unE,convE,okNil,builtE,gv,TD.isAgg,resV,↓reduceIte,Nat.reduceEqDiff,reduceCtorEq,Nat.reduceAdd,Nat.reduceMul,Nat.reduceLeDiff,quietOp,blindOp,Int.reduceEq,Int.reduceLT,Int.reduceLE,Nat.reduceLT,ti2,ti3,ti4,ti45,ti46,ti38,ti25,ti30,ti22,ti32,ti24,ti95,ti172,ti169,ti165,ti166,ti65,ti143,ti87, true_and]
  refine (indexFuncR_c g cap p v k l H hv hk hp).to ?_
  try simp (disch := first | omega | (simp only [ints_length, List.length_replicate]; done) | (simp only [ints_length, List.length_replicate]; omega)) only [Sall,evalOp,init,binE,binI,unE,convE,okNil,builtE,gv,TD.isAgg,resV,↓reduceIte,Nat.reduceEqDiff,reduceCtorEq,Nat.reduceAdd,Nat.reduceMul,Nat.reduceLeDiff,quietOp,blindOp,Int.reduceEq,Int.reduceLT,Int.reduceLE,Nat.reduceLT,ti2,ti3,ti4,ti45,ti46,ti38,ti25,ti30,ti22,ti32,ti24,ti95,ti172,ti169,ti165,ti166,ti65,ti143,ti87, is, firstI_any]

theorem IsSchedule1_c (q : Int) (u : Value) (x : Nat) (r : List Int) (hr : r.length = 14) (H : AH) (hx : H.row x = some ⟨32, true, [.int .i64 q, u]⟩) :
    ACalls Try.prog 224 [.agg (ints r).toArray, .pointer (some ⟨x, 0, none⟩)] H (is (.bool (!roundB q r)) H) := by
  refine ACalls.wf (by kernel_rfl) fun hs => acalls_up rfl (acalls_of_awp [.tmp 3] Try.func224 (by kernel_rfl) rfl rfl (Nat.le_of_ble_eq_true rfl) (by kernel_rfl) ?_)
  have hne : ¬ x = H.next := by have := hs x _ hx; omega
  try simp (disch := first | omega | (simp only [ints_length, List.length_replicate]; done) | (simp only [ints_length, List.length_replicate]; omega)) only [Sall,evalOp,init,binE,binI,unE,convE,okNil,builtE,gv,TD.isAgg,resV,↓reduceIte,Nat.reduceEqDiff,reduceCtorEq,Nat.reduceAdd,Nat.reduceMul,Nat.reduceLeDiff,quietOp,blindOp,Int.reduceEq,Int.reduceLT,Int.reduceLE,Nat.reduceLT,ti2,ti3,ti4,ti45,ti46,ti38,ti25,ti30,ti22,ti32,ti24,ti95,ti172,ti169,ti165,ti166,ti65,ti143,ti87, hx, hne, hr]
  refine (IsRound_c _ _ hr _).to ?_
  try simp (disch := first | omega | (simp only [ints_length, List.length_replicate]; done) | (simp only [ints_length, List.length_replicate]; omega)) only [Sall,evalOp,init,binE,binI,unE,convE,okNil,builtE,gv,TD.isAgg,resV,↓reduceIte,Nat.reduceEqDiff,reduceCtorEq,Nat.reduceAdd,Nat.reduceMul,Nat.reduceLeDiff,quietOp,blindOp,Int.reduceEq,Int.reduceLT,Int.reduceLE,Nat.reduceLT,ti2,ti3,ti4,ti45,ti46,ti38,ti25,ti30,ti22,ti32,ti24,ti95,ti172,ti169,ti165,ti166,ti65,ti143,ti87, true_and]
  exact (Up.refl _ H).push (Nat.le_refl _) _

theorem IsSchedule_c (q : Int) (v : Value) (k : Nat) (l : List Int) (H : AH) (hv : Rd 14 H v k l) (hk : k ≤ 4294967296) : ACalls Try.prog 203 [.agg #[.int .i64 q, v]] H (is (.bool (schedB q k l)) H) := by
  refine ACalls.wf (by kernel_rfl) fun hs => acalls_up rfl (acalls_of_awp [.tmp 2] Try.func203 (by kernel_rfl) rfl rfl (Nat.le_of_ble_eq_true rfl) (by kernel_rfl) ?_)
  have up : Up H.next H (H.push ⟨32, true, [.int .i64 q, v]⟩) := (Up.refl _ H).push (Nat.le_refl _) _
  have hv1 := hv.same (up.le hs).row
  have e1 : (H.push ⟨32, true, [.int .i64 q, v]⟩).row H.next = some ⟨32, true, [.int .i64 q, v]⟩ := by rw [AH.push_row, if_pos rfl]
  try simp (disch := first | omega | (simp only [ints_length, List.length_replicate]; done) | (simp only [ints_length, List.length_replicate]; omega)) only [Sall,evalOp,init,binE,binI,unE,convE,okNil,builtE,gv,TD.isAgg,resV,↓reduceIte,Nat.reduceEqDiff,reduceCtorEq,Nat.reduceAdd,Nat.reduceMul,Nat.reduceLeDiff,quietOp,blindOp,Int.reduceEq,Int.reduceLT,Int.reduceLE,Nat.reduceLT,ti2,ti3,ti4,ti45,ti46,ti38,ti25,ti30,ti22,ti32,ti24,ti95,ti172,ti169,ti165,ti166,ti65,ti143,ti87, true_and]
  refine (between_c _ _ _ _).to ?_
  revert up hv1 e1
  generalize H.push ⟨32, true, [.int .i64 q, v]⟩ = H1
  intro up hv1 e1
  by_cases hn : 2 ≤ q ∧ q ≤ 14
  · by_cases h40 : k ≤ 40
    · have h40' : (k : Int) ≤ 40 := by omega
      try simp (disch := first | omega | (simp only [ints_length, List.length_replicate]; done) | (simp only [ints_length, List.length_replicate]; omega)) only [Sall,evalOp,init,binE,binI,unE,convE,okNil,builtE,gv,TD.isAgg,resV,↓reduceIte,Nat.reduceEqDiff,reduceCtorEq,Nat.reduceAdd,Nat.reduceMul,Nat.reduceLeDiff,quietOp,blindOp,Int.reduceEq,Int.reduceLT,Int.reduceLE,Nat.reduceLT,ti2,ti3,ti4,ti45,ti46,ti38,ti25,ti30,ti22,ti32,ti24,ti95,ti172,ti169,ti165,ti166,ti65,ti143,ti87, hn, decide_true, e1, builtE, hv1.len, h40', List.mem_cons, List.not_mem_nil, or_false, forall_eq, Array.size_empty]
      refine (containsFuncR_c 224 [.pointer (some ⟨H.next, 0, none⟩)] (fun r => !roundB q r) v k l H1 hv1 hk fun r hr => IsSchedule1_c q v H.next r hr H1 e1).to ?_
      try simp (disch := first | omega | (simp only [ints_length, List.length_replicate]; done) | (simp only [ints_length, List.length_replicate]; omega)) only [Sall,evalOp,init,binE,binI,unE,convE,okNil,builtE,gv,TD.isAgg,resV,↓reduceIte,Nat.reduceEqDiff,reduceCtorEq,Nat.reduceAdd,Nat.reduceMul,Nat.reduceLeDiff,quietOp,blindOp,Int.reduceEq,Int.reduceLT,Int.reduceLE,Nat.reduceLT,ti2,ti3,ti4,ti45,ti46,ti38,ti25,ti30,ti22,ti32,ti24,ti95,ti172,ti169,ti165,ti166,ti65,ti143,ti87, true_and]
      rw [schedB_any]
      simp only [hn, h40, decide_true, and_self, Bool.true_and, true_and]
      exact up
    · have h40' : ¬ (k : Int) ≤ 40 := by omega
      try simp (disch := first | omega | (simp only [ints_length, List.length_replicate]; done) | (simp only [ints_length, List.length_replicate]; omega)) only [Sall,evalOp,init,binE,binI,unE,convE,okNil,builtE,gv,TD.isAgg,resV,↓reduceIte,Nat.reduceEqDiff,reduceCtorEq,Nat.reduceAdd,Nat.reduceMul,Nat.reduceLeDiff,quietOp,blindOp,Int.reduceEq,Int.reduceLT,Int.reduceLE,Nat.reduceLT,ti2,ti3,ti4,ti45,ti46,ti38,ti25,ti30,ti22,ti32,ti24,ti95,ti172,ti169,ti165,ti166,ti65,ti143,ti87, hn, decide_true, decide_false, e1, builtE, hv1.len, h40']
      rw [schedB_any]
      simp only [h40, decide_false, Bool.and_false, Bool.false_and, true_and]
      exact up
  · try simp (disch := first | omega | (simp only [ints_length, List.length_replicate]; done) | (simp only [ints_length, List.length_replicate]; omega)) only [Sall,evalOp,init,binE,binI,unE,convE,okNil,builtE,gv,TD.isAgg,resV,↓reduceIte,Nat.reduceEqDiff,reduceCtorEq,Nat.reduceAdd,Nat.reduceMul,Nat.reduceLeDiff,quietOp,blindOp,Int.reduceEq,Int.reduceLT,Int.reduceLE,Nat.reduceLT,ti2,ti3,ti4,ti45,ti46,ti38,ti25,ti30,ti22,ti32,ti24,ti95,ti172,ti169,ti165,ti166,ti65,ti143,ti87, hn, decide_false]
    rw [schedB_any]
    simp only [hn, decide_false, Bool.false_and, true_and]
    exact up

def deskB (q q' : Int) (k k' : Nat) (l l' : List Int) : Bool := schedB q k l && schedB q' k' l'

end Go.Proofs.Ytgkmdfjjlghecaa.A
end

section
set_option linter.unusedSimpArgs false
set_option linter.unusedVariables false
namespace Go.Abs
/-- The pairs of the first k teams. -/
def pairsL (r : List Int) (k : Nat) : List (List Int) := ((List.range k).filter fun (a : Nat) => decide ((a : Int) < r.getD a 0)).map fun (a : Nat) => [(a : Int), r.getD a 0]
theorem pairsL_zero (r : List Int) : pairsL r 0 = [] := rfl
theorem pairsL_yes (r : List Int) (k : Nat) (h : (k : Int) < r.getD k 0) : pairsL r (k + 1) = pairsL r k ++ [[(k : Int), r.getD k 0]] := by
  unfold pairsL; rw [List.range_succ, List.filter_append, List.map_append]; simp [-List.getD_eq_getElem?_getD, h]
theorem pairsL_no (r : List Int) (k : Nat) (h : ¬ (k : Int) < r.getD k 0) : pairsL r (k + 1) = pairsL r k := by
  unfold pairsL; rw [List.range_succ, List.filter_append, List.map_append]; simp [-List.getD_eq_getElem?_getD, h]
theorem pairsL_le (r : List Int) (k : Nat) : (pairsL r k).length ≤ k := by
  unfold pairsL; rw [List.length_map]; exact Nat.le_trans (List.length_filter_le _ _) (by simp)

/-- One round's results are right. -/
def resAt (n : Nat) (r : List Int) (x : List Int) : Bool := (x.length == (pairsL r n).length) && (List.range x.length).all fun j => decide (0 ≤ x.getD j 0 ∧ x.getD j 0 ≤ 2)
def resB (n k : Nat) (l : List Int) (ll : List (List Int)) : Bool := decide (ll.length ≤ k) && (List.range ll.length).all fun i => resAt n (rnd l i) (ll.getD i [])
theorem resB_bad {n k : Nat} {l : List Int} {ll : List (List Int)} {i : Nat} (hi : i < ll.length) (h : resAt n (rnd l i) (ll.getD i []) = false) : resB n k l ll = false := by
  unfold resB; rw [all_false_of (p := fun i => resAt n (rnd l i) (ll.getD i [])) hi h, Bool.and_false]
theorem resB_good {n k : Nat} {l : List Int} {ll : List (List Int)} (hk : ll.length ≤ k) (h : ∀ i, i < ll.length → resAt n (rnd l i) (ll.getD i []) = true) : resB n k l ll = true := by
  unfold resB; rw [all_true_of (p := fun i => resAt n (rnd l i) (ll.getD i [])) h, Bool.and_true]; simpa using hk
theorem resAt_any (n : Nat) (r x : List Int) : resAt n r x = ((x.length == (pairsL r n).length) && !((List.range x.length).any fun j => !decide (0 ≤ x.getD j 0 ∧ x.getD j 0 ≤ 2))) := by
  unfold resAt; congr 1; rw [List.not_any_eq_all_not]; simp only [Bool.not_not]
end Go.Abs
end

section
set_option linter.unusedSimpArgs false
set_option linter.unusedVariables false
set_option maxRecDepth 100000
namespace Go.Proofs.Ytgkmdfjjlghecaa.A
open Go Go.Abs Go.RowKit

theorem pairs_c (n : Nat) (r : List Int) (hr : r.length = 14) (hn : n ≤ 14) (H : AH) : ACalls Try.prog 160 [.agg (ints r).toArray, .int .i64 n] H (fun v H' => Up H.next H H' ∧ Fr2 1 38 2 H.next H'.next H' v (pairsL r n)) := by
  refine acalls_of_awp [.tmp 4] Try.func160 (by kernel_rfl) rfl rfl (Nat.le_of_ble_eq_true rfl) (by kernel_rfl) ?_
  try simp (disch := first | omega | (simp only [ints_length, List.length_replicate]; done) | (simp only [ints_length, List.length_replicate]; omega)) only [Sall,evalOp,init,binE,binI,unE,convE,okNil,builtE,gv,TD.isAgg,resV,↓reduceIte,Nat.reduceEqDiff,reduceCtorEq,Nat.reduceAdd,Nat.reduceMul,Nat.reduceLeDiff,quietOp,blindOp,Int.reduceEq,Int.reduceLT,Int.reduceLE,Nat.reduceLT,ti2,ti3,ti4,ti45,ti46,ti38,ti25,ti30,ti22,ti32,ti24,ti95,ti172,ti169,ti165,ti166,ti65,ti143,ti87, zeros_zero]
  refine awp_loop (fun m t H' => ∃ (a : Nat) (u : Value) (lo hi : Nat), m = n - a ∧ a ≤ n ∧ t 9 = .int .i64 a ∧ t 8 = .int .i64 n ∧ t 5 = u ∧ t 2 = .pointer (some ⟨H.next, 0, none⟩) ∧ Up H.next H H' ∧ H'.row H.next = some ⟨46, true, ints r⟩ ∧
    H.next < lo ∧ lo ≤ hi ∧ hi ≤ H'.next ∧ Fr2 1 38 2 lo hi H' u (pairsL r a)) n ?_ ?_
  · refine ⟨0, .slice (some ⟨H.next + 1, 0, some 1⟩) 0 0, H.next + 1, H.next + 2, by omega, by omega, ?_⟩
    try simp (disch := first | omega | (simp only [ints_length, List.length_replicate]; done) | (simp only [ints_length, List.length_replicate]; omega)) only [Sall,evalOp,init,binE,binI,unE,convE,okNil,builtE,gv,TD.isAgg,resV,↓reduceIte,Nat.reduceEqDiff,reduceCtorEq,Nat.reduceAdd,Nat.reduceMul,Nat.reduceLeDiff,quietOp,blindOp,Int.reduceEq,Int.reduceLT,Int.reduceLE,Nat.reduceLT,ti2,ti3,ti4,ti45,ti46,ti38,ti25,ti30,ti22,ti32,ti24,ti95,ti172,ti169,ti165,ti166,ti65,ti143,ti87, Int.natCast_zero]
    refine ⟨((Up.refl _ H).push (by omega) _).push (Nat.le_succ _) _, by omega, by omega, ?_⟩
    exact .inr ⟨H.next + 1, [], fun _ => H.next + 2, by omega, by omega, rfl, by rw [AH.push_row, if_pos (by rw [AH.push_next])], rfl, by dsimp only; omega, by dsimp only; omega, .inl (by dsimp only; omega), fun _ => Nat.le_refl _, fun j hj => by simp [pairsL_zero] at hj⟩
  · rintro m t H' ⟨a, u, lo, hi, hm, h14, h9, h8, h5, h2, hup, hr1, hlo, hlh, hhi, hfr⟩
    try simp (disch := first | omega | (simp only [ints_length, List.length_replicate]; done) | (simp only [ints_length, List.length_replicate]; omega)) only [Sall,evalOp,init,binE,binI,unE,convE,okNil,builtE,gv,TD.isAgg,resV,↓reduceIte,Nat.reduceEqDiff,reduceCtorEq,Nat.reduceAdd,Nat.reduceMul,Nat.reduceLeDiff,quietOp,blindOp,Int.reduceEq,Int.reduceLT,Int.reduceLE,Nat.reduceLT,ti2,ti3,ti4,ti45,ti46,ti38,ti25,ti30,ti22,ti32,ti24,ti95,ti172,ti169,ti165,ti166,ti65,ti143,ti87, h9, h8]
    refine condC_dec (fun h => ?_) (fun h => ?_)
    · by_cases hp : (a : Int) < r.getD a 0
      · have hle := pairsL_le r a
        have ne1 : ¬ H.next = H'.next := by omega
        try simp (disch := first | omega | (simp only [ints_length, List.length_replicate]; done) | (simp only [ints_length, List.length_replicate]; omega)) only [Sall,evalOp,init,binE,binI,unE,convE,okNil,builtE,gv,TD.isAgg,resV,↓reduceIte,Nat.reduceEqDiff,reduceCtorEq,Nat.reduceAdd,Nat.reduceMul,Nat.reduceLeDiff,quietOp,blindOp,Int.reduceEq,Int.reduceLT,Int.reduceLE,Nat.reduceLT,ti2,ti3,ti4,ti45,ti46,ti38,ti25,ti30,ti22,ti32,ti24,ti95,ti172,ti169,ti165,ti166,ti65,ti143,ti87, h9, h8, h5, h2, hr1, ints_get?, hp, decide_true, zeros_one, zeros_two, slCells, ne1]
        refine ⟨⟨by omega, by omega⟩, ⟨by omega, by omega⟩, ?_⟩
        obtain ⟨H2, e2⟩ : ∃ H2, H2 = (H'.push ⟨2, true, [.int .i64 a, .int .i64 (r.getD a 0)]⟩).push ⟨38, true, [.slice (some ⟨H'.next, 0, some 1⟩) 2 2]⟩ := ⟨_, rfl⟩
        have n2 : H2.next = H'.next + 2 := by rw [e2]; rfl
        have s2 : ∀ i, i < H'.next → H2.row i = H'.row i := fun i hi => by rw [e2, AH.push_row, if_neg (by rw [AH.push_next]; omega), AH.push_row, if_neg (by omega)]
        have x2 : H2.row H'.next = some ⟨2, true, ints [(a : Int), r.getD a 0]⟩ := by rw [e2, AH.push_row, if_neg (by rw [AH.push_next]; omega), AH.push_row, if_pos rfl]; rfl
        rw [← e2]
        clear e2
        refine appE_fr2 (hfr.same fun i _ hi => s2 i (by omega)) (m := 2) (l := [(a : Int), r.getD a 0]) ⟨rfl, .inr ⟨H'.next, by omega, by omega, rfl, x2⟩⟩ rfl (by decide) (by omega) hlh (by omega) ?_
        intro v' H3 n3 s3 f3
        try simp (disch := first | omega | (simp only [ints_length, List.length_replicate]; done) | (simp only [ints_length, List.length_replicate]; omega)) only [Sall,evalOp,init,binE,binI,unE,convE,okNil,builtE,gv,TD.isAgg,resV,↓reduceIte,Nat.reduceEqDiff,reduceCtorEq,Nat.reduceAdd,Nat.reduceMul,Nat.reduceLeDiff,quietOp,blindOp,Int.reduceEq,Int.reduceLT,Int.reduceLE,Nat.reduceLT,ti2,ti3,ti4,ti45,ti46,ti38,ti25,ti30,ti22,ti32,ti24,ti95,ti172,ti169,ti165,ti166,ti65,ti143,ti87, h9, h8, h2, w64]
        refine ⟨n - (a + 1), by omega, a + 1, v', lo, H2.next + 1, rfl, by omega, by omega, rfl, ⟨by have := hup.next; omega, fun i hi => ?_⟩, ?_, by omega, by omega, by omega, ?_⟩
        · rw [s3 i (by omega) (by omega), s2 i (by have := hup.next; omega), hup.row i hi]
        · rw [s3 _ (by omega) (by omega), s2 _ (by omega), hr1]
        · rw [pairsL_yes r a hp]; exact f3
      · try simp (disch := first | omega | (simp only [ints_length, List.length_replicate]; done) | (simp only [ints_length, List.length_replicate]; omega)) only [Sall,evalOp,init,binE,binI,unE,convE,okNil,builtE,gv,TD.isAgg,resV,↓reduceIte,Nat.reduceEqDiff,reduceCtorEq,Nat.reduceAdd,Nat.reduceMul,Nat.reduceLeDiff,quietOp,blindOp,Int.reduceEq,Int.reduceLT,Int.reduceLE,Nat.reduceLT,ti2,ti3,ti4,ti45,ti46,ti38,ti25,ti30,ti22,ti32,ti24,ti95,ti172,ti169,ti165,ti166,ti65,ti143,ti87, h9, h8, h5, h2, hr1, ints_get?, hp, decide_false, w64]
        refine ⟨⟨by omega, by omega⟩, n - (a + 1), by omega, a + 1, u, lo, hi, rfl, by omega, by omega, ?_⟩
        rw [pairsL_no r a hp]
        and_intros <;> first | omega | rfl | assumption
    · have ha : a = n := by omega
      subst ha
      try simp (disch := first | omega | (simp only [ints_length, List.length_replicate]; done) | (simp only [ints_length, List.length_replicate]; omega)) only [Sall,evalOp,init,binE,binI,unE,convE,okNil,builtE,gv,TD.isAgg,resV,↓reduceIte,Nat.reduceEqDiff,reduceCtorEq,Nat.reduceAdd,Nat.reduceMul,Nat.reduceLeDiff,quietOp,blindOp,Int.reduceEq,Int.reduceLT,Int.reduceLE,Nat.reduceLT,ti2,ti3,ti4,ti45,ti46,ti38,ti25,ti30,ti22,ti32,ti24,ti95,ti172,ti169,ti165,ti166,ti65,ti143,ti87, h5]
      exact ⟨hup, hfr.wide (by omega) hhi⟩

theorem l01Pairs_c (n : Nat) (r : List Int) (hr : r.length = 14) (hn : n ≤ 14) (H : AH) : ACalls Try.prog 156 [.int .i64 n, .agg (ints r).toArray] H (fun v H' => Up H.next H H' ∧ Fr2 1 38 2 H.next H'.next H' v (pairsL r n)) := by
  refine acalls_of_awp [.tmp 4] Try.func156 (by kernel_rfl) rfl rfl (Nat.le_of_ble_eq_true rfl) (by kernel_rfl) ?_
  try simp (disch := first | omega | (simp only [ints_length, List.length_replicate]; done) | (simp only [ints_length, List.length_replicate]; omega)) only [Sall,evalOp,init,binE,binI,unE,convE,okNil,builtE,gv,TD.isAgg,resV,↓reduceIte,Nat.reduceEqDiff,reduceCtorEq,Nat.reduceAdd,Nat.reduceMul,Nat.reduceLeDiff,quietOp,blindOp,Int.reduceEq,Int.reduceLT,Int.reduceLE,Nat.reduceLT,ti2,ti3,ti4,ti45,ti46,ti38,ti25,ti30,ti22,ti32,ti24,ti95,ti172,ti169,ti165,ti166,ti65,ti143,ti87, zeros_zero]
  refine awp_loop (fun m t H' => ∃ (a : Nat) (u : Value) (lo hi : Nat), m = n - a ∧ a ≤ n ∧ t 6 = .int .i64 a ∧ t 0 = .int .i64 n ∧ t 5 = u ∧ t 3 = .pointer (some ⟨H.next, 0, none⟩) ∧ Up H.next H H' ∧ H'.row H.next = some ⟨46, true, ints r⟩ ∧
    H.next < lo ∧ lo ≤ hi ∧ hi ≤ H'.next ∧ Fr2 1 38 2 lo hi H' u (pairsL r a)) n ?_ ?_
  · refine ⟨0, .slice (some ⟨H.next + 1, 0, some 1⟩) 0 0, H.next + 1, H.next + 2, by omega, by omega, ?_⟩
    try simp (disch := first | omega | (simp only [ints_length, List.length_replicate]; done) | (simp only [ints_length, List.length_replicate]; omega)) only [Sall,evalOp,init,binE,binI,unE,convE,okNil,builtE,gv,TD.isAgg,resV,↓reduceIte,Nat.reduceEqDiff,reduceCtorEq,Nat.reduceAdd,Nat.reduceMul,Nat.reduceLeDiff,quietOp,blindOp,Int.reduceEq,Int.reduceLT,Int.reduceLE,Nat.reduceLT,ti2,ti3,ti4,ti45,ti46,ti38,ti25,ti30,ti22,ti32,ti24,ti95,ti172,ti169,ti165,ti166,ti65,ti143,ti87, Int.natCast_zero]
    refine ⟨((Up.refl _ H).push (by omega) _).push (Nat.le_succ _) _, by omega, by omega, ?_⟩
    exact .inr ⟨H.next + 1, [], fun _ => H.next + 2, by omega, by omega, rfl, by rw [AH.push_row, if_pos (by rw [AH.push_next])], rfl, by dsimp only; omega, by dsimp only; omega, .inl (by dsimp only; omega), fun _ => Nat.le_refl _, fun j hj => by simp [pairsL_zero] at hj⟩
  · rintro m t H' ⟨a, u, lo, hi, hm, h14, h9, h8, h5, h2, hup, hr1, hlo, hlh, hhi, hfr⟩
    try simp (disch := first | omega | (simp only [ints_length, List.length_replicate]; done) | (simp only [ints_length, List.length_replicate]; omega)) only [Sall,evalOp,init,binE,binI,unE,convE,okNil,builtE,gv,TD.isAgg,resV,↓reduceIte,Nat.reduceEqDiff,reduceCtorEq,Nat.reduceAdd,Nat.reduceMul,Nat.reduceLeDiff,quietOp,blindOp,Int.reduceEq,Int.reduceLT,Int.reduceLE,Nat.reduceLT,ti2,ti3,ti4,ti45,ti46,ti38,ti25,ti30,ti22,ti32,ti24,ti95,ti172,ti169,ti165,ti166,ti65,ti143,ti87, h9, h8]
    refine condC_dec (fun h => ?_) (fun h => ?_)
    · by_cases hp : (a : Int) < r.getD a 0
      · have hle := pairsL_le r a
        have ne1 : ¬ H.next = H'.next := by omega
        try simp (disch := first | omega | (simp only [ints_length, List.length_replicate]; done) | (simp only [ints_length, List.length_replicate]; omega)) only [Sall,evalOp,init,binE,binI,unE,convE,okNil,builtE,gv,TD.isAgg,resV,↓reduceIte,Nat.reduceEqDiff,reduceCtorEq,Nat.reduceAdd,Nat.reduceMul,Nat.reduceLeDiff,quietOp,blindOp,Int.reduceEq,Int.reduceLT,Int.reduceLE,Nat.reduceLT,ti2,ti3,ti4,ti45,ti46,ti38,ti25,ti30,ti22,ti32,ti24,ti95,ti172,ti169,ti165,ti166,ti65,ti143,ti87, h9, h8, h5, h2, hr1, ints_get?, hp, decide_true, zeros_one, zeros_two, slCells, ne1]
        refine ⟨⟨by omega, by omega⟩, ⟨by omega, by omega⟩, ?_⟩
        obtain ⟨H2, e2⟩ : ∃ H2, H2 = (H'.push ⟨2, true, [.int .i64 a, .int .i64 (r.getD a 0)]⟩).push ⟨38, true, [.slice (some ⟨H'.next, 0, some 1⟩) 2 2]⟩ := ⟨_, rfl⟩
        have n2 : H2.next = H'.next + 2 := by rw [e2]; rfl
        have s2 : ∀ i, i < H'.next → H2.row i = H'.row i := fun i hi => by rw [e2, AH.push_row, if_neg (by rw [AH.push_next]; omega), AH.push_row, if_neg (by omega)]
        have x2 : H2.row H'.next = some ⟨2, true, ints [(a : Int), r.getD a 0]⟩ := by rw [e2, AH.push_row, if_neg (by rw [AH.push_next]; omega), AH.push_row, if_pos rfl]; rfl
        rw [← e2]
        clear e2
        refine appE_fr2 (hfr.same fun i _ hi => s2 i (by omega)) (m := 2) (l := [(a : Int), r.getD a 0]) ⟨rfl, .inr ⟨H'.next, by omega, by omega, rfl, x2⟩⟩ rfl (by decide) (by omega) hlh (by omega) ?_
        intro v' H3 n3 s3 f3
        try simp (disch := first | omega | (simp only [ints_length, List.length_replicate]; done) | (simp only [ints_length, List.length_replicate]; omega)) only [Sall,evalOp,init,binE,binI,unE,convE,okNil,builtE,gv,TD.isAgg,resV,↓reduceIte,Nat.reduceEqDiff,reduceCtorEq,Nat.reduceAdd,Nat.reduceMul,Nat.reduceLeDiff,quietOp,blindOp,Int.reduceEq,Int.reduceLT,Int.reduceLE,Nat.reduceLT,ti2,ti3,ti4,ti45,ti46,ti38,ti25,ti30,ti22,ti32,ti24,ti95,ti172,ti169,ti165,ti166,ti65,ti143,ti87, h9, h8, h2, w64]
        refine ⟨n - (a + 1), by omega, a + 1, v', lo, H2.next + 1, rfl, by omega, by omega, rfl, ⟨by have := hup.next; omega, fun i hi => ?_⟩, ?_, by omega, by omega, by omega, ?_⟩
        · rw [s3 i (by omega) (by omega), s2 i (by have := hup.next; omega), hup.row i hi]
        · rw [s3 _ (by omega) (by omega), s2 _ (by omega), hr1]
        · rw [pairsL_yes r a hp]; exact f3
      · try simp (disch := first | omega | (simp only [ints_length, List.length_replicate]; done) | (simp only [ints_length, List.length_replicate]; omega)) only [Sall,evalOp,init,binE,binI,unE,convE,okNil,builtE,gv,TD.isAgg,resV,↓reduceIte,Nat.reduceEqDiff,reduceCtorEq,Nat.reduceAdd,Nat.reduceMul,Nat.reduceLeDiff,quietOp,blindOp,Int.reduceEq,Int.reduceLT,Int.reduceLE,Nat.reduceLT,ti2,ti3,ti4,ti45,ti46,ti38,ti25,ti30,ti22,ti32,ti24,ti95,ti172,ti169,ti165,ti166,ti65,ti143,ti87, h9, h8, h5, h2, hr1, ints_get?, hp, decide_false, w64]
        refine ⟨⟨by omega, by omega⟩, n - (a + 1), by omega, a + 1, u, lo, hi, rfl, by omega, by omega, ?_⟩
        rw [pairsL_no r a hp]
        and_intros <;> first | omega | rfl | assumption
    · have ha : a = n := by omega
      subst ha
      try simp (disch := first | omega | (simp only [ints_length, List.length_replicate]; done) | (simp only [ints_length, List.length_replicate]; omega)) only [Sall,evalOp,init,binE,binI,unE,convE,okNil,builtE,gv,TD.isAgg,resV,↓reduceIte,Nat.reduceEqDiff,reduceCtorEq,Nat.reduceAdd,Nat.reduceMul,Nat.reduceLeDiff,quietOp,blindOp,Int.reduceEq,Int.reduceLT,Int.reduceLE,Nat.reduceLT,ti2,ti3,ti4,ti45,ti46,ti38,ti25,ti30,ti22,ti32,ti24,ti95,ti172,ti169,ti165,ti166,ti65,ti143,ti87, h5]
      exact ⟨hup, hfr.wide (by omega) hhi⟩
end Go.Proofs.Ytgkmdfjjlghecaa.A
end

section
set_option linter.unusedSimpArgs false
set_option linter.unusedVariables false
set_option maxRecDepth 100000
namespace Go.Proofs.Ytgkmdfjjlghecaa.A
open Go Go.Abs Go.RowKit

theorem indexFuncI_c (g : FuncId) (cap : List Value) (p : Int → Bool) (v : Value) (k : Nat) (l : List Int) (H : AH) (hv : Rd 1 H v k l) (hk : k ≤ 4294967296)
    (hp : ∀ x : Int, ACalls Try.prog g (.int .i64 x :: cap) H (is (.bool (p x)) H)) :
    ACalls Try.prog 218 [v, .func (.func g) #[] cap.toArray] H (is (.int .i64 (firstI (fun i => p (l.getD i 0)) k)) H) := by
  refine acalls_of_awp [.tmp 4] Try.func218 (by kernel_rfl) rfl rfl (Nat.le_of_ble_eq_true rfl) (by kernel_rfl) ?_
  try simp (disch := first | omega | (simp only [ints_length, List.length_replicate]; done) | (simp only [ints_length, List.length_replicate]; omega)) only [Sall,evalOp,init,binE,binI,unE,convE,okNil,builtE,gv,TD.isAgg,resV,↓reduceIte,Nat.reduceEqDiff,reduceCtorEq,Nat.reduceAdd,Nat.reduceMul,Nat.reduceLeDiff,quietOp,blindOp,Int.reduceEq,Int.reduceLT,Int.reduceLE,Nat.reduceLT,ti2,ti3,ti4,ti45,ti46,ti38,ti25,ti30,ti22,ti32,ti24,ti95,ti172,ti169,ti165,ti166,ti65,ti143,ti87, builtE, hv.len]
  refine awp_loop (fun m t H' => ∃ a : Nat, m = k - a ∧ a ≤ k ∧ t 8 = .int .i64 a ∧ t 7 = .int .i64 k ∧ t 0 = v ∧ t 1 = .func (.func g) #[] cap.toArray ∧ H' = H ∧ (∀ x, x < a → p (l.getD x 0) = false)) k ?_ ?_
  · refine ⟨0, by omega, by omega, ?_⟩
    try simp (disch := first | omega | (simp only [ints_length, List.length_replicate]; done) | (simp only [ints_length, List.length_replicate]; omega)) only [Sall,evalOp,init,binE,binI,unE,convE,okNil,builtE,gv,TD.isAgg,resV,↓reduceIte,Nat.reduceEqDiff,reduceCtorEq,Nat.reduceAdd,Nat.reduceMul,Nat.reduceLeDiff,quietOp,blindOp,Int.reduceEq,Int.reduceLT,Int.reduceLE,Nat.reduceLT,ti2,ti3,ti4,ti45,ti46,ti38,ti25,ti30,ti22,ti32,ti24,ti95,ti172,ti169,ti165,ti166,ti65,ti143,ti87, Int.natCast_zero, Nat.not_lt_zero, false_implies]
  · rintro m t H' ⟨a, hm, h14, h8, h7, h0, h1, rfl, hall⟩
    try simp (disch := first | omega | (simp only [ints_length, List.length_replicate]; done) | (simp only [ints_length, List.length_replicate]; omega)) only [Sall,evalOp,init,binE,binI,unE,convE,okNil,builtE,gv,TD.isAgg,resV,↓reduceIte,Nat.reduceEqDiff,reduceCtorEq,Nat.reduceAdd,Nat.reduceMul,Nat.reduceLeDiff,quietOp,blindOp,Int.reduceEq,Int.reduceLT,Int.reduceLE,Nat.reduceLT,ti2,ti3,ti4,ti45,ti46,ti38,ti25,ti30,ti22,ti32,ti24,ti95,ti172,ti169,ti165,ti166,ti65,ti143,ti87, h8, h7]
    refine condC_dec (fun h => ?_) (fun h => ?_)
    · obtain ⟨i, o, u, c, r, rfl, hr, hc, hs1, hg⟩ := hv.get (by omega)
      try simp (disch := first | omega | (simp only [ints_length, List.length_replicate]; done) | (simp only [ints_length, List.length_replicate]; omega)) only [Sall,evalOp,init,binE,binI,unE,convE,okNil,builtE,gv,TD.isAgg,resV,↓reduceIte,Nat.reduceEqDiff,reduceCtorEq,Nat.reduceAdd,Nat.reduceMul,Nat.reduceLeDiff,quietOp,blindOp,Int.reduceEq,Int.reduceLT,Int.reduceLE,Nat.reduceLT,ti2,ti3,ti4,ti45,ti46,ti38,ti25,ti30,ti22,ti32,ti24,ti95,ti172,ti169,ti165,ti166,ti65,ti143,ti87, h8, h7, h0, h1, hr, hs1]
      refine ⟨⟨by omega, by omega⟩, (hp _).to ?_⟩
      cases hb : p (l.getD a 0) with
      | true =>
        try simp (disch := first | omega | (simp only [ints_length, List.length_replicate]; done) | (simp only [ints_length, List.length_replicate]; omega)) only [Sall,evalOp,init,binE,binI,unE,convE,okNil,builtE,gv,TD.isAgg,resV,↓reduceIte,Nat.reduceEqDiff,reduceCtorEq,Nat.reduceAdd,Nat.reduceMul,Nat.reduceLeDiff,quietOp,blindOp,Int.reduceEq,Int.reduceLT,Int.reduceLE,Nat.reduceLT,ti2,ti3,ti4,ti45,ti46,ti38,ti25,ti30,ti22,ti32,ti24,ti95,ti172,ti169,ti165,ti166,ti65,ti143,ti87, h8, h7, h0, h1, is]
        rw [firstI_at (p := fun i => p (l.getD i 0)) (by omega) hb hall]
      | false =>
        try simp (disch := first | omega | (simp only [ints_length, List.length_replicate]; done) | (simp only [ints_length, List.length_replicate]; omega)) only [Sall,evalOp,init,binE,binI,unE,convE,okNil,builtE,gv,TD.isAgg,resV,↓reduceIte,Nat.reduceEqDiff,reduceCtorEq,Nat.reduceAdd,Nat.reduceMul,Nat.reduceLeDiff,quietOp,blindOp,Int.reduceEq,Int.reduceLT,Int.reduceLE,Nat.reduceLT,ti2,ti3,ti4,ti45,ti46,ti38,ti25,ti30,ti22,ti32,ti24,ti95,ti172,ti169,ti165,ti166,ti65,ti143,ti87, h8, h7, h0, h1, w64]
        refine ⟨k - (a + 1), by omega, a + 1, rfl, by omega, by omega, fun x hx => ?_⟩
        by_cases e : x = a
        · rw [e]; exact hb
        · exact hall x (by omega)
    · try simp (disch := first | omega | (simp only [ints_length, List.length_replicate]; done) | (simp only [ints_length, List.length_replicate]; omega)) only [Sall,evalOp,init,binE,binI,unE,convE,okNil,builtE,gv,TD.isAgg,resV,↓reduceIte,Nat.reduceEqDiff,reduceCtorEq,Nat.reduceAdd,Nat.reduceMul,Nat.reduceLeDiff,quietOp,blindOp,Int.reduceEq,Int.reduceLT,Int.reduceLE,Nat.reduceLT,ti2,ti3,ti4,ti45,ti46,ti38,ti25,ti30,ti22,ti32,ti24,ti95,ti172,ti169,ti165,ti166,ti65,ti143,ti87, is]
      rw [firstI_none (p := fun i => p (l.getD i 0)) fun x hx => hall x (by omega)]

theorem containsFuncI_c (g : FuncId) (cap : List Value) (p : Int → Bool) (v : Value) (k : Nat) (l : List Int) (H : AH) (hv : Rd 1 H v k l) (hk : k ≤ 4294967296)
    (hp : ∀ x : Int, ACalls Try.prog g (.int .i64 x :: cap) H (is (.bool (p x)) H)) :
    ACalls Try.prog 194 [v, .func (.func g) #[] cap.toArray] H (is (.bool ((List.range k).any fun i => p (l.getD i 0))) H) := by
  refine acalls_of_awp [.tmp 4] Try.func194 (by kernel_rfl) rfl rfl (Nat.le_of_ble_eq_true rfl) (by kernel_rfl) ?_
  try simp (disch := first | omega | (simp only [ints_length, List.length_replicate]; done) | (simp only [ints_length, List.length_replicate]; omega)) only [Sall,evalOp,init,binE,binI,unE,convE,okNil,builtE,gv,TD.isAgg,resV,↓reduceIte,Nat.reduceEqDiff,reduceCtorEq,Nat.reduceAdd,Nat.reduceMul,Nat.reduceLeDiff,quietOp,blindOp,Int.reduceEq,Int.reduceLT,Int.reduceLE,Nat.reduceLT,ti2,ti3,ti4,ti45,ti46,ti38,ti25,ti30,ti22,ti32,ti24,ti95,ti172,ti169,ti165,ti166,ti65,ti143,ti87, true_and]
  refine (indexFuncI_c g cap p v k l H hv hk hp).to ?_
  try simp (disch := first | omega | (simp only [ints_length, List.length_replicate]; done) | (simp only [ints_length, List.length_replicate]; omega)) only [Sall,evalOp,init,binE,binI,unE,convE,okNil,builtE,gv,TD.isAgg,resV,↓reduceIte,Nat.reduceEqDiff,reduceCtorEq,Nat.reduceAdd,Nat.reduceMul,Nat.reduceLeDiff,quietOp,blindOp,Int.reduceEq,Int.reduceLT,Int.reduceLE,Nat.reduceLT,ti2,ti3,ti4,ti45,ti46,ti38,ti25,ti30,ti22,ti32,ti24,ti95,ti172,ti169,ti165,ti166,ti65,ti143,ti87, is, firstI_any]

theorem areResults1_c (x : Int) (H : AH) : ACalls Try.prog 204 [.int .i64 x] H (is (.bool (!decide (0 ≤ x ∧ x ≤ 2))) H) := by
  refine acalls_of_awp [.tmp 2] Try.func204 (by kernel_rfl) rfl rfl (Nat.le_of_ble_eq_true rfl) (by kernel_rfl) ?_
  try simp (disch := first | omega | (simp only [ints_length, List.length_replicate]; done) | (simp only [ints_length, List.length_replicate]; omega)) only [Sall,evalOp,init,binE,binI,unE,convE,okNil,builtE,gv,TD.isAgg,resV,↓reduceIte,Nat.reduceEqDiff,reduceCtorEq,Nat.reduceAdd,Nat.reduceMul,Nat.reduceLeDiff,quietOp,blindOp,Int.reduceEq,Int.reduceLT,Int.reduceLE,Nat.reduceLT,ti2,ti3,ti4,ti45,ti46,ti38,ti25,ti30,ti22,ti32,ti24,ti95,ti172,ti169,ti165,ti166,ti65,ti143,ti87, true_and]
  refine (between_c _ _ _ _).to ?_
  try simp (disch := first | omega | (simp only [ints_length, List.length_replicate]; done) | (simp only [ints_length, List.length_replicate]; omega)) only [Sall,evalOp,init,binE,binI,unE,convE,okNil,builtE,gv,TD.isAgg,resV,↓reduceIte,Nat.reduceEqDiff,reduceCtorEq,Nat.reduceAdd,Nat.reduceMul,Nat.reduceLeDiff,quietOp,blindOp,Int.reduceEq,Int.reduceLT,Int.reduceLE,Nat.reduceLT,ti2,ti3,ti4,ti45,ti46,ti38,ti25,ti30,ti22,ti32,ti24,ti95,ti172,ti169,ti165,ti166,ti65,ti143,ti87, is]

theorem areResults_c (n : Nat) (v : Value) (k : Nat) (l : List Int) (x : Value) (ll : List (List Int)) (H : AH) (hn : n ≤ 14) (hv : Rd 14 H v k l) (hk : k ≤ 4294967296) (hx : Rd2 1 H x ll) (hl : ll.length ≤ 4294967296) (hl2 : ∀ y ∈ ll, y.length ≤ 4294967296) :
    ACalls Try.prog 153 [.agg #[.int .i64 n, v], x] H (is (.bool (resB n k l ll)) H) := by
  refine ACalls.wf (by kernel_rfl) fun hs => acalls_up rfl (acalls_of_awp [.tmp 4] Try.func153 (by kernel_rfl) rfl rfl (Nat.le_of_ble_eq_true rfl) (by kernel_rfl) ?_)
  have up : Up H.next H (H.push ⟨32, true, [.int .i64 n, v]⟩) := (Up.refl _ H).push (Nat.le_refl _) _
  have e1 : (H.push ⟨32, true, [.int .i64 n, v]⟩).row H.next = some ⟨32, true, [.int .i64 n, v]⟩ := by rw [AH.push_row, if_pos rfl]
  have n1 : (H.push ⟨32, true, [.int .i64 n, v]⟩).next = H.next + 1 := rfl
  by_cases hlk : ll.length ≤ k
  · have hlk' : ¬ (k : Int) < (ll.length : Int) := by omega
    try simp (disch := first | omega | (simp only [ints_length, List.length_replicate]; done) | (simp only [ints_length, List.length_replicate]; omega)) only [Sall,evalOp,init,binE,binI,unE,convE,okNil,builtE,gv,TD.isAgg,resV,↓reduceIte,Nat.reduceEqDiff,reduceCtorEq,Nat.reduceAdd,Nat.reduceMul,Nat.reduceLeDiff,quietOp,blindOp,Int.reduceEq,Int.reduceLT,Int.reduceLE,Nat.reduceLT,ti2,ti3,ti4,ti45,ti46,ti38,ti25,ti30,ti22,ti32,ti24,ti95,ti172,ti169,ti165,ti166,ti65,ti143,ti87, builtE, hx.len, hv.len, hlk', decide_false]
    refine awp_loop (fun m t H' => ∃ a : Nat, m = ll.length - a ∧ a ≤ ll.length ∧ t 15 = .int .i64 a ∧ t 14 = .int .i64 ll.length ∧ t 13 = x ∧ t 2 = .pointer (some ⟨H.next, 0, none⟩) ∧ Up H.next H H' ∧ H.next < H'.next ∧ H'.row H.next = some ⟨32, true, [.int .i64 n, v]⟩ ∧ (∀ i, i < a → resAt n (rnd l i) (ll.getD i []) = true)) ll.length ?_ ?_
    · refine ⟨0, by omega, by omega, ?_⟩
      try simp (disch := first | omega | (simp only [ints_length, List.length_replicate]; done) | (simp only [ints_length, List.length_replicate]; omega)) only [Sall,evalOp,init,binE,binI,unE,convE,okNil,builtE,gv,TD.isAgg,resV,↓reduceIte,Nat.reduceEqDiff,reduceCtorEq,Nat.reduceAdd,Nat.reduceMul,Nat.reduceLeDiff,quietOp,blindOp,Int.reduceEq,Int.reduceLT,Int.reduceLE,Nat.reduceLT,ti2,ti3,ti4,ti45,ti46,ti38,ti25,ti30,ti22,ti32,ti24,ti95,ti172,ti169,ti165,ti166,ti65,ti143,ti87, Int.natCast_zero, Nat.not_lt_zero, false_implies]
      exact ⟨up, by omega⟩
    · rintro m t H' ⟨a, hm, h14, h15, h14', h13, h2, hup, hnx, hr1, hall⟩
      try simp (disch := first | omega | (simp only [ints_length, List.length_replicate]; done) | (simp only [ints_length, List.length_replicate]; omega)) only [Sall,evalOp,init,binE,binI,unE,convE,okNil,builtE,gv,TD.isAgg,resV,↓reduceIte,Nat.reduceEqDiff,reduceCtorEq,Nat.reduceAdd,Nat.reduceMul,Nat.reduceLeDiff,quietOp,blindOp,Int.reduceEq,Int.reduceLT,Int.reduceLE,Nat.reduceLT,ti2,ti3,ti4,ti45,ti46,ti38,ti25,ti30,ti22,ti32,ti24,ti95,ti172,ti169,ti165,ti166,ti65,ti143,ti87, h15, h14']
      refine condC_dec (fun h => ?_) (fun h => ?_)
      · have hx' : Rd2 1 H' x ll := hx.same fun i r hr => by have := hs i r hr; rw [hup.row i this, hr]
        have hv' : Rd 14 H' v k l := hv.same fun i r hr => by have := hs i r hr; rw [hup.row i this, hr]
        obtain ⟨i, o, u, c, r, y, my, rfl, hr, hy, hsx, hok⟩ := hx'.get (j := a) (by omega)
        obtain ⟨i', o', u', c', r', rfl, hr', hc', hs', hg'⟩ := hv'.get (by omega)
        have hml := hl2 _ (getD_mem (ll := ll) (a := a) (by omega))
        have hmm := hsx.lenK1
        try simp (disch := first | omega | (simp only [ints_length, List.length_replicate]; done) | (simp only [ints_length, List.length_replicate]; omega)) only [Sall,evalOp,init,binE,binI,unE,convE,okNil,builtE,gv,TD.isAgg,resV,↓reduceIte,Nat.reduceEqDiff,reduceCtorEq,Nat.reduceAdd,Nat.reduceMul,Nat.reduceLeDiff,quietOp,blindOp,Int.reduceEq,Int.reduceLT,Int.reduceLE,Nat.reduceLT,ti2,ti3,ti4,ti45,ti46,ti38,ti25,ti30,ti22,ti32,ti24,ti95,ti172,ti169,ti165,ti166,ti65,ti143,ti87, h15, h14', h13, h2, hr, hy, hok]
        refine ⟨by omega, ?_⟩
        refine draw_id (by kernel_rfl) (by kernel_rfl) ?_
        try simp (disch := first | omega | (simp only [ints_length, List.length_replicate]; done) | (simp only [ints_length, List.length_replicate]; omega)) only [Sall,evalOp,init,binE,binI,unE,convE,okNil,builtE,gv,TD.isAgg,resV,↓reduceIte,Nat.reduceEqDiff,reduceCtorEq,Nat.reduceAdd,Nat.reduceMul,Nat.reduceLeDiff,quietOp,blindOp,Int.reduceEq,Int.reduceLT,Int.reduceLE,Nat.reduceLT,ti2,ti3,ti4,ti45,ti46,ti38,ti25,ti30,ti22,ti32,ti24,ti95,ti172,ti169,ti165,ti166,ti65,ti143,ti87, builtE, hsx.len, h15, h2, hr1, hr', hg']
        have hrl : (rnd l a).length = 14 := rnd_length l a k hv.1 (by omega)
        refine ⟨⟨by omega, by omega⟩, by omega, ACalls.wf (by kernel_rfl) fun hs1 => (pairs_c n (rnd l a) hrl hn H').mono ?_⟩
        rintro p H3 ⟨up3, hp⟩
        have hpl := hp.rd.len
        refine ⟨.inr (.inr (up3.le hs1)), ?_⟩
        have hsx3 : Rd 1 H3 y my (ll.getD a []) := hsx.same (up3.le hs1).row
        have hr3 : H3.row H.next = some ⟨32, true, [.int .i64 n, .slice (some ⟨i', o', u'⟩) k c']⟩ := by rw [up3.row _ hnx, hr1]
        have n3 := up3.next
        refine Holds.mp ?_
        by_cases hq : my = (pairsL (rnd l a) n).length
        · have e2 : ((my : Int) != ((pairsL (rnd l a) n).length : Int)) = false := by rw [hq]; exact bne_self_eq_false _
          try simp (disch := first | omega | (simp only [ints_length, List.length_replicate]; done) | (simp only [ints_length, List.length_replicate]; omega)) only [Sall,evalOp,init,binE,binI,unE,convE,okNil,builtE,gv,TD.isAgg,resV,↓reduceIte,Nat.reduceEqDiff,reduceCtorEq,Nat.reduceAdd,Nat.reduceMul,Nat.reduceLeDiff,quietOp,blindOp,Int.reduceEq,Int.reduceLT,Int.reduceLE,Nat.reduceLT,ti2,ti3,ti4,ti45,ti46,ti38,ti25,ti30,ti22,ti32,ti24,ti95,ti172,ti169,ti165,ti166,ti65,ti143,ti87, builtE, hpl, e2, h15, h2]
          refine (containsFuncI_c 204 [] (fun z => !decide (0 ≤ z ∧ z ≤ 2)) y my _ H3 hsx3 (by omega) (fun z => areResults1_c z H3)).to ?_
          cases hb : (List.range my).any fun j => !decide (0 ≤ (ll.getD a []).getD j 0 ∧ (ll.getD a []).getD j 0 ≤ 2) with
          | true =>
            try simp (disch := first | omega | (simp only [ints_length, List.length_replicate]; done) | (simp only [ints_length, List.length_replicate]; omega)) only [Sall,evalOp,init,binE,binI,unE,convE,okNil,builtE,gv,TD.isAgg,resV,↓reduceIte,Nat.reduceEqDiff,reduceCtorEq,Nat.reduceAdd,Nat.reduceMul,Nat.reduceLeDiff,quietOp,blindOp,Int.reduceEq,Int.reduceLT,Int.reduceLE,Nat.reduceLT,ti2,ti3,ti4,ti45,ti46,ti38,ti25,ti30,ti22,ti32,ti24,ti95,ti172,ti169,ti165,ti166,ti65,ti143,ti87, true_and]
            refine ⟨.inr (.inr (LE.refl _)), ?_⟩
            rw [resB_bad (i := a) (by omega) (by rw [resAt_any, ← hmm, hb]; simp)]
            exact ⟨rfl, by have := hup.next; omega, fun i hi => by rw [up3.row i (by omega), hup.row i hi]⟩
          | false =>
            try simp (disch := first | omega | (simp only [ints_length, List.length_replicate]; done) | (simp only [ints_length, List.length_replicate]; omega)) only [Sall,evalOp,init,binE,binI,unE,convE,okNil,builtE,gv,TD.isAgg,resV,↓reduceIte,Nat.reduceEqDiff,reduceCtorEq,Nat.reduceAdd,Nat.reduceMul,Nat.reduceLeDiff,quietOp,blindOp,Int.reduceEq,Int.reduceLT,Int.reduceLE,Nat.reduceLT,ti2,ti3,ti4,ti45,ti46,ti38,ti25,ti30,ti22,ti32,ti24,ti95,ti172,ti169,ti165,ti166,ti65,ti143,ti87, h15, h14', h13, h2, w64]
            refine ⟨.inr (.inr (LE.refl _)), ll.length - (a + 1), by omega, a + 1, rfl, by omega, by omega, ⟨by have := hup.next; omega, fun i hi => by rw [up3.row i (by omega), hup.row i hi]⟩, by omega, hr3, fun i hi => ?_⟩
            by_cases e : i = a
            · rw [e, resAt_any, ← hmm, hb, hq]; simp
            · exact hall i (by omega)
        · have e2 : ((my : Int) != ((pairsL (rnd l a) n).length : Int)) = true := by rw [bne_iff_ne]; omega
          have e3 : resAt n (rnd l a) (ll.getD a []) = false := by
            unfold resAt
            rw [← hmm, show (my == (pairsL (rnd l a) n).length) = false by simpa using hq, Bool.false_and]
          try simp (disch := first | omega | (simp only [ints_length, List.length_replicate]; done) | (simp only [ints_length, List.length_replicate]; omega)) only [Sall,evalOp,init,binE,binI,unE,convE,okNil,builtE,gv,TD.isAgg,resV,↓reduceIte,Nat.reduceEqDiff,reduceCtorEq,Nat.reduceAdd,Nat.reduceMul,Nat.reduceLeDiff,quietOp,blindOp,Int.reduceEq,Int.reduceLT,Int.reduceLE,Nat.reduceLT,ti2,ti3,ti4,ti45,ti46,ti38,ti25,ti30,ti22,ti32,ti24,ti95,ti172,ti169,ti165,ti166,ti65,ti143,ti87, builtE, hpl, e2, h15, h2]
          rw [resB_bad (i := a) (by omega) e3]
          exact ⟨rfl, by have := hup.next; omega, fun i hi => by rw [up3.row i (by omega), hup.row i hi]⟩
      · try simp (disch := first | omega | (simp only [ints_length, List.length_replicate]; done) | (simp only [ints_length, List.length_replicate]; omega)) only [Sall,evalOp,init,binE,binI,unE,convE,okNil,builtE,gv,TD.isAgg,resV,↓reduceIte,Nat.reduceEqDiff,reduceCtorEq,Nat.reduceAdd,Nat.reduceMul,Nat.reduceLeDiff,quietOp,blindOp,Int.reduceEq,Int.reduceLT,Int.reduceLE,Nat.reduceLT,ti2,ti3,ti4,ti45,ti46,ti38,ti25,ti30,ti22,ti32,ti24,ti95,ti172,ti169,ti165,ti166,ti65,ti143,ti87, true_and]
        rw [resB_good hlk fun i hi => hall i (by omega)]
        exact ⟨rfl, hup⟩
  · have hlk' : (k : Int) < (ll.length : Int) := by omega
    try simp (disch := first | omega | (simp only [ints_length, List.length_replicate]; done) | (simp only [ints_length, List.length_replicate]; omega)) only [Sall,evalOp,init,binE,binI,unE,convE,okNil,builtE,gv,TD.isAgg,resV,↓reduceIte,Nat.reduceEqDiff,reduceCtorEq,Nat.reduceAdd,Nat.reduceMul,Nat.reduceLeDiff,quietOp,blindOp,Int.reduceEq,Int.reduceLT,Int.reduceLE,Nat.reduceLT,ti2,ti3,ti4,ti45,ti46,ti38,ti25,ti30,ti22,ti32,ti24,ti95,ti172,ti169,ti165,ti166,ti65,ti143,ti87, builtE, hx.len, hv.len, hlk', decide_true]
    unfold resB
    simp only [hlk, decide_false, Bool.false_and, true_and]
    exact up
end Go.Proofs.Ytgkmdfjjlghecaa.A
end

section
set_option linter.unusedSimpArgs false
set_option linter.unusedVariables false
namespace Go.Abs

/-- The points of the first team of a pair. -/
def wonI (v : Int) : Int := if v = 1 then 2 else if v = 2 then 0 else 1
/-- A meeting as one of its teams sees it: round, own number, the other one's, own points. -/
abbrev Ev := Nat × Int × Int × Int
def evPair (i : Nat) (p : List Int) (o : Int) : List Ev := [(i, p.getD 0 0, p.getD 1 0, o), (i, p.getD 1 0, p.getD 0 0, 2 - o)]
/-- The first k pairs of a round. -/
def evRound (n i : Nat) (r x : List Int) (k : Nat) : List Ev := (List.range k).flatMap fun j => evPair i ((pairsL r n).getD j []) (wonI (x.getD j 0))
theorem evRound_zero (n i : Nat) (r x : List Int) : evRound n i r x 0 = [] := rfl
theorem evRound_succ (n i : Nat) (r x : List Int) (k : Nat) : evRound n i r x (k + 1) = evRound n i r x k ++ evPair i ((pairsL r n).getD k []) (wonI (x.getD k 0)) := by
  simp [evRound, List.range_succ]
/-- The first m rounds. -/
def meets (n : Nat) (l : List Int) (ll : List (List Int)) (m : Nat) : List Ev := (List.range m).flatMap fun i => evRound n i (rnd l i) (ll.getD i []) (pairsL (rnd l i) n).length
theorem meets_zero (n : Nat) (l : List Int) (ll : List (List Int)) : meets n l ll 0 = [] := rfl
theorem meets_succ (n : Nat) (l : List Int) (ll : List (List Int)) (m : Nat) : meets n l ll (m + 1) = meets n l ll m ++ evRound n m (rnd l m) (ll.getD m []) (pairsL (rnd l m) n).length := by
  simp [meets, List.range_succ]

/-- A pair of a round that is right. -/
theorem pairsL_get (r : List Int) (n k : Nat) (h : k < (pairsL r n).length) : ∃ a : Nat, a < n ∧ (a : Int) < r.getD a 0 ∧ (pairsL r n).getD k [] = [(a : Int), r.getD a 0] := by
  unfold pairsL at h ⊢
  rw [List.length_map] at h
  have e : (List.map (fun (a : Nat) => [(a : Int), r.getD a 0]) ((List.range n).filter fun (a : Nat) => decide ((a : Int) < r.getD a 0))).getD k [] = [((((List.range n).filter fun (a : Nat) => decide ((a : Int) < r.getD a 0))[k] : Nat) : Int), r.getD (((List.range n).filter fun (a : Nat) => decide ((a : Int) < r.getD a 0))[k]) 0] := by
    rw [List.getD_eq_getElem?_getD, List.getElem?_map, List.getElem?_eq_getElem h]; rfl
  have hm := List.getElem_mem h
  generalize ((List.range n).filter fun (a : Nat) => decide ((a : Int) < r.getD a 0))[k] = a at e hm
  obtain ⟨h1, h2⟩ := List.mem_filter.1 hm
  exact ⟨a, by simpa using h1, of_decide_eq_true h2, e⟩
theorem roundB_at {n : Int} {r : List Int} (h : roundB n r = true) {a : Nat} (ha : (a : Int) < n) : (2 ≤ n ∧ n ≤ 14) ∧ 0 ≤ r.getD a 0 ∧ r.getD a 0 < n ∧ r.getD (r.getD a 0).toNat 0 = a := by
  unfold roundB at h
  rw [Bool.and_eq_true] at h
  have h1 := of_decide_eq_true h.1
  have h2 := (List.all_eq_true.1 h.2) a (by simp; omega)
  unfold okAt at h2
  rw [if_neg (by omega), Bool.and_eq_true] at h2
  have h3 := of_decide_eq_true h2.1
  exact ⟨h1, h3.1, by omega, by simpa using h2.2⟩
theorem schedB_at {n : Int} {k : Nat} {l : List Int} (h : schedB n k l = true) : (2 ≤ n ∧ n ≤ 14) ∧ k ≤ 40 ∧ ∀ i, i < k → roundB n (rnd l i) = true := by
  unfold schedB at h
  rw [Bool.and_eq_true, Bool.and_eq_true] at h
  exact ⟨of_decide_eq_true h.1.1, of_decide_eq_true h.1.2, fun i hi => (List.all_eq_true.1 h.2) i (by simpa using hi)⟩
theorem resB_at {n k : Nat} {l : List Int} {ll : List (List Int)} (h : resB n k l ll = true) : ll.length ≤ k ∧ ∀ i, i < ll.length → (ll.getD i []).length = (pairsL (rnd l i) n).length ∧ ∀ j, j < (ll.getD i []).length → 0 ≤ (ll.getD i []).getD j 0 ∧ (ll.getD i []).getD j 0 ≤ 2 := by
  unfold resB at h
  rw [Bool.and_eq_true] at h
  refine ⟨of_decide_eq_true h.1, fun i hi => ?_⟩
  have h2 := (List.all_eq_true.1 h.2) i (by simpa using hi)
  unfold resAt at h2
  rw [Bool.and_eq_true] at h2
  exact ⟨by simpa using h2.1, fun j hj => of_decide_eq_true ((List.all_eq_true.1 h2.2) j (by simpa using hj))⟩
theorem wonI_range (v : Int) : 0 ≤ wonI v ∧ wonI v ≤ 2 := by
  unfold wonI
  split
  · omega
  · split <;> omega

/-- To one number something is added. -/
def addAt (l : List Int) (a z : Int) : List Int := l.set a.toNat (IntKind.i64.wrap (l.getD a.toNat 0 + z))
theorem addAt_length (l : List Int) (a z : Int) : (addAt l a z).length = l.length := by simp [addAt]
def sumsF (n : Nat) (f : Int → Int → Int) (es : List Ev) : List Int := es.foldl (fun l e => addAt l e.2.1 (f e.2.2.1 e.2.2.2)) (List.replicate n 0)
theorem sumsF_nil (n : Nat) (f : Int → Int → Int) : sumsF n f [] = List.replicate n 0 := rfl
theorem sumsF_append (n : Nat) (f : Int → Int → Int) (es : List Ev) (e : Ev) : sumsF n f (es ++ [e]) = addAt (sumsF n f es) e.2.1 (f e.2.2.1 e.2.2.2) := by simp [sumsF]
theorem sumsF_length (n : Nat) (f : Int → Int → Int) (es : List Ev) : (sumsF n f es).length = n := by
  unfold sumsF
  have : ∀ (es : List Ev) (l : List Int), (es.foldl (fun l e => addAt l e.2.1 (f e.2.2.1 e.2.2.2)) l).length = l.length := by
    intro es
    induction es with
    | nil => intro l; rfl
    | cons e es ih => intro l; rw [List.foldl_cons, ih, addAt_length]
  rw [this, List.length_replicate]

theorem wrap_range (n : Int) : -9223372036854775808 ≤ IntKind.i64.wrap n ∧ IntKind.i64.wrap n ≤ 9223372036854775807 := by
  unfold IntKind.wrap
  simp only [IntKind.bits, IntKind.signed]
  simp only [Bool.true_and, decide_eq_true_eq, Nat.reduceSub, Int.reducePow]
  split
  · rename_i hh; have hh' : (9223372036854775808 : Int) ≤ n % 18446744073709551616 := of_decide_eq_true hh; omega
  · rename_i hh; have hh' : ¬ (9223372036854775808 : Int) ≤ n % 18446744073709551616 := fun k => hh (decide_eq_true k); omega
theorem set_range {l : List Int} {k : Nat} {z : Int} (hl : ∀ j, -9223372036854775808 ≤ l.getD j 0 ∧ l.getD j 0 ≤ 9223372036854775807) (hz : -9223372036854775808 ≤ z ∧ z ≤ 9223372036854775807) : ∀ j, -9223372036854775808 ≤ (l.set k z).getD j 0 ∧ (l.set k z).getD j 0 ≤ 9223372036854775807 := by
  intro j
  rw [List.getD_eq_getElem?_getD, List.getElem?_set]
  by_cases h : k = j
  · rw [if_pos h]
    split
    · simpa using hz
    · simp
  · rw [if_neg h, ← List.getD_eq_getElem?_getD]; exact hl j
theorem sumsF_range (n : Nat) (f : Int → Int → Int) (es : List Ev) : ∀ j, -9223372036854775808 ≤ (sumsF n f es).getD j 0 ∧ (sumsF n f es).getD j 0 ≤ 9223372036854775807 := by
  unfold sumsF
  have : ∀ (es : List Ev) (l : List Int), (∀ j, -9223372036854775808 ≤ l.getD j 0 ∧ l.getD j 0 ≤ 9223372036854775807) → ∀ j, -9223372036854775808 ≤ (es.foldl (fun l e => addAt l e.2.1 (f e.2.2.1 e.2.2.2)) l).getD j 0 ∧ (es.foldl (fun l e => addAt l e.2.1 (f e.2.2.1 e.2.2.2)) l).getD j 0 ≤ 9223372036854775807 := by
    intro es
    induction es with
    | nil => intro l h; exact h
    | cons e es ih => intro l h; rw [List.foldl_cons]; exact ih _ (set_range h (wrap_range _))
  refine this es _ fun j => ?_
  rw [List.getD_eq_getElem?_getD, List.getElem?_replicate]
  split <;> simp
theorem sumsF_congr {n : Nat} {f g : Int → Int → Int} (h : ∀ a b, f a b = g a b) (es : List Ev) : sumsF n f es = sumsF n g es := by
  have : f = g := by funext a b; exact h a b
  rw [this]
end Go.Abs
end
