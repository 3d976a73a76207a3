/- The small logic, ninth text: slices of integers (k cells an element) that are read, and fresh ones. No program is named here. And what follows. -/
import Derived.Test.YtgkmdfjjlghecaaM1
import Derived.Test.YtgkmdfjjlghecaaProg
import Derived.KernelRfl
import Derived.ChangeArms
import Derived.OpenShut
import Derived.DataReads
section
set_option linter.unusedSimpArgs false
set_option linter.unusedVariables false
namespace Go.Abs
open Go Go.RowKit

/-- A slice of n elements, k integers each, reads l. -/
def Rd (k : Nat) (H : AH) (v : Value) (n : Nat) (l : List Int) : Prop :=
  l.length = n * k ∧ ((n = 0 ∧ ∃ a c, v = .slice a 0 c ∧ (a = none → c = 0)) ∨ ∃ i o u c r, v = .slice (some ⟨i, o, u⟩) n c ∧ H.row i = some r ∧ o + n * k ≤ r.cells.length ∧ seg r.cells o (n * k) = ints l)

/-- A slice that is all of its row, which lies in [lo, hi). -/
def Fr (k : Nat) (ty : TypeId) (lo hi : Nat) (H : AH) (v : Value) (n : Nat) (l : List Int) : Prop :=
  l.length = n * k ∧ ((n = 0 ∧ v = .slice none 0 0) ∨ ∃ i, lo ≤ i ∧ i < hi ∧ v = .slice (some ⟨i, 0, some k⟩) n n ∧ H.row i = some ⟨ty, true, ints l⟩)

theorem Fr.rd {k ty lo hi n : Nat} {H : AH} {v : Value} {l : List Int} (h : Fr k ty lo hi H v n l) : Rd k H v n l := by
  refine ⟨h.1, ?_⟩
  rcases h.2 with h2 | ⟨i, h1, h2, rfl, hr⟩
  · exact .inl ⟨h2.1, none, 0, h2.2, fun _ => rfl⟩
  · exact .inr ⟨i, 0, some k, n, _, rfl, hr, by rw [ints_length, h.1]; omega, seg_all _ _ (by rw [ints_length, h.1])⟩

theorem Fr.same {k ty lo hi n : Nat} {H H' : AH} {v : Value} {l : List Int} (h : Fr k ty lo hi H v n l) (hs : ∀ i, lo ≤ i → i < hi → H'.row i = H.row i) : Fr k ty lo hi H' v n l := by
  refine ⟨h.1, ?_⟩
  rcases h.2 with h2 | ⟨i, h1, h2, hv, hr⟩
  · exact .inl h2
  · exact .inr ⟨i, h1, h2, hv, by rw [hs i h1 h2]; exact hr⟩
theorem Fr.wide {k ty lo hi lo' hi' n : Nat} {H : AH} {v : Value} {l : List Int} (h : Fr k ty lo hi H v n l) (h1 : lo' ≤ lo) (h2 : hi ≤ hi') : Fr k ty lo' hi' H v n l := by
  refine ⟨h.1, ?_⟩
  rcases h.2 with h3 | ⟨i, h3, h4, hv, hr⟩
  · exact .inl h3
  · exact .inr ⟨i, by omega, by omega, hv, hr⟩

theorem Rd.same {k n : Nat} {H H' : AH} {v : Value} {l : List Int} (h : Rd k H v n l) (hs : ∀ i r, H.row i = some r → H'.row i = some r) : Rd k H' v n l := by
  refine ⟨h.1, ?_⟩
  rcases h.2 with h2 | ⟨i, o, u, c, r, hv, hr, h3⟩
  · exact .inl h2
  · exact .inr ⟨i, o, u, c, r, hv, hs _ _ hr, h3⟩

theorem Rd.len {k n : Nat} {H : AH} {v : Value} {l : List Int} (h : Rd k H v n l) (H' : AH) : asSl v (.val (.int .i64 0) H') (fun _ _ _ n _ => .val (.int .i64 (n : Int)) H') = .val (.int .i64 (n : Int)) H' := by
  rcases h.2 with ⟨rfl, a, c, rfl, _⟩ | ⟨i, o, u, c, r, rfl, hr, h3⟩
  · cases a <;> rfl
  · rfl

theorem Rd.get {k n : Nat} {H : AH} {v : Value} {l : List Int} (h : Rd k H v n l) (hn : 0 < n) :
    ∃ i o u c r, v = .slice (some ⟨i, o, u⟩) n c ∧ H.row i = some r ∧ o + n * k ≤ r.cells.length ∧ (∀ j, j < n * k → r.cells[o + j]? = some (.int .i64 (l.getD j 0))) ∧
      (∀ j m, j + m ≤ n * k → seg r.cells (o + j) m = ints ((l.drop j).take m)) := by
  rcases h.2 with ⟨rfl, _⟩ | ⟨i, o, u, c, r, rfl, hr, h3, h4⟩
  · omega
  · have key : ∀ j, j < n * k → r.cells[o + j]? = (ints l)[j]? := by
      intro j hj
      rw [← h4]; simp [seg, hj]
    refine ⟨i, o, u, c, r, rfl, hr, h3, fun j hj => ?_, fun j m hjm => ?_⟩
    · rw [key j hj, ints_get? l j (by rw [h.1]; exact hj)]
    · rw [← ints_seg, ← h4]
      apply List.ext_getElem?
      intro x
      simp only [seg, List.getElem?_take, List.getElem?_drop]
      by_cases hx : x < m
      · rw [if_pos hx, if_pos hx, if_pos (by omega)]
        congr 1; omega
      · rw [if_neg hx, if_neg hx]

theorem Rd.one {k n : Nat} {H : AH} {v : Value} {l : List Int} (h : Rd k H v n l) : v.oneCell' = true := by
  rcases h.2 with ⟨_, a, c, rfl, _⟩ | ⟨i, o, u, c, r, rfl, _⟩ <;> rfl
theorem Fr.get {k ty lo hi n : Nat} {H : AH} {v : Value} {l : List Int} (h : Fr k ty lo hi H v n l) (hn : 0 < n) :
    ∃ i, lo ≤ i ∧ i < hi ∧ v = .slice (some ⟨i, 0, some k⟩) n n ∧ H.row i = some ⟨ty, true, ints l⟩ := by
  rcases h.2 with ⟨h3, _⟩ | h3
  · omega
  · exact h3
theorem Fr.set {k ty lo hi n i : Nat} {H : AH} {l l' : List Int} (h : Fr k ty lo hi H (.slice (some ⟨i, 0, some k⟩) n n) n l) (hr : H.row i = some ⟨ty, true, ints l⟩) (h1 : lo ≤ i) (h2 : i < hi) (hl : l'.length = l.length) :
    Fr k ty lo hi (H.setCells i (ints l')) (.slice (some ⟨i, 0, some k⟩) n n) n l' :=
  ⟨by rw [hl]; exact h.1, .inr ⟨i, h1, h2, rfl, by rw [AH.setCells_row, if_pos rfl, hr]; rfl⟩⟩

/-- Numbers one behind the other. -/
def seqL (a : Int) (n : Nat) : List Int := (List.range n).map fun (i : Nat) => a + i
theorem seqL_length (a : Int) (n : Nat) : (seqL a n).length = n := by simp [seqL]
theorem seqL_getD (a : Int) (n i : Nat) (h : i < n) : (seqL a n).getD i 0 = a + i := by simp [seqL, h]

/-- The first m cells marked. -/
def markL (a : Int) (l : List Int) (m : Nat) : List Int := seqL a m ++ l.drop m
theorem markL_length (a : Int) (l : List Int) (m : Nat) (h : m ≤ l.length) : (markL a l m).length = l.length := by simp [markL, seqL_length]; omega
theorem markL_zero (a : Int) (l : List Int) : markL a l 0 = l := by simp [markL, seqL]
theorem markL_all (a : Int) (l : List Int) : markL a l l.length = seqL a l.length := by simp [markL]
theorem markL_set (a : Int) (l : List Int) (m : Nat) (h : m < l.length) : (markL a l m).set m (a + m) = markL a l (m + 1) := by
  apply List.ext_getElem?
  intro i
  simp only [markL, seqL, List.getElem?_set, List.length_append, List.length_map, List.length_range, List.length_drop, List.getElem?_append, List.getElem?_map, List.getElem?_range, List.getElem?_drop]
  by_cases h1 : i = m
  · subst h1; simp [List.getElem?_range]; omega
  · by_cases h2 : i < m
    · have : ¬ m = i := by omega
      simp [h1, h2, this, List.getElem?_range, show i < m + 1 by omega]
    · have : ¬ m = i := by omega
      have h3 : ¬ i < m + 1 := by omega
      simp only [this, h2, h3, if_false]
      congr 1; omega

theorem zeros_one (z : List Value) : zeros 1 z = z := by simp [zeros]
theorem zeros_zero (z : List Value) : zeros 0 z = [] := by simp [zeros]

theorem AH.setCells_setCells (H : AH) (i : Nat) (a b : List Value) : (H.setCells i a).setCells i b = H.setCells i b := by
  unfold AH.setCells
  simp only [AH.mk.injEq, true_and]
  funext j
  by_cases h : j = i
  · subst h; simp only [if_true]; cases H.row j <;> rfl
  · simp only [h, if_false]

/-- An append to a fresh slice gives a fresh slice. -/
theorem appE_fr {P : Program} {E : TI} {k ty lo hi n c : Nat} {H : AH} {v : Value} {l m : List Int} {K : Value → AH → Prop} (h : Fr k ty lo hi H v n l) (hk : E.size = k) (hk0 : 0 < k) (hm : m.length = c * k) (hc : 0 < c) (hb : E.bytes ≤ 32768) (hn : n + c ≤ 4294967296) (hhi : hi ≤ H.next)
    (hK : ∀ v' H', H'.next = H.next + 1 → (∀ i, ¬(lo ≤ i ∧ i < hi) → i < H.next → H'.row i = H.row i) → Fr k ty H.next (H.next + 1) H' v' (n + c) (l ++ m) → K v' H') :
    runOut P H (appE E ty v (ints m) c H) K := by
  subst hk
  have hl := h.1
  unfold appE
  rw [if_neg (by omega)]
  rcases h.2 with ⟨rfl, rfl⟩ | ⟨i, h1, h2, rfl, hr⟩
  · simp only [asSl_nil, runOut_need, runOut_val]
    have : l = [] := List.eq_nil_of_length_eq_zero (by omega)
    subst this
    refine ⟨⟨by omega, hb⟩, hK _ _ rfl (fun i _ hi => by rw [AH.push_row, if_neg (by omega)]) ⟨by simp [hm], .inr ⟨H.next, by omega, by omega, by simp, by rw [AH.push_row, if_pos rfl]; rfl⟩⟩⟩
  · simp only [asSl_some, hr, bindO_some, runOut_need, Nat.zero_add, ints_length, hl]
    refine ⟨⟨by omega, hb, Nat.le_refl _, .inl rfl⟩, ?_⟩
    rw [if_neg (by rw [Nat.add_mul]; have := Nat.mul_pos hc hk0; omega)]
    simp only [runOut_need, runOut_val]
    refine ⟨⟨trivial, trivial, hk0, trivial, trivial⟩, hK _ _ rfl (fun j hj hj2 => ?_) ⟨by simp [hm, hl, Nat.add_mul], .inr ⟨H.next, by omega, by omega, rfl, ?_⟩⟩⟩
    · rw [AH.push_row, if_neg (by rw [AH.drop_next]; omega), AH.drop_row, if_neg (by omega)]
    · rw [AH.push_row, AH.drop_next, if_pos rfl, seg_all _ _ (by rw [ints_length, hl]), ints_append]

theorem push_setCells (H : AH) (ty : TypeId) (rw : Bool) (cs ds : List Value) : (H.push ⟨ty, rw, cs⟩).setCells H.next ds = H.push ⟨ty, rw, ds⟩ := by
  unfold AH.setCells AH.push
  simp only [AH.mk.injEq, true_and]
  funext j
  by_cases h : j = H.next
  · subst h; simp
  · simp only [h, if_false]

theorem zeros_ints (n k : Nat) : zeros n (ints (List.replicate k 0)) = ints (List.replicate (n * k) 0) := by
  unfold zeros
  induction n with
  | zero => simp [ints]
  | succ n ih =>
    rw [List.replicate_succ, List.flatten_cons, ih, ints_append, List.replicate_append_replicate, Nat.succ_mul, Nat.add_comm]

/-- The first a elements of k cells copied. -/
def copyL (k : Nat) (l : List Int) (n a : Nat) : List Int := l.take (a * k) ++ List.replicate ((n - a) * k) 0
theorem copyL_length (k : Nat) (l : List Int) (n a : Nat) (hl : l.length = n * k) (ha : a ≤ n) : (copyL k l n a).length = n * k := by
  unfold copyL
  rw [List.length_append, List.length_take, List.length_replicate, hl, Nat.min_eq_left (Nat.mul_le_mul_right _ ha), ← Nat.add_mul]
  congr 1; omega
theorem copyL_zero (k : Nat) (l : List Int) (n : Nat) : copyL k l n 0 = List.replicate (n * k) 0 := by simp [copyL]
theorem copyL_all (k : Nat) (l : List Int) (n : Nat) (hl : l.length = n * k) : copyL k l n n = l := by simp [copyL, ← hl]
theorem copyL_step (k : Nat) (l : List Int) (n a : Nat) (hl : l.length = n * k) (ha : a < n) : splice (ints (copyL k l n a)) (a * k) (ints ((l.drop (a * k)).take k)) = ints (copyL k l n (a + 1)) := by
  have h1 : a * k + k ≤ n * k := by
    have := Nat.mul_le_mul_right k (show a + 1 ≤ n by omega)
    rwa [Nat.succ_mul] at this
  rw [ints_splice]
  congr 1
  have e1 : ((l.drop (a * k)).take k).length = k := by rw [List.length_take, List.length_drop]; omega
  have e2 : (l.take (a * k)).length = a * k := by rw [List.length_take]; omega
  unfold copyL
  rw [e1]
  have t1 : (l.take (a * k) ++ List.replicate ((n - a) * k) 0).take (a * k) = l.take (a * k) := by rw [List.take_append_of_le_length (by omega), List.take_of_length_le (by omega)]
  have t2 : (l.take (a * k) ++ List.replicate ((n - a) * k) (0 : Int)).drop (a * k + k) = List.replicate ((n - (a + 1)) * k) 0 := by
    rw [List.drop_append, e2, List.drop_of_length_le (by omega), List.nil_append, List.drop_replicate]
    congr 1
    have : (n - a) * k = (n - (a + 1)) * k + k := by rw [show n - a = (n - (a + 1)) + 1 by omega, Nat.succ_mul]
    omega
  rw [t1, t2, Nat.succ_mul, List.take_add]
theorem copyL_set (l : List Int) (n a : Nat) (hl : l.length = n) (ha : a < n) : (copyL 1 l n a).set a (l.getD a 0) = copyL 1 l n (a + 1) := by
  have h := copyL_step 1 l n a (by omega) ha
  simp only [Nat.mul_one] at h
  have e : (l.drop a).take 1 = [l.getD a 0] := by
    rw [List.drop_eq_getElem_cons (by omega), List.take_succ_cons, List.take_zero]
    simp [show a < l.length by omega]
  rw [e] at h
  rw [ints_splice, ints_inj] at h
  rw [← h]
  have hc := copyL_length 1 l n a (by omega) (by omega)
  rw [List.set_eq_take_append_cons_drop, if_pos (by omega)]
  simp
end Go.Abs
end

section
set_option maxRecDepth 100000
set_option linter.defProp false
namespace Go.Abs
open Go Go.RowKit
/-- All stepping lemmas in one. -/
def Sall := And.intro (And.intro (And.intro (And.intro (And.intro (And.intro (And.intro (@awp_skip) (@awp_ret)) (And.intro (@awp_exit) (And.intro (@awp_seq) (@awp_cond)))) (And.intro (And.intro (@awp_block) (And.intro (@awp_region) (@awpOps_cons))) (And.intro (@awpOps_guard) (And.intro (@awpOps_nil) (@evo_tmp))))) (And.intro (And.intro (And.intro (@evo_int) (@evo_bool)) (And.intro (@evo_func) (And.intro (@evo_nil) (@evo_str)))) (And.intro (And.intro (@evs_nil) (And.intro (@evs_cons) (@evp_nil))) (And.intro (@evp_cons) (And.intro (@bindO_some) (@asI_int)))))) (And.intro (And.intro (And.intro (And.intro (@asB_bool) (@asP_ptr)) (And.intro (@asSl_nil) (And.intro (@asSl_some) (@asAgg_agg)))) (And.intro (And.intro (@asTup_tup) (And.intro (@asStr_str) (@asFn_fn))) (And.intro (@asCells_agg) (And.intro (@asCells_int) (@asCells_bool))))) (And.intro (And.intro (And.intro (@asCells_slice) (@asCells_str)) (And.intro (@asCells_fn) (And.intro (@asCells_ptr) (@slT_sl)))) (And.intro (And.intro (@stT_st) (And.intro (@oI_none) (@oI_some))) (And.intro (@runOut_val) (And.intro (@runOut_unit) (@runOut_call))))))) (And.intro (And.intro (And.intro (And.intro (And.intro (@runOut_need) (@condW_tt)) (And.intro (@condW_tf) (And.intro (@condW_ft) (@condW_ff)))) (And.intro (And.intro (@condW_undef) (And.intro (@condC_true) (@condC_false))) (And.intro (@updO_some) (And.intro (@updO_none) (@upd_apply))))) (And.intro (And.intro (And.intro (@seqQ_normal) (@seqQ_ret)) (And.intro (@seqQ_exit) (And.intro (@blockQ_normal) (@blockQ_ret)))) (And.intro (And.intro (@blockQ_exit) (And.intro (@retQ_ret) (@retQ_normal))) (And.intro (@resL_nil) (And.intro (@resL_cons) (@res1_tmp)))))) (And.intro (And.intro (And.intro (And.intro (@pack_0) (@pack_1)) (And.intro (@pack_2) (And.intro (@AH.push_row) (@AH.push_next)))) (And.intro (And.intro (@AH.setCells_row) (And.intro (@AH.setCells_next) (@AH.drop_row))) (And.intro (@AH.drop_next) (And.intro (@List.getD_cons_zero.{0}) (@List.getD_cons_succ.{0}))))) (And.intro (And.intro (And.intro (@List.getD_nil.{0}) (And.intro (@List.getElem?_cons_zero.{0}) (@List.getElem?_cons_succ.{0}))) (And.intro (@Option.bind_some.{0, 0}) (And.intro (@Option.some.injEq.{0}) (And.intro (@exists_eq_left'.{0}) (@exists_eq_left'.{1}))))) (And.intro (And.intro (@Bool.false_eq_true) (And.intro (@true_and) (@and_true))) (And.intro (@List.toList_toArray.{0}) (And.intro (@List.cons_append.{0}) (@List.nil_append.{0})))))))) (And.intro (And.intro (And.intro (And.intro (And.intro (And.intro (@placeT_array) (@placeT_struct)) (And.intro (@placesOf_nil) (And.intro (@placesOf_cons) (@fillL_nil)))) (And.intro (And.intro (@fillL_cons) (And.intro (@cells_int) (@cells_bool))) (And.intro (@cells_slice) (And.intro (@cells_str) (@cells_agg))))) (And.intro (And.intro (And.intro (@noTuple_int) (@noTuple_bool)) (And.intro (@noTuple_slice) (And.intro (@noTuple_str) (@noTuple_agg)))) (And.intro (And.intro (@one_int) (And.intro (@one_bool) (@one_slice))) (And.intro (@one_str) (And.intro (@one_ptr) (@one_func)))))) (And.intro (And.intro (And.intro (And.intro (@splice_nil0) (@splice_cons0)) (And.intro (@splice_succ) (And.intro (@seg_zero) (@seg_cons0)))) (And.intro (And.intro (@seg_succ) (And.intro (@seg_ints14) (@splice_ints14))) (And.intro (@ints_zero) (And.intro (@ints_length) (@List.length_replicate.{0}))))) (And.intro (And.intro (And.intro (@List.length_cons.{0}) (And.intro (@List.length_nil.{0}) (@Nat.zero_add))) (And.intro (@Nat.add_zero) (And.intro (@Nat.zero_mul) (@Nat.mul_one)))) (And.intro (And.intro (@Nat.one_mul) (And.intro (@List.size_toArray.{0}) (@and_self))) (And.intro (@Nat.le_refl) (And.intro (@Option.map_some.{0, 0}) (And.intro (@ite_true.{0}) (@ite_true.{1})))))))) (And.intro (And.intro (And.intro (And.intro (And.intro (And.intro (@ite_false.{0}) (@ite_false.{1})) (@res1_cell)) (And.intro (@resC_ptr) (And.intro (@Nat.left_eq_add) (@Nat.add_eq_left)))) (And.intro (And.intro (@Nat.succ_ne_self) (And.intro (@Nat.add_left_cancel_iff) (@Nat.add_right_cancel_iff))) (And.intro (@awpD_nil) (And.intro (@awpD_cons) (@awpD_guard))))) (And.intro (And.intro (And.intro (@true_or) (And.intro (@ne_eq.{0}) (@ne_eq.{1}))) (And.intro (@Nat.one_ne_zero) (And.intro (@not_false_eq_true) (@Int.toNat_natCast)))) (And.intro (And.intro (@Value.int.injEq) (And.intro (@Value.bool.injEq) (And.intro (@implies_true.{0}) (@implies_true.{1})))) (And.intro (@awpI_nil) (And.intro (@awpI_cons) (@stepI_op)))))) (And.intro (And.intro (And.intro (And.intro (@stepI_guard) (@add_n2)) (And.intro (@add_n3) (And.intro (@add_n4) (@add_n5)))) (And.intro (And.intro (@add_n6) (And.intro (@add_n7) (@add_n8))) (And.intro (@add_n9) (And.intro (@add_n10) (@add_n11))))) (And.intro (And.intro (And.intro (@add_n12) (And.intro (@ok_rw) (@ok_int))) (And.intro (@ok_bool) (And.intro (@ok_str) (@ok_slice)))) (And.intro (And.intro (@ok_ints) (And.intro (@holds_def) (@List.set_cons_zero.{0}))) (And.intro (@List.set_cons_succ.{0}) (And.intro (@Bool.not_true) (@Bool.not_false))))))))
end Go.Abs
end

section
set_option linter.unusedSimpArgs false
namespace Go.Proofs.Ytgkmdfjjlghecaa.A
open Go Go.Abs Go.RowKit
theorem ti2 : ti Try.prog 2 = some ⟨.int .i64, 1, 8, [.int .i64 0]⟩ := by kernel_rfl
theorem ti3 : ti Try.prog 3 = some ⟨.int .i64, 1, 8, [.int .i64 0]⟩ := by kernel_rfl
theorem ti4 : ti Try.prog 4 = some ⟨.bool, 1, 1, [.bool false]⟩ := by kernel_rfl
theorem ti45 : ti Try.prog 45 = some ⟨.array 14 2, 14, 112, ints (List.replicate 14 0)⟩ := by kernel_rfl
theorem ti46 : ti Try.prog 46 = some ⟨.array 14 2, 14, 112, ints (List.replicate 14 0)⟩ := by kernel_rfl
theorem ti38 : ti Try.prog 38 = some ⟨.slice 2, 1, 24, [.slice none 0 0]⟩ := by kernel_rfl
theorem ti25 : ti Try.prog 25 = some ⟨.slice 38, 1, 24, [.slice none 0 0]⟩ := by kernel_rfl
theorem ti30 : ti Try.prog 30 = some ⟨.slice 46, 1, 24, [.slice none 0 0]⟩ := by kernel_rfl
theorem ti22 : ti Try.prog 22 = some ⟨.slice 45, 1, 24, [.slice none 0 0]⟩ := by kernel_rfl
theorem ti32 : ti Try.prog 32 = some ⟨.struct [(0, 2), (1, 30)], 2, 32, [.int .i64 0, .slice none 0 0]⟩ := by kernel_rfl
theorem ti24 : ti Try.prog 24 = some ⟨.struct [(0, 2), (1, 22)], 2, 32, [.int .i64 0, .slice none 0 0]⟩ := by kernel_rfl
theorem ti95 : ti Try.prog 95 = some ⟨.other, 1, 8, [.nilFunc]⟩ := by kernel_rfl
theorem ti172 : ti Try.prog 172 = some ⟨.other, 1, 8, [.nilFunc]⟩ := by kernel_rfl
theorem ti169 : ti Try.prog 169 = some ⟨.slice 3, 1, 24, [.slice none 0 0]⟩ := by kernel_rfl
theorem ti165 : ti Try.prog 165 = some ⟨.array 2 3, 2, 16, [.int .i64 0, .int .i64 0]⟩ := by kernel_rfl
theorem ti166 : ti Try.prog 166 = some ⟨.slice 165, 1, 24, [.slice none 0 0]⟩ := by kernel_rfl
theorem ti65 : ti Try.prog 65 = some ⟨.struct [(0, 2), (1, 25)], 2, 32, [.int .i64 0, .slice none 0 0]⟩ := by kernel_rfl
theorem ti143 : ti Try.prog 143 = some ⟨.other, 1, 8, [.nilFunc]⟩ := by kernel_rfl
theorem ti87 : ti Try.prog 87 = some ⟨.slice 4, 1, 24, [.slice none 0 0]⟩ := by kernel_rfl
/-- A check of the list. -/
theorem listed (a b : Nat) : a + b = b + a ∧ True := by
  simp only [Sall,evalOp,init,binE,binI,unE,convE,okNil,builtE,gv,TD.isAgg,resV,↓reduceIte,Nat.reduceEqDiff,reduceCtorEq,Nat.reduceAdd,Nat.reduceMul,Nat.reduceLeDiff,quietOp,blindOp,Int.reduceEq,Int.reduceLT,Int.reduceLE,Nat.reduceLT, ti2,ti3,ti4,ti45,ti46,ti38,ti25,ti30,ti22,ti32,ti24,ti95,ti172,ti169,ti165,ti166,ti65,ti143,ti87]
  exact Nat.add_comm a b
end Go.Proofs.Ytgkmdfjjlghecaa.A
end

section
set_option linter.unusedSimpArgs false
set_option linter.unusedVariables false
namespace Go.Abs

def okAt (n : Int) (r : List Int) (a : Nat) : Bool := if n ≤ a then r.getD a 0 == 0 else decide (0 ≤ r.getD a 0 ∧ r.getD a 0 ≤ n - 1) && r.getD (r.getD a 0).toNat 0 == a
def roundB (n : Int) (r : List Int) : Bool := decide (2 ≤ n ∧ n ≤ 14) && (List.range 14).all (okAt n r)
/-- Round i of rounds that lie one behind the other. -/
def rnd (l : List Int) (i : Nat) : List Int := (l.drop (i * 14)).take 14
def schedB (n : Int) (k : Nat) (l : List Int) : Bool := decide (2 ≤ n ∧ n ≤ 14) && decide (k ≤ 40) && (List.range k).all fun i => roundB n (rnd l i)

theorem rnd_length (l : List Int) (i k : Nat) (h : l.length = k * 14) (hi : i < k) : (rnd l i).length = 14 := by
  unfold rnd; rw [List.length_take, List.length_drop]; omega

theorem all_false_of {n i : Nat} {p : Nat → Bool} (hi : i < n) (h : p i = false) : (List.range n).all p = false := by
  rw [List.all_eq_false]; exact ⟨i, by simpa using hi, by simp [h]⟩
theorem all_true_of {n : Nat} {p : Nat → Bool} (h : ∀ x, x < n → p x = true) : (List.range n).all p = true := by
  rw [List.all_eq_true]; intro x hx; exact h x (by simpa using hx)
theorem any_true_of {n i : Nat} {p : Nat → Bool} (hi : i < n) (h : p i = true) : (List.range n).any p = true := by
  rw [List.any_eq_true]; exact ⟨i, by simpa using hi, h⟩
theorem any_false_of {n : Nat} {p : Nat → Bool} (h : ∀ x, x < n → p x = false) : (List.range n).any p = false := by
  rw [List.any_eq_false]; intro x hx; simp [h x (by simpa using hx)]

theorem roundB_bad {n : Int} {r : List Int} {a : Nat} (ha : a < 14) (h : okAt n r a = false) : roundB n r = false := by
  unfold roundB; rw [all_false_of ha h, Bool.and_false]
theorem roundB_good {n : Int} {r : List Int} (hn : 2 ≤ n ∧ n ≤ 14) (h : ∀ x, x < 14 → okAt n r x = true) : roundB n r = true := by
  unfold roundB; rw [all_true_of h, Bool.and_true]; simp [hn]
theorem roundB_range {n : Int} {r : List Int} (hn : ¬ (2 ≤ n ∧ n ≤ 14)) : roundB n r = false := by
  unfold roundB; simp only [hn, decide_false, Bool.false_and]

def firstI (p : Nat → Bool) (k : Nat) : Int := match (List.range k).find? p with | some i => (i : Int) | none => -1
theorem find_at {p : Nat → Bool} {k a : Nat} (ha : a < k) (h : p a = true) (hb : ∀ x, x < a → p x = false) : (List.range k).find? p = some a := by
  rw [List.find?_range_eq_some]
  refine ⟨h, by simpa using ha, fun x hx => by simp [hb x hx]⟩
theorem firstI_at {p : Nat → Bool} {k a : Nat} (ha : a < k) (h : p a = true) (hb : ∀ x, x < a → p x = false) : firstI p k = a := by
  unfold firstI; rw [find_at ha h hb]
theorem firstI_none {p : Nat → Bool} {k : Nat} (hb : ∀ x, x < k → p x = false) : firstI p k = -1 := by
  unfold firstI
  rw [List.find?_eq_none.2 (by intro x hx; simp [hb x (by simpa using hx)])]
theorem firstI_any (p : Nat → Bool) (k : Nat) : decide (0 ≤ firstI p k) = (List.range k).any p := by
  unfold firstI
  cases h : (List.range k).find? p with
  | none => rw [List.find?_eq_none] at h; rw [List.any_eq_false.2 h]; rfl
  | some i =>
    have h1 := List.find?_some h
    have h2 := List.mem_of_find?_eq_some h
    rw [List.any_eq_true.2 ⟨i, h2, h1⟩]
    simp
theorem schedB_any (n : Int) (k : Nat) (l : List Int) : schedB n k l = (decide (2 ≤ n ∧ n ≤ 14) && decide (k ≤ 40) && !((List.range k).any fun i => !roundB n (rnd l i))) := by
  unfold schedB; congr 1; rw [List.not_any_eq_all_not]; simp
end Go.Abs
end

section
set_option linter.unusedSimpArgs false
set_option linter.unusedVariables false
set_option maxRecDepth 100000
namespace Go.Proofs.Ytgkmdfjjlghecaa.A
open Go Go.Abs Go.RowKit

theorem between_c (n lo hi : Int) (H : AH) : ACalls Try.prog 116 [.int .i64 n, .int .i64 lo, .int .i64 hi] H (is (.bool (decide (lo ≤ n ∧ n ≤ hi))) H) := by
  refine acalls_of_awp [.tmp 6] Try.func116 (by kernel_rfl) rfl rfl (Nat.le_of_ble_eq_true rfl) (by kernel_rfl) ?_
  by_cases h : lo ≤ n
  · try simp (disch := first | omega | (simp only [ints_length, List.length_replicate]; done) | (simp only [ints_length, List.length_replicate]; omega)) only [Sall,evalOp,init,binE,binI,unE,convE,okNil,builtE,gv,TD.isAgg,resV,↓reduceIte,Nat.reduceEqDiff,reduceCtorEq,Nat.reduceAdd,Nat.reduceMul,Nat.reduceLeDiff,quietOp,blindOp,Int.reduceEq,Int.reduceLT,Int.reduceLE,Nat.reduceLT,ti2,ti3,ti4,ti45,ti46,ti38,ti25,ti30,ti22,ti32,ti24,ti95,ti172,ti169,ti165,ti166,ti65,ti143,ti87, h, decide_true, is]
  · try simp (disch := first | omega | (simp only [ints_length, List.length_replicate]; done) | (simp only [ints_length, List.length_replicate]; omega)) only [Sall,evalOp,init,binE,binI,unE,convE,okNil,builtE,gv,TD.isAgg,resV,↓reduceIte,Nat.reduceEqDiff,reduceCtorEq,Nat.reduceAdd,Nat.reduceMul,Nat.reduceLeDiff,quietOp,blindOp,Int.reduceEq,Int.reduceLT,Int.reduceLE,Nat.reduceLT,ti2,ti3,ti4,ti45,ti46,ti38,ti25,ti30,ti22,ti32,ti24,ti95,ti172,ti169,ti165,ti166,ti65,ti143,ti87, h, decide_false, is, false_and]

theorem l01In_c (n lo hi : Int) (H : AH) : ACalls Try.prog 123 [.int .i64 n, .int .i64 lo, .int .i64 hi] H (is (.bool (decide (lo ≤ n ∧ n ≤ hi))) H) := by
  refine acalls_of_awp [.tmp 6] Try.func123 (by kernel_rfl) rfl rfl (Nat.le_of_ble_eq_true rfl) (by kernel_rfl) ?_
  by_cases h : lo ≤ n
  · try simp (disch := first | omega | (simp only [ints_length, List.length_replicate]; done) | (simp only [ints_length, List.length_replicate]; omega)) only [Sall,evalOp,init,binE,binI,unE,convE,okNil,builtE,gv,TD.isAgg,resV,↓reduceIte,Nat.reduceEqDiff,reduceCtorEq,Nat.reduceAdd,Nat.reduceMul,Nat.reduceLeDiff,quietOp,blindOp,Int.reduceEq,Int.reduceLT,Int.reduceLE,Nat.reduceLT,ti2,ti3,ti4,ti45,ti46,ti38,ti25,ti30,ti22,ti32,ti24,ti95,ti172,ti169,ti165,ti166,ti65,ti143,ti87, h, decide_true, is]
  · try simp (disch := first | omega | (simp only [ints_length, List.length_replicate]; done) | (simp only [ints_length, List.length_replicate]; omega)) only [Sall,evalOp,init,binE,binI,unE,convE,okNil,builtE,gv,TD.isAgg,resV,↓reduceIte,Nat.reduceEqDiff,reduceCtorEq,Nat.reduceAdd,Nat.reduceMul,Nat.reduceLeDiff,quietOp,blindOp,Int.reduceEq,Int.reduceLT,Int.reduceLE,Nat.reduceLT,ti2,ti3,ti4,ti45,ti46,ti38,ti25,ti30,ti22,ti32,ti24,ti95,ti172,ti169,ti165,ti166,ti65,ti143,ti87, h, decide_false, is, false_and]

theorem l01Round_c (n : Int) (r : List Int) (hr : r.length = 14) (H : AH) : ACalls Try.prog 205 [.int .i64 n, .agg (ints r).toArray] H (is (.bool (roundB n r)) H) := by
  refine acalls_up rfl (acalls_of_awp [.tmp 4] Try.func205 (by kernel_rfl) rfl rfl (Nat.le_of_ble_eq_true rfl) (by kernel_rfl) ?_)
  have up : Up H.next H (H.push ⟨46, true, ints r⟩) := (Up.refl _ H).push (Nat.le_refl _) _
  try simp (disch := first | omega | (simp only [ints_length, List.length_replicate]; done) | (simp only [ints_length, List.length_replicate]; omega)) only [Sall,evalOp,init,binE,binI,unE,convE,okNil,builtE,gv,TD.isAgg,resV,↓reduceIte,Nat.reduceEqDiff,reduceCtorEq,Nat.reduceAdd,Nat.reduceMul,Nat.reduceLeDiff,quietOp,blindOp,Int.reduceEq,Int.reduceLT,Int.reduceLE,Nat.reduceLT,ti2,ti3,ti4,ti45,ti46,ti38,ti25,ti30,ti22,ti32,ti24,ti95,ti172,ti169,ti165,ti166,ti65,ti143,ti87, true_and]
  refine (l01In_c _ _ _ _).to ?_
  by_cases hn : 2 ≤ n ∧ n ≤ 14
  · try simp (disch := first | omega | (simp only [ints_length, List.length_replicate]; done) | (simp only [ints_length, List.length_replicate]; omega)) only [Sall,evalOp,init,binE,binI,unE,convE,okNil,builtE,gv,TD.isAgg,resV,↓reduceIte,Nat.reduceEqDiff,reduceCtorEq,Nat.reduceAdd,Nat.reduceMul,Nat.reduceLeDiff,quietOp,blindOp,Int.reduceEq,Int.reduceLT,Int.reduceLE,Nat.reduceLT,ti2,ti3,ti4,ti45,ti46,ti38,ti25,ti30,ti22,ti32,ti24,ti95,ti172,ti169,ti165,ti166,ti65,ti143,ti87, hn, decide_true, Bool.not_true]
    refine awp_loop (fun m t H' => ∃ a : Nat, m = 14 - a ∧ a ≤ 14 ∧ t 5 = .int .i64 a ∧ t 0 = .int .i64 n ∧ t 3 = .pointer (some ⟨H.next, 0, none⟩) ∧ H' = H.push ⟨46, true, ints r⟩ ∧ (∀ x, x < a → okAt n r x = true)) 14 ?_ ?_
    · refine ⟨0, by omega, by omega, ?_⟩
      try simp (disch := first | omega | (simp only [ints_length, List.length_replicate]; done) | (simp only [ints_length, List.length_replicate]; omega)) only [Sall,evalOp,init,binE,binI,unE,convE,okNil,builtE,gv,TD.isAgg,resV,↓reduceIte,Nat.reduceEqDiff,reduceCtorEq,Nat.reduceAdd,Nat.reduceMul,Nat.reduceLeDiff,quietOp,blindOp,Int.reduceEq,Int.reduceLT,Int.reduceLE,Nat.reduceLT,ti2,ti3,ti4,ti45,ti46,ti38,ti25,ti30,ti22,ti32,ti24,ti95,ti172,ti169,ti165,ti166,ti65,ti143,ti87, Int.natCast_zero, Nat.not_lt_zero, false_implies]
    · rintro m t H' ⟨a, hm, h14, h5, h0, h3, rfl, hall⟩
      try simp (disch := first | omega | (simp only [ints_length, List.length_replicate]; done) | (simp only [ints_length, List.length_replicate]; omega)) only [Sall,evalOp,init,binE,binI,unE,convE,okNil,builtE,gv,TD.isAgg,resV,↓reduceIte,Nat.reduceEqDiff,reduceCtorEq,Nat.reduceAdd,Nat.reduceMul,Nat.reduceLeDiff,quietOp,blindOp,Int.reduceEq,Int.reduceLT,Int.reduceLE,Nat.reduceLT,ti2,ti3,ti4,ti45,ti46,ti38,ti25,ti30,ti22,ti32,ti24,ti95,ti172,ti169,ti165,ti166,ti65,ti143,ti87, h5]
      refine condC_dec (fun h => ?_) (fun h => ?_)
      · by_cases h1 : n ≤ (a : Int)
        · have h1' : ¬ (a : Int) < n := by omega
          by_cases h2 : r.getD a 0 = 0
          · have hok : okAt n r a = true := by unfold okAt; rw [if_pos h1, h2]; rfl
            try simp (disch := first | omega | (simp only [ints_length, List.length_replicate]; done) | (simp only [ints_length, List.length_replicate]; omega)) only [Sall,evalOp,init,binE,binI,unE,convE,okNil,builtE,gv,TD.isAgg,resV,↓reduceIte,Nat.reduceEqDiff,reduceCtorEq,Nat.reduceAdd,Nat.reduceMul,Nat.reduceLeDiff,quietOp,blindOp,Int.reduceEq,Int.reduceLT,Int.reduceLE,Nat.reduceLT,ti2,ti3,ti4,ti45,ti46,ti38,ti25,ti30,ti22,ti32,ti24,ti95,ti172,ti169,ti165,ti166,ti65,ti143,ti87, h5, h0, h3, h1, h1', decide_true, decide_false, ints_get?, h2, bne_self_eq_false, w64]
            refine ⟨⟨by omega, by omega⟩, 14 - (a + 1), by omega, a + 1, rfl, by omega, by omega, fun x hx => ?_⟩
            by_cases e : x = a
            · rw [e]; exact hok
            · exact hall x (by omega)
          · have hok : okAt n r a = false := by unfold okAt; rw [if_pos h1]; simpa using h2
            have h2' : (r.getD a 0 != 0) = true := by simpa using h2
            try simp (disch := first | omega | (simp only [ints_length, List.length_replicate]; done) | (simp only [ints_length, List.length_replicate]; omega)) only [Sall,evalOp,init,binE,binI,unE,convE,okNil,builtE,gv,TD.isAgg,resV,↓reduceIte,Nat.reduceEqDiff,reduceCtorEq,Nat.reduceAdd,Nat.reduceMul,Nat.reduceLeDiff,quietOp,blindOp,Int.reduceEq,Int.reduceLT,Int.reduceLE,Nat.reduceLT,ti2,ti3,ti4,ti45,ti46,ti38,ti25,ti30,ti22,ti32,ti24,ti95,ti172,ti169,ti165,ti166,ti65,ti143,ti87, h5, h0, h3, h1, h1', decide_true, decide_false, ints_get?, h2', w64]
            refine ⟨⟨by omega, by omega⟩, ?_⟩
            rw [roundB_bad (by omega) hok]
            exact ⟨rfl, up⟩
        · have h1' : (a : Int) < n := by omega
          try simp (disch := first | omega | (simp only [ints_length, List.length_replicate]; done) | (simp only [ints_length, List.length_replicate]; omega)) only [Sall,evalOp,init,binE,binI,unE,convE,okNil,builtE,gv,TD.isAgg,resV,↓reduceIte,Nat.reduceEqDiff,reduceCtorEq,Nat.reduceAdd,Nat.reduceMul,Nat.reduceLeDiff,quietOp,blindOp,Int.reduceEq,Int.reduceLT,Int.reduceLE,Nat.reduceLT,ti2,ti3,ti4,ti45,ti46,ti38,ti25,ti30,ti22,ti32,ti24,ti95,ti172,ti169,ti165,ti166,ti65,ti143,ti87, h5, h0, h3, h1, h1', decide_true, decide_false, ints_get?, w64]
          refine ⟨⟨by omega, by omega⟩, ?_⟩
          refine (l01In_c _ _ _ _).to ?_
          by_cases h2 : 0 ≤ r.getD a 0 ∧ r.getD a 0 ≤ n - 1
          · by_cases h4 : r.getD (r.getD a 0).toNat 0 = a
            · have hok : okAt n r a = true := by unfold okAt; rw [if_neg h1, h4]; simp only [h2, decide_true, Bool.true_and, beq_self_eq_true, and_self]
              try simp (disch := first | omega | (simp only [ints_length, List.length_replicate]; done) | (simp only [ints_length, List.length_replicate]; omega)) only [Sall,evalOp,init,binE,binI,unE,convE,okNil,builtE,gv,TD.isAgg,resV,↓reduceIte,Nat.reduceEqDiff,reduceCtorEq,Nat.reduceAdd,Nat.reduceMul,Nat.reduceLeDiff,quietOp,blindOp,Int.reduceEq,Int.reduceLT,Int.reduceLE,Nat.reduceLT,ti2,ti3,ti4,ti45,ti46,ti38,ti25,ti30,ti22,ti32,ti24,ti95,ti172,ti169,ti165,ti166,ti65,ti143,ti87, h5, h0, h3, h1, h1', decide_true, decide_false, ints_get?, h2, h4, bne_self_eq_false, w64, Bool.not_true]
              refine ⟨by omega, by omega, 14 - (a + 1), by omega, a + 1, rfl, by omega, by omega, fun x hx => ?_⟩
              by_cases e : x = a
              · rw [e]; exact hok
              · exact hall x (by omega)
            · have hok : okAt n r a = false := by unfold okAt; rw [if_neg h1]; simp only [h2, decide_true, Bool.true_and, and_self]; simpa using h4
              have h4' : (r.getD (r.getD a 0).toNat 0 != (a : Int)) = true := by simpa using h4
              try simp (disch := first | omega | (simp only [ints_length, List.length_replicate]; done) | (simp only [ints_length, List.length_replicate]; omega)) only [Sall,evalOp,init,binE,binI,unE,convE,okNil,builtE,gv,TD.isAgg,resV,↓reduceIte,Nat.reduceEqDiff,reduceCtorEq,Nat.reduceAdd,Nat.reduceMul,Nat.reduceLeDiff,quietOp,blindOp,Int.reduceEq,Int.reduceLT,Int.reduceLE,Nat.reduceLT,ti2,ti3,ti4,ti45,ti46,ti38,ti25,ti30,ti22,ti32,ti24,ti95,ti172,ti169,ti165,ti166,ti65,ti143,ti87, h5, h0, h3, h1, h1', decide_true, decide_false, ints_get?, h2, h4', w64, Bool.not_true]
              refine ⟨by omega, by omega, ?_⟩
              rw [roundB_bad (by omega) hok]
              exact ⟨rfl, up⟩
          · have hok : okAt n r a = false := by unfold okAt; rw [if_neg h1]; simp only [h2, decide_false, Bool.false_and]
            try simp (disch := first | omega | (simp only [ints_length, List.length_replicate]; done) | (simp only [ints_length, List.length_replicate]; omega)) only [Sall,evalOp,init,binE,binI,unE,convE,okNil,builtE,gv,TD.isAgg,resV,↓reduceIte,Nat.reduceEqDiff,reduceCtorEq,Nat.reduceAdd,Nat.reduceMul,Nat.reduceLeDiff,quietOp,blindOp,Int.reduceEq,Int.reduceLT,Int.reduceLE,Nat.reduceLT,ti2,ti3,ti4,ti45,ti46,ti38,ti25,ti30,ti22,ti32,ti24,ti95,ti172,ti169,ti165,ti166,ti65,ti143,ti87, h5, h0, h3, h1, h1', decide_true, decide_false, ints_get?, h2, w64, Bool.not_false]
            rw [roundB_bad (by omega) hok]
            exact ⟨rfl, up⟩
      · try simp (disch := first | omega | (simp only [ints_length, List.length_replicate]; done) | (simp only [ints_length, List.length_replicate]; omega)) only [Sall,evalOp,init,binE,binI,unE,convE,okNil,builtE,gv,TD.isAgg,resV,↓reduceIte,Nat.reduceEqDiff,reduceCtorEq,Nat.reduceAdd,Nat.reduceMul,Nat.reduceLeDiff,quietOp,blindOp,Int.reduceEq,Int.reduceLT,Int.reduceLE,Nat.reduceLT,ti2,ti3,ti4,ti45,ti46,ti38,ti25,ti30,ti22,ti32,ti24,ti95,ti172,ti169,ti165,ti166,ti65,ti143,ti87, true_and]
        rw [roundB_good hn fun x hx => hall x (by omega)]
        exact ⟨rfl, up⟩
  · try simp (disch := first | omega | (simp only [ints_length, List.length_replicate]; done) | (simp only [ints_length, List.length_replicate]; omega)) only [Sall,evalOp,init,binE,binI,unE,convE,okNil,builtE,gv,TD.isAgg,resV,↓reduceIte,Nat.reduceEqDiff,reduceCtorEq,Nat.reduceAdd,Nat.reduceMul,Nat.reduceLeDiff,quietOp,blindOp,Int.reduceEq,Int.reduceLT,Int.reduceLE,Nat.reduceLT,ti2,ti3,ti4,ti45,ti46,ti38,ti25,ti30,ti22,ti32,ti24,ti95,ti172,ti169,ti165,ti166,ti65,ti143,ti87, hn, decide_false, Bool.not_false]
    rw [roundB_range hn]
    exact ⟨rfl, up⟩

theorem IsRound_c (n : Int) (r : List Int) (hr : r.length = 14) (H : AH) : ACalls Try.prog 225 [.int .i64 n, .agg (ints r).toArray] H (is (.bool (roundB n r)) H) := by
  refine acalls_up rfl (acalls_of_awp [.tmp 4] Try.func225 (by kernel_rfl) rfl rfl (Nat.le_of_ble_eq_true rfl) (by kernel_rfl) ?_)
  have up : Up H.next H (H.push ⟨46, true, ints r⟩) := (Up.refl _ H).push (Nat.le_refl _) _
  try simp (disch := first | omega | (simp only [ints_length, List.length_replicate]; done) | (simp only [ints_length, List.length_replicate]; omega)) only [Sall,evalOp,init,binE,binI,unE,convE,okNil,builtE,gv,TD.isAgg,resV,↓reduceIte,Nat.reduceEqDiff,reduceCtorEq,Nat.reduceAdd,Nat.reduceMul,Nat.reduceLeDiff,quietOp,blindOp,Int.reduceEq,Int.reduceLT,Int.reduceLE,Nat.reduceLT,ti2,ti3,ti4,ti45,ti46,ti38,ti25,ti30,ti22,ti32,ti24,ti95,ti172,ti169,ti165,ti166,ti65,ti143,ti87, true_and]
  refine (between_c _ _ _ _).to ?_
  by_cases hn : 2 ≤ n ∧ n ≤ 14
  · try simp (disch := first | omega | (simp only [ints_length, List.length_replicate]; done) | (simp only [ints_length, List.length_replicate]; omega)) only [Sall,evalOp,init,binE,binI,unE,convE,okNil,builtE,gv,TD.isAgg,resV,↓reduceIte,Nat.reduceEqDiff,reduceCtorEq,Nat.reduceAdd,Nat.reduceMul,Nat.reduceLeDiff,quietOp,blindOp,Int.reduceEq,Int.reduceLT,Int.reduceLE,Nat.reduceLT,ti2,ti3,ti4,ti45,ti46,ti38,ti25,ti30,ti22,ti32,ti24,ti95,ti172,ti169,ti165,ti166,ti65,ti143,ti87, hn, decide_true, Bool.not_true]
    refine ⟨by omega, ?_⟩
    refine awp_loop (fun m t H' => ∃ a : Nat, m = 14 - a ∧ a ≤ 14 ∧ t 11 = .int .i64 a ∧ t 10 = .agg (ints r).toArray ∧ t 0 = .int .i64 n ∧ t 3 = .pointer (some ⟨H.next, 0, none⟩) ∧ H' = H.push ⟨46, true, ints r⟩ ∧ (∀ x, x < a → okAt n r x = true)) 14 ?_ ?_
    · refine ⟨0, by omega, by omega, ?_⟩
      try simp (disch := first | omega | (simp only [ints_length, List.length_replicate]; done) | (simp only [ints_length, List.length_replicate]; omega)) only [Sall,evalOp,init,binE,binI,unE,convE,okNil,builtE,gv,TD.isAgg,resV,↓reduceIte,Nat.reduceEqDiff,reduceCtorEq,Nat.reduceAdd,Nat.reduceMul,Nat.reduceLeDiff,quietOp,blindOp,Int.reduceEq,Int.reduceLT,Int.reduceLE,Nat.reduceLT,ti2,ti3,ti4,ti45,ti46,ti38,ti25,ti30,ti22,ti32,ti24,ti95,ti172,ti169,ti165,ti166,ti65,ti143,ti87, Int.natCast_zero, Nat.not_lt_zero, false_implies]
    · rintro m t H' ⟨a, hm, h14, h5, h10, h0, h3, rfl, hall⟩
      try simp (disch := first | omega | (simp only [ints_length, List.length_replicate]; done) | (simp only [ints_length, List.length_replicate]; omega)) only [Sall,evalOp,init,binE,binI,unE,convE,okNil,builtE,gv,TD.isAgg,resV,↓reduceIte,Nat.reduceEqDiff,reduceCtorEq,Nat.reduceAdd,Nat.reduceMul,Nat.reduceLeDiff,quietOp,blindOp,Int.reduceEq,Int.reduceLT,Int.reduceLE,Nat.reduceLT,ti2,ti3,ti4,ti45,ti46,ti38,ti25,ti30,ti22,ti32,ti24,ti95,ti172,ti169,ti165,ti166,ti65,ti143,ti87, h5]
      refine condC_dec (fun h => ?_) (fun h => ?_)
      · by_cases h1 : n ≤ (a : Int)
        · have h1' : ¬ (a : Int) < n := by omega
          by_cases h2 : r.getD a 0 = 0
          · have hok : okAt n r a = true := by unfold okAt; rw [if_pos h1, h2]; rfl
            try simp (disch := first | omega | (simp only [ints_length, List.length_replicate]; done) | (simp only [ints_length, List.length_replicate]; omega)) only [Sall,evalOp,init,binE,binI,unE,convE,okNil,builtE,gv,TD.isAgg,resV,↓reduceIte,Nat.reduceEqDiff,reduceCtorEq,Nat.reduceAdd,Nat.reduceMul,Nat.reduceLeDiff,quietOp,blindOp,Int.reduceEq,Int.reduceLT,Int.reduceLE,Nat.reduceLT,ti2,ti3,ti4,ti45,ti46,ti38,ti25,ti30,ti22,ti32,ti24,ti95,ti172,ti169,ti165,ti166,ti65,ti143,ti87, h5, h10, h0, h3, h1, h1', decide_true, decide_false, ints_get?, h2, bne_self_eq_false, w64]
            refine ⟨⟨by omega, by omega⟩, 14 - (a + 1), by omega, a + 1, rfl, by omega, by omega, fun x hx => ?_⟩
            by_cases e : x = a
            · rw [e]; exact hok
            · exact hall x (by omega)
          · have hok : okAt n r a = false := by unfold okAt; rw [if_pos h1]; simpa using h2
            have h2' : (r.getD a 0 != 0) = true := by simpa using h2
            try simp (disch := first | omega | (simp only [ints_length, List.length_replicate]; done) | (simp only [ints_length, List.length_replicate]; omega)) only [Sall,evalOp,init,binE,binI,unE,convE,okNil,builtE,gv,TD.isAgg,resV,↓reduceIte,Nat.reduceEqDiff,reduceCtorEq,Nat.reduceAdd,Nat.reduceMul,Nat.reduceLeDiff,quietOp,blindOp,Int.reduceEq,Int.reduceLT,Int.reduceLE,Nat.reduceLT,ti2,ti3,ti4,ti45,ti46,ti38,ti25,ti30,ti22,ti32,ti24,ti95,ti172,ti169,ti165,ti166,ti65,ti143,ti87, h5, h10, h0, h3, h1, h1', decide_true, decide_false, ints_get?, h2', w64]
            refine ⟨⟨by omega, by omega⟩, ?_⟩
            rw [roundB_bad (by omega) hok]
            exact ⟨rfl, up⟩
        · have h1' : (a : Int) < n := by omega
          try simp (disch := first | omega | (simp only [ints_length, List.length_replicate]; done) | (simp only [ints_length, List.length_replicate]; omega)) only [Sall,evalOp,init,binE,binI,unE,convE,okNil,builtE,gv,TD.isAgg,resV,↓reduceIte,Nat.reduceEqDiff,reduceCtorEq,Nat.reduceAdd,Nat.reduceMul,Nat.reduceLeDiff,quietOp,blindOp,Int.reduceEq,Int.reduceLT,Int.reduceLE,Nat.reduceLT,ti2,ti3,ti4,ti45,ti46,ti38,ti25,ti30,ti22,ti32,ti24,ti95,ti172,ti169,ti165,ti166,ti65,ti143,ti87, h5, h10, h0, h3, h1, h1', decide_true, decide_false, ints_get?, w64]
          refine ⟨⟨by omega, by omega⟩, ?_⟩
          refine (between_c _ _ _ _).to ?_
          by_cases h2 : 0 ≤ r.getD a 0 ∧ r.getD a 0 ≤ n - 1
          · by_cases h4 : r.getD (r.getD a 0).toNat 0 = a
            · have hok : okAt n r a = true := by unfold okAt; rw [if_neg h1, h4]; simp only [h2, decide_true, Bool.true_and, beq_self_eq_true, and_self]
              try simp (disch := first | omega | (simp only [ints_length, List.length_replicate]; done) | (simp only [ints_length, List.length_replicate]; omega)) only [Sall,evalOp,init,binE,binI,unE,convE,okNil,builtE,gv,TD.isAgg,resV,↓reduceIte,Nat.reduceEqDiff,reduceCtorEq,Nat.reduceAdd,Nat.reduceMul,Nat.reduceLeDiff,quietOp,blindOp,Int.reduceEq,Int.reduceLT,Int.reduceLE,Nat.reduceLT,ti2,ti3,ti4,ti45,ti46,ti38,ti25,ti30,ti22,ti32,ti24,ti95,ti172,ti169,ti165,ti166,ti65,ti143,ti87, h5, h10, h0, h3, h1, h1', decide_true, decide_false, ints_get?, h2, h4, bne_self_eq_false, w64, Bool.not_true]
              refine ⟨by omega, 14 - (a + 1), by omega, a + 1, rfl, by omega, by omega, fun x hx => ?_⟩
              by_cases e : x = a
              · rw [e]; exact hok
              · exact hall x (by omega)
            · have hok : okAt n r a = false := by unfold okAt; rw [if_neg h1]; simp only [h2, decide_true, Bool.true_and, and_self]; simpa using h4
              have h4' : (r.getD (r.getD a 0).toNat 0 != (a : Int)) = true := by simpa using h4
              try simp (disch := first | omega | (simp only [ints_length, List.length_replicate]; done) | (simp only [ints_length, List.length_replicate]; omega)) only [Sall,evalOp,init,binE,binI,unE,convE,okNil,builtE,gv,TD.isAgg,resV,↓reduceIte,Nat.reduceEqDiff,reduceCtorEq,Nat.reduceAdd,Nat.reduceMul,Nat.reduceLeDiff,quietOp,blindOp,Int.reduceEq,Int.reduceLT,Int.reduceLE,Nat.reduceLT,ti2,ti3,ti4,ti45,ti46,ti38,ti25,ti30,ti22,ti32,ti24,ti95,ti172,ti169,ti165,ti166,ti65,ti143,ti87, h5, h10, h0, h3, h1, h1', decide_true, decide_false, ints_get?, h2, h4', w64, Bool.not_true]
              refine ⟨by omega, ?_⟩
              rw [roundB_bad (by omega) hok]
              exact ⟨rfl, up⟩
          · have hok : okAt n r a = false := by unfold okAt; rw [if_neg h1]; simp only [h2, decide_false, Bool.false_and]
            try simp (disch := first | omega | (simp only [ints_length, List.length_replicate]; done) | (simp only [ints_length, List.length_replicate]; omega)) only [Sall,evalOp,init,binE,binI,unE,convE,okNil,builtE,gv,TD.isAgg,resV,↓reduceIte,Nat.reduceEqDiff,reduceCtorEq,Nat.reduceAdd,Nat.reduceMul,Nat.reduceLeDiff,quietOp,blindOp,Int.reduceEq,Int.reduceLT,Int.reduceLE,Nat.reduceLT,ti2,ti3,ti4,ti45,ti46,ti38,ti25,ti30,ti22,ti32,ti24,ti95,ti172,ti169,ti165,ti166,ti65,ti143,ti87, h5, h10, h0, h3, h1, h1', decide_true, decide_false, ints_get?, h2, w64, Bool.not_false]
            rw [roundB_bad (by omega) hok]
            exact ⟨rfl, up⟩
      · try simp (disch := first | omega | (simp only [ints_length, List.length_replicate]; done) | (simp only [ints_length, List.length_replicate]; omega)) only [Sall,evalOp,init,binE,binI,unE,convE,okNil,builtE,gv,TD.isAgg,resV,↓reduceIte,Nat.reduceEqDiff,reduceCtorEq,Nat.reduceAdd,Nat.reduceMul,Nat.reduceLeDiff,quietOp,blindOp,Int.reduceEq,Int.reduceLT,Int.reduceLE,Nat.reduceLT,ti2,ti3,ti4,ti45,ti46,ti38,ti25,ti30,ti22,ti32,ti24,ti95,ti172,ti169,ti165,ti166,ti65,ti143,ti87, true_and]
        rw [roundB_good hn fun x hx => hall x (by omega)]
        exact ⟨rfl, up⟩
  · try simp (disch := first | omega | (simp only [ints_length, List.length_replicate]; done) | (simp only [ints_length, List.length_replicate]; omega)) only [Sall,evalOp,init,binE,binI,unE,convE,okNil,builtE,gv,TD.isAgg,resV,↓reduceIte,Nat.reduceEqDiff,reduceCtorEq,Nat.reduceAdd,Nat.reduceMul,Nat.reduceLeDiff,quietOp,blindOp,Int.reduceEq,Int.reduceLT,Int.reduceLE,Nat.reduceLT,ti2,ti3,ti4,ti45,ti46,ti38,ti25,ti30,ti22,ti32,ti24,ti95,ti172,ti169,ti165,ti166,ti65,ti143,ti87, hn, decide_false, Bool.not_false]
    rw [roundB_range hn]
    exact ⟨rfl, up⟩

theorem l01Is_c (q : Int) (v : Value) (k : Nat) (l : List Int) (H : AH) (hv : Rd 14 H v k l) (hk : k ≤ 4294967296) : ACalls Try.prog 154 [.agg #[.int .i64 q, v]] H (is (.bool (schedB q k l)) H) := by
  refine ACalls.wf (by kernel_rfl) fun hs => acalls_up rfl (acalls_of_awp [.tmp 2] Try.func154 (by kernel_rfl) rfl rfl (Nat.le_of_ble_eq_true rfl) (by kernel_rfl) ?_)
  have up : Up H.next H (H.push ⟨32, true, [.int .i64 q, v]⟩) := (Up.refl _ H).push (Nat.le_refl _) _
  have hv1 := hv.same (up.le hs).row
  have e1 : (H.push ⟨32, true, [.int .i64 q, v]⟩).row H.next = some ⟨32, true, [.int .i64 q, v]⟩ := by rw [AH.push_row, if_pos rfl]
  try simp (disch := first | omega | (simp only [ints_length, List.length_replicate]; done) | (simp only [ints_length, List.length_replicate]; omega)) only [Sall,evalOp,init,binE,binI,unE,convE,okNil,builtE,gv,TD.isAgg,resV,↓reduceIte,Nat.reduceEqDiff,reduceCtorEq,Nat.reduceAdd,Nat.reduceMul,Nat.reduceLeDiff,quietOp,blindOp,Int.reduceEq,Int.reduceLT,Int.reduceLE,Nat.reduceLT,ti2,ti3,ti4,ti45,ti46,ti38,ti25,ti30,ti22,ti32,ti24,ti95,ti172,ti169,ti165,ti166,ti65,ti143,ti87, true_and]
  refine (l01In_c _ _ _ _).to ?_
  revert up hv1 e1
  generalize H.push ⟨32, true, [.int .i64 q, v]⟩ = H1
  intro up hv1 e1
  by_cases hn : 2 ≤ q ∧ q ≤ 14
  · by_cases h40 : k ≤ 40
    · have h40' : ¬ (40 : Int) < k := by omega
      try simp (disch := first | omega | (simp only [ints_length, List.length_replicate]; done) | (simp only [ints_length, List.length_replicate]; omega)) only [Sall,evalOp,init,binE,binI,unE,convE,okNil,builtE,gv,TD.isAgg,resV,↓reduceIte,Nat.reduceEqDiff,reduceCtorEq,Nat.reduceAdd,Nat.reduceMul,Nat.reduceLeDiff,quietOp,blindOp,Int.reduceEq,Int.reduceLT,Int.reduceLE,Nat.reduceLT,ti2,ti3,ti4,ti45,ti46,ti38,ti25,ti30,ti22,ti32,ti24,ti95,ti172,ti169,ti165,ti166,ti65,ti143,ti87, hn, decide_true, Bool.not_true, e1, builtE, hv1.len, h40', decide_false]
      refine awp_loop (fun m t H' => ∃ a : Nat, m = k - a ∧ a ≤ k ∧ t 3 = .int .i64 a ∧ t 1 = .pointer (some ⟨H.next, 0, none⟩) ∧ H' = H1 ∧ (∀ x, x < a → roundB q (rnd l x) = true)) k ?_ ?_
      · refine ⟨0, by omega, by omega, ?_⟩
        try simp (disch := first | omega | (simp only [ints_length, List.length_replicate]; done) | (simp only [ints_length, List.length_replicate]; omega)) only [Sall,evalOp,init,binE,binI,unE,convE,okNil,builtE,gv,TD.isAgg,resV,↓reduceIte,Nat.reduceEqDiff,reduceCtorEq,Nat.reduceAdd,Nat.reduceMul,Nat.reduceLeDiff,quietOp,blindOp,Int.reduceEq,Int.reduceLT,Int.reduceLE,Nat.reduceLT,ti2,ti3,ti4,ti45,ti46,ti38,ti25,ti30,ti22,ti32,ti24,ti95,ti172,ti169,ti165,ti166,ti65,ti143,ti87, Int.natCast_zero, Nat.not_lt_zero, false_implies]
      · rintro m t H' ⟨a, hm, h14, h3, h1, rfl, hall⟩
        try simp (disch := first | omega | (simp only [ints_length, List.length_replicate]; done) | (simp only [ints_length, List.length_replicate]; omega)) only [Sall,evalOp,init,binE,binI,unE,convE,okNil,builtE,gv,TD.isAgg,resV,↓reduceIte,Nat.reduceEqDiff,reduceCtorEq,Nat.reduceAdd,Nat.reduceMul,Nat.reduceLeDiff,quietOp,blindOp,Int.reduceEq,Int.reduceLT,Int.reduceLE,Nat.reduceLT,ti2,ti3,ti4,ti45,ti46,ti38,ti25,ti30,ti22,ti32,ti24,ti95,ti172,ti169,ti165,ti166,ti65,ti143,ti87, h3, h1, e1, builtE, hv1.len]
        refine condC_dec (fun h => ?_) (fun h => ?_)
        · obtain ⟨i, o, u, c, r, rfl, hr, hc, hs1, hg⟩ := hv1.get (by omega)
          refine draw_id (by kernel_rfl) (by kernel_rfl) ?_
          try simp (disch := first | omega | (simp only [ints_length, List.length_replicate]; done) | (simp only [ints_length, List.length_replicate]; omega)) only [Sall,evalOp,init,binE,binI,unE,convE,okNil,builtE,gv,TD.isAgg,resV,↓reduceIte,Nat.reduceEqDiff,reduceCtorEq,Nat.reduceAdd,Nat.reduceMul,Nat.reduceLeDiff,quietOp,blindOp,Int.reduceEq,Int.reduceLT,Int.reduceLE,Nat.reduceLT,ti2,ti3,ti4,ti45,ti46,ti38,ti25,ti30,ti22,ti32,ti24,ti95,ti172,ti169,ti165,ti166,ti65,ti143,ti87, h3, h1, e1, hr, hg]
          refine ⟨⟨by omega, by omega⟩, by omega, (l01Round_c _ _ ?_ _).to ⟨.inr (.inr (LE.refl _)), ?_⟩⟩
          · rw [List.length_take, List.length_drop, hv.1]; omega
          · cases hb : roundB q (List.take 14 (List.drop (a * 14) l)) with
            | true =>
              try simp (disch := first | omega | (simp only [ints_length, List.length_replicate]; done) | (simp only [ints_length, List.length_replicate]; omega)) only [Sall,evalOp,init,binE,binI,unE,convE,okNil,builtE,gv,TD.isAgg,resV,↓reduceIte,Nat.reduceEqDiff,reduceCtorEq,Nat.reduceAdd,Nat.reduceMul,Nat.reduceLeDiff,quietOp,blindOp,Int.reduceEq,Int.reduceLT,Int.reduceLE,Nat.reduceLT,ti2,ti3,ti4,ti45,ti46,ti38,ti25,ti30,ti22,ti32,ti24,ti95,ti172,ti169,ti165,ti166,ti65,ti143,ti87, h3, h1, Bool.not_true, w64]
              refine ⟨k - (a + 1), by omega, a + 1, rfl, by omega, by omega, fun x hx => ?_⟩
              by_cases e : x = a
              · rw [e]; exact hb
              · exact hall x (by omega)
            | false =>
              try simp (disch := first | omega | (simp only [ints_length, List.length_replicate]; done) | (simp only [ints_length, List.length_replicate]; omega)) only [Sall,evalOp,init,binE,binI,unE,convE,okNil,builtE,gv,TD.isAgg,resV,↓reduceIte,Nat.reduceEqDiff,reduceCtorEq,Nat.reduceAdd,Nat.reduceMul,Nat.reduceLeDiff,quietOp,blindOp,Int.reduceEq,Int.reduceLT,Int.reduceLE,Nat.reduceLT,ti2,ti3,ti4,ti45,ti46,ti38,ti25,ti30,ti22,ti32,ti24,ti95,ti172,ti169,ti165,ti166,ti65,ti143,ti87, h3, h1, Bool.not_false]
              unfold schedB
              rw [all_false_of (p := fun i => roundB q (rnd l i)) (i := a) (by omega) hb, Bool.and_false]
              exact ⟨rfl, up⟩
        · try simp (disch := first | omega | (simp only [ints_length, List.length_replicate]; done) | (simp only [ints_length, List.length_replicate]; omega)) only [Sall,evalOp,init,binE,binI,unE,convE,okNil,builtE,gv,TD.isAgg,resV,↓reduceIte,Nat.reduceEqDiff,reduceCtorEq,Nat.reduceAdd,Nat.reduceMul,Nat.reduceLeDiff,quietOp,blindOp,Int.reduceEq,Int.reduceLT,Int.reduceLE,Nat.reduceLT,ti2,ti3,ti4,ti45,ti46,ti38,ti25,ti30,ti22,ti32,ti24,ti95,ti172,ti169,ti165,ti166,ti65,ti143,ti87, true_and]
          unfold schedB
          rw [all_true_of (p := fun i => roundB q (rnd l i)) fun x hx => hall x (by omega)]
          simp only [hn, h40, decide_true, and_self, Bool.and_self, true_and]
          exact up
    · have h40' : (40 : Int) < k := by omega
      try simp (disch := first | omega | (simp only [ints_length, List.length_replicate]; done) | (simp only [ints_length, List.length_replicate]; omega)) only [Sall,evalOp,init,binE,binI,unE,convE,okNil,builtE,gv,TD.isAgg,resV,↓reduceIte,Nat.reduceEqDiff,reduceCtorEq,Nat.reduceAdd,Nat.reduceMul,Nat.reduceLeDiff,quietOp,blindOp,Int.reduceEq,Int.reduceLT,Int.reduceLE,Nat.reduceLT,ti2,ti3,ti4,ti45,ti46,ti38,ti25,ti30,ti22,ti32,ti24,ti95,ti172,ti169,ti165,ti166,ti65,ti143,ti87, hn, decide_true, Bool.not_true, e1, builtE, hv1.len, h40']
      unfold schedB
      simp only [h40, decide_false, Bool.and_false, Bool.false_and, true_and]
      exact up
  · try simp (disch := first | omega | (simp only [ints_length, List.length_replicate]; done) | (simp only [ints_length, List.length_replicate]; omega)) only [Sall,evalOp,init,binE,binI,unE,convE,okNil,builtE,gv,TD.isAgg,resV,↓reduceIte,Nat.reduceEqDiff,reduceCtorEq,Nat.reduceAdd,Nat.reduceMul,Nat.reduceLeDiff,quietOp,blindOp,Int.reduceEq,Int.reduceLT,Int.reduceLE,Nat.reduceLT,ti2,ti3,ti4,ti45,ti46,ti38,ti25,ti30,ti22,ti32,ti24,ti95,ti172,ti169,ti165,ti166,ti65,ti143,ti87, hn, decide_false, Bool.not_false]
    unfold schedB
    simp only [hn, decide_false, Bool.false_and, true_and]
    exact up

theorem indexFuncR_c (g : FuncId) (cap : List Value) (p : List Int → Bool) (v : Value) (k : Nat) (l : List Int) (H : AH) (hv : Rd 14 H v k l) (hk : k ≤ 4294967296)
    (hp : ∀ r : List Int, r.length = 14 → ACalls Try.prog g (.agg (ints r).toArray :: cap) H (is (.bool (p r)) H)) :
    ACalls Try.prog 244 [v, .func (.func g) #[] cap.toArray] H (is (.int .i64 (firstI (fun i => p (rnd l i)) k)) H) := by
  refine acalls_of_awp [.tmp 4] Try.func244 (by kernel_rfl) rfl rfl (Nat.le_of_ble_eq_true rfl) (by kernel_rfl) ?_
  try simp (disch := first | omega | (simp only [ints_length, List.length_replicate]; done) | (simp only [ints_length, List.length_replicate]; omega)) only [Sall,evalOp,init,binE,binI,unE,convE,okNil,builtE,gv,TD.isAgg,resV,↓reduceIte,Nat.reduceEqDiff,reduceCtorEq,Nat.reduceAdd,Nat.reduceMul,Nat.reduceLeDiff,quietOp,blindOp,Int.reduceEq,Int.reduceLT,Int.reduceLE,Nat.reduceLT,ti2,ti3,ti4,ti45,ti46,ti38,ti25,ti30,ti22,ti32,ti24,ti95,ti172,ti169,ti165,ti166,ti65,ti143,ti87, builtE, hv.len]
  refine awp_loop (fun m t H' => ∃ a : Nat, m = k - a ∧ a ≤ k ∧ t 8 = .int .i64 a ∧ t 7 = .int .i64 k ∧ t 0 = v ∧ t 1 = .func (.func g) #[] cap.toArray ∧ H' = H ∧ (∀ x, x < a → p (rnd l x) = false)) k ?_ ?_
  · refine ⟨0, by omega, by omega, ?_⟩
    try simp (disch := first | omega | (simp only [ints_length, List.length_replicate]; done) | (simp only [ints_length, List.length_replicate]; omega)) only [Sall,evalOp,init,binE,binI,unE,convE,okNil,builtE,gv,TD.isAgg,resV,↓reduceIte,Nat.reduceEqDiff,reduceCtorEq,Nat.reduceAdd,Nat.reduceMul,Nat.reduceLeDiff,quietOp,blindOp,Int.reduceEq,Int.reduceLT,Int.reduceLE,Nat.reduceLT,ti2,ti3,ti4,ti45,ti46,ti38,ti25,ti30,ti22,ti32,ti24,ti95,ti172,ti169,ti165,ti166,ti65,ti143,ti87, Int.natCast_zero, Nat.not_lt_zero, false_implies]
  · rintro m t H' ⟨a, hm, h14, h8, h7, h0, h1, rfl, hall⟩
    try simp (disch := first | omega | (simp only [ints_length, List.length_replicate]; done) | (simp only [ints_length, List.length_replicate]; omega)) only [Sall,evalOp,init,binE,binI,unE,convE,okNil,builtE,gv,TD.isAgg,resV,↓reduceIte,Nat.reduceEqDiff,reduceCtorEq,Nat.reduceAdd,Nat.reduceMul,Nat.reduceLeDiff,quietOp,blindOp,Int.reduceEq,Int.reduceLT,Int.reduceLE,Nat.reduceLT,ti2,ti3,ti4,ti45,ti46,ti38,ti25,ti30,ti22,ti32,ti24,ti95,ti172,ti169,ti165,ti166,ti65,ti143,ti87, h8, h7]
    refine condC_dec (fun h => ?_) (fun h => ?_)
    · obtain ⟨i, o, u, c, r, rfl, hr, hc, hs1, hg⟩ := hv.get (by omega)
      try simp (disch := first | omega | (simp only [ints_length, List.length_replicate]; done) | (simp only [ints_length, List.length_replicate]; omega)) only [Sall,evalOp,init,binE,binI,unE,convE,okNil,builtE,gv,TD.isAgg,resV,↓reduceIte,Nat.reduceEqDiff,reduceCtorEq,Nat.reduceAdd,Nat.reduceMul,Nat.reduceLeDiff,quietOp,blindOp,Int.reduceEq,Int.reduceLT,Int.reduceLE,Nat.reduceLT,ti2,ti3,ti4,ti45,ti46,ti38,ti25,ti30,ti22,ti32,ti24,ti95,ti172,ti169,ti165,ti166,ti65,ti143,ti87, h8, h7, h0, h1, hr, hg]
      refine ⟨⟨by omega, by omega⟩, by omega, (hp _ ?_).to ?_⟩
      · rw [List.length_take, List.length_drop, hv.1]; omega
      · cases hb : p (List.take 14 (List.drop (a * 14) l)) with
        | true =>
          try simp (disch := first | omega | (simp only [ints_length, List.length_replicate]; done) | (simp only [ints_length, List.length_replicate]; omega)) only [Sall,evalOp,init,binE,binI,unE,convE,okNil,builtE,gv,TD.isAgg,resV,↓reduceIte,Nat.reduceEqDiff,reduceCtorEq,Nat.reduceAdd,Nat.reduceMul,Nat.reduceLeDiff,quietOp,blindOp,Int.reduceEq,Int.reduceLT,Int.reduceLE,Nat.reduceLT,ti2,ti3,ti4,ti45,ti46,ti38,ti25,ti30,ti22,ti32,ti24,ti95,ti172,ti169,ti165,ti166,ti65,ti143,ti87, h8, h7, h0, h1, is]
          rw [firstI_at (p := fun i => p (rnd l i)) (by omega) hb hall]
        | false =>
          try simp (disch := first | omega | (simp only [ints_length, List.length_replicate]; done) | (simp only [ints_length, List.length_replicate]; omega)) only [Sall,evalOp,init,binE,binI,unE,convE,okNil,builtE,gv,TD.isAgg,resV,↓reduceIte,Nat.reduceEqDiff,reduceCtorEq,Nat.reduceAdd,Nat.reduceMul,Nat.reduceLeDiff,quietOp,blindOp,Int.reduceEq,Int.reduceLT,Int.reduceLE,Nat.reduceLT,ti2,ti3,ti4,ti45,ti46,ti38,ti25,ti30,ti22,ti32,ti24,ti95,ti172,ti169,ti165,ti166,ti65,ti143,ti87, h8, h7, h0, h1, w64]
          refine ⟨k - (a + 1), by omega, a + 1, rfl, by omega, by omega, fun x hx => ?_⟩
          by_cases e : x = a
          · rw [e]; exact hb
          · exact hall x (by omega)
    · try simp (disch := first | omega | (simp only [ints_length, List.length_replicate]; done) | (simp only [ints_length, List.length_replicate]; omega)) only [Sall,evalOp,init,binE,binI,unE,convE,okNil,builtE,gv,TD.isAgg,resV,↓reduceIte,Nat.reduceEqDiff,reduceCtorEq,Nat.reduceAdd,Nat.reduceMul,Nat.reduceLeDiff,quietOp,blindOp,Int.reduceEq,Int.reduceLT,Int.reduceLE,Nat.reduceLT,ti2,ti3,ti4,ti45,ti46,ti38,ti25,ti30,ti22,ti32,ti24,ti95,ti172,ti169,ti165,ti166,ti65,ti143,ti87, is]
      rw [firstI_none (p := fun i => p (rnd l i)) fun x hx => hall x (by omega)]

theorem containsFuncR_c (g : FuncId) (cap : List Value) (p : List Int → Bool) (v : Value) (k : Nat) (l : List Int) (H : AH) (hv : Rd 14 H v k l) (hk : k ≤ 4294967296)
    (hp : ∀ r : List Int, r.length = 14 → ACalls Try.prog g (.agg (ints r).toArray :: cap) H (is (.bool (p r)) H)) :
    ACalls Try.prog 223 [v, .func (.func g) #[] cap.toArray] H (is (.bool ((List.range k).any fun i => p (rnd l i))) H) := by
  refine acalls_of_awp [.tmp 4] Try.func223 (by kernel_rfl) rfl rfl (Nat.le_of_ble_eq_true rfl) (by kernel_rfl) ?_
  try simp (disch := first | omega | (simp only [ints_length, List.length_replicate]; done) | (simp only [ints_length, List.length_replicate]; omega)) only [Sall,evalOp,init,binE,binI,unE,convE,okNil,builtE,gv,TD.isAgg,resV,↓reduceIte,Nat.reduceEqDiff,reduceCtorEq,Nat.reduceAdd,Nat.reduceMul,Nat.reduceLeDiff,quietOp,blindOp,Int.reduceEq,Int.reduceLT,Int.reduceLE,Nat.reduceLT,ti2,ti3,ti4,ti45,ti46,ti38,ti25,ti30,ti22,ti32,ti24,ti95,ti172,ti169,ti165,ti166,ti65,ti143,ti87, true_and]
  refine (indexFuncR_c g cap p v k l H hv hk hp).to ?_
  try simp (disch := first | omega | (simp only [ints_length, List.length_replicate]; done) | (simp only [ints_length, List.length_replicate]; omega)) only [Sall,evalOp,init,binE,binI,unE,convE,okNil,builtE,gv,TD.isAgg,resV,↓reduceIte,Nat.reduceEqDiff,reduceCtorEq,Nat.reduceAdd,Nat.reduceMul,Nat.reduceLeDiff,quietOp,blindOp,Int.reduceEq,Int.reduceLT,Int.reduceLE,Nat.reduceLT,ti2,ti3,ti4,ti45,ti46,ti38,ti25,ti30,ti22,ti32,ti24,ti95,ti172,ti169,ti165,ti166,ti65,ti143,ti87, is, firstI_any]

theorem IsSchedule1_c (q : Int) (u : Value) (x : Nat) (r : List Int) (hr : r.length = 14) (H : AH) (hx : H.row x = some ⟨32, true, [.int .i64 q, u]⟩) :
    ACalls Try.prog 224 [.agg (ints r).toArray, .pointer (some ⟨x, 0, none⟩)] H (is (.bool (!roundB q r)) H) := by
  refine ACalls.wf (by kernel_rfl) fun hs => acalls_up rfl (acalls_of_awp [.tmp 3] Try.func224 (by kernel_rfl) rfl rfl (Nat.le_of_ble_eq_true rfl) (by kernel_rfl) ?_)
  have hne : ¬ x = H.next := by have := hs x _ hx; omega
  try simp (disch := first | omega | (simp only [ints_length, List.length_replicate]; done) | (simp only [ints_length, List.length_replicate]; omega)) only [Sall,evalOp,init,binE,binI,unE,convE,okNil,builtE,gv,TD.isAgg,resV,↓reduceIte,Nat.reduceEqDiff,reduceCtorEq,Nat.reduceAdd,Nat.reduceMul,Nat.reduceLeDiff,quietOp,blindOp,Int.reduceEq,Int.reduceLT,Int.reduceLE,Nat.reduceLT,ti2,ti3,ti4,ti45,ti46,ti38,ti25,ti30,ti22,ti32,ti24,ti95,ti172,ti169,ti165,ti166,ti65,ti143,ti87, hx, hne, hr]
  refine (IsRound_c _ _ hr _).to ?_
  try simp (disch := first | omega | (simp only [ints_length, List.length_replicate]; done) | (simp only [ints_length, List.length_replicate]; omega)) only [Sall,evalOp,init,binE,binI,unE,convE,okNil,builtE,gv,TD.isAgg,resV,↓reduceIte,Nat.reduceEqDiff,reduceCtorEq,Nat.reduceAdd,Nat.reduceMul,Nat.reduceLeDiff,quietOp,blindOp,Int.reduceEq,Int.reduceLT,Int.reduceLE,Nat.reduceLT,ti2,ti3,ti4,ti45,ti46,ti38,ti25,ti30,ti22,ti32,ti24,ti95,ti172,ti169,ti165,ti166,ti65,ti143,ti87, true_and]
  exact (Up.refl _ H).push (Nat.le_refl _) _

theorem IsSchedule_c (q : Int) (v : Value) (k : Nat) (l : List Int) (H : AH) (hv : Rd 14 H v k l) (hk : k ≤ 4294967296) : ACalls Try.prog 203 [.agg #[.int .i64 q, v]] H (is (.bool (schedB q k l)) H) := by
  refine ACalls.wf (by kernel_rfl) fun hs => acalls_up rfl (acalls_of_awp [.tmp 2] Try.func203 (by kernel_rfl) rfl rfl (Nat.le_of_ble_eq_true rfl) (by kernel_rfl) ?_)
  have up : Up H.next H (H.push ⟨32, true, [.int .i64 q, v]⟩) := (Up.refl _ H).push (Nat.le_refl _) _
  have hv1 := hv.same (up.le hs).row
  have e1 : (H.push ⟨32, true, [.int .i64 q, v]⟩).row H.next = some ⟨32, true, [.int .i64 q, v]⟩ := by rw [AH.push_row, if_pos rfl]
  try simp (disch := first | omega | (simp only [ints_length, List.length_replicate]; done) | (simp only [ints_length, List.length_replicate]; omega)) only [Sall,evalOp,init,binE,binI,unE,convE,okNil,builtE,gv,TD.isAgg,resV,↓reduceIte,Nat.reduceEqDiff,reduceCtorEq,Nat.reduceAdd,Nat.reduceMul,Nat.reduceLeDiff,quietOp,blindOp,Int.reduceEq,Int.reduceLT,Int.reduceLE,Nat.reduceLT,ti2,ti3,ti4,ti45,ti46,ti38,ti25,ti30,ti22,ti32,ti24,ti95,ti172,ti169,ti165,ti166,ti65,ti143,ti87, true_and]
  refine (between_c _ _ _ _).to ?_
  revert up hv1 e1
  generalize H.push ⟨32, true, [.int .i64 q, v]⟩ = H1
  intro up hv1 e1
  by_cases hn : 2 ≤ q ∧ q ≤ 14
  · by_cases h40 : k ≤ 40
    · have h40' : (k : Int) ≤ 40 := by omega
      try simp (disch := first | omega | (simp only [ints_length, List.length_replicate]; done) | (simp only [ints_length, List.length_replicate]; omega)) only [Sall,evalOp,init,binE,binI,unE,convE,okNil,builtE,gv,TD.isAgg,resV,↓reduceIte,Nat.reduceEqDiff,reduceCtorEq,Nat.reduceAdd,Nat.reduceMul,Nat.reduceLeDiff,quietOp,blindOp,Int.reduceEq,Int.reduceLT,Int.reduceLE,Nat.reduceLT,ti2,ti3,ti4,ti45,ti46,ti38,ti25,ti30,ti22,ti32,ti24,ti95,ti172,ti169,ti165,ti166,ti65,ti143,ti87, hn, decide_true, e1, builtE, hv1.len, h40', List.mem_cons, List.not_mem_nil, or_false, forall_eq, Array.size_empty]
      refine (containsFuncR_c 224 [.pointer (some ⟨H.next, 0, none⟩)] (fun r => !roundB q r) v k l H1 hv1 hk fun r hr => IsSchedule1_c q v H.next r hr H1 e1).to ?_
      try simp (disch := first | omega | (simp only [ints_length, List.length_replicate]; done) | (simp only [ints_length, List.length_replicate]; omega)) only [Sall,evalOp,init,binE,binI,unE,convE,okNil,builtE,gv,TD.isAgg,resV,↓reduceIte,Nat.reduceEqDiff,reduceCtorEq,Nat.reduceAdd,Nat.reduceMul,Nat.reduceLeDiff,quietOp,blindOp,Int.reduceEq,Int.reduceLT,Int.reduceLE,Nat.reduceLT,ti2,ti3,ti4,ti45,ti46,ti38,ti25,ti30,ti22,ti32,ti24,ti95,ti172,ti169,ti165,ti166,ti65,ti143,ti87, true_and]
      rw [schedB_any]
      simp only [hn, h40, decide_true, and_self, Bool.true_and, true_and]
      exact up
    · have h40' : ¬ (k : Int) ≤ 40 := by omega
      try simp (disch := first | omega | (simp only [ints_length, List.length_replicate]; done) | (simp only [ints_length, List.length_replicate]; omega)) only [Sall,evalOp,init,binE,binI,unE,convE,okNil,builtE,gv,TD.isAgg,resV,↓reduceIte,Nat.reduceEqDiff,reduceCtorEq,Nat.reduceAdd,Nat.reduceMul,Nat.reduceLeDiff,quietOp,blindOp,Int.reduceEq,Int.reduceLT,Int.reduceLE,Nat.reduceLT,ti2,ti3,ti4,ti45,ti46,ti38,ti25,ti30,ti22,ti32,ti24,ti95,ti172,ti169,ti165,ti166,ti65,ti143,ti87, hn, decide_true, decide_false, e1, builtE, hv1.len, h40']
      rw [schedB_any]
      simp only [h40, decide_false, Bool.and_false, Bool.false_and, true_and]
      exact up
  · try simp (disch := first | omega | (simp only [ints_length, List.length_replicate]; done) | (simp only [ints_length, List.length_replicate]; omega)) only [Sall,evalOp,init,binE,binI,unE,convE,okNil,builtE,gv,TD.isAgg,resV,↓reduceIte,Nat.reduceEqDiff,reduceCtorEq,Nat.reduceAdd,Nat.reduceMul,Nat.reduceLeDiff,quietOp,blindOp,Int.reduceEq,Int.reduceLT,Int.reduceLE,Nat.reduceLT,ti2,ti3,ti4,ti45,ti46,ti38,ti25,ti30,ti22,ti32,ti24,ti95,ti172,ti169,ti165,ti166,ti65,ti143,ti87, hn, decide_false]
    rw [schedB_any]
    simp only [hn, decide_false, Bool.false_and, true_and]
    exact up

def deskB (q q' : Int) (k k' : Nat) (l l' : List Int) : Bool := schedB q k l && schedB q' k' l'

end Go.Proofs.Ytgkmdfjjlghecaa.A
end

section
namespace Go.Abs
open Go Go.RowKit

/-- A law without arguments. -/
theorem law_end0 {P : Program} {f : FuncId} (h : ∀ H, ACalls P f [] H (fun v _ => v = .bool true ∧ True)) (W : World) : Calls P f #[] W fun e W' => e = .returned (.bool true) ∧ Below W.heap.size W W' := by
  have h0 := (h ⟨0, fun _ => none⟩).2 W.heap.size id W [] ⟨fun i r hr => (by cases hr), fun i r hr => (by cases hr), fun i r hr => (by cases hr), fun i j r s hr => (by cases hr), Nat.le_refl _⟩ LV.nil
  refine h0.mono ?_
  rintro e w' ⟨v', v, H', ρ', rfl, ⟨rfl, _⟩, R', hV, E⟩
  rw [hV.bool]
  exact ⟨rfl, E.bl⟩
end Go.Abs
end

section
set_option linter.unusedVariables false
namespace Go.Abs
open Go Go.RowKit

/-- A cell of the given memory, as far as we know its kind. -/
def absV (n : Nat) (v : Value) : Value := if scal v = true then v else match v with
  | .slice (some _) 0 c => if 0 < n then .slice (some ⟨0, 1, some 0⟩) 0 c else undef
  | .slice (some ⟨b, o, none⟩) l c => if b < n then .slice (some ⟨b, o, none⟩) l c else undef
  | _ => undef

def absRow (w : World) (b : Nat) : List Value := match bsz w b with
  | some k => (List.range k).map fun j => match w.cell? ⟨b, j, none⟩ with | some v => absV w.heap.size v | none => undef
  | none => []

def given (w : World) : AH := ⟨w.heap.size, fun b => if b < w.heap.size then some ⟨0, false, absRow w b⟩ else none⟩

theorem absV_rel (w : World) (v : Value) (h : (absV w.heap.size v).oneCell' = true) : V1 id w.heap.size w (absV w.heap.size v) v := by
  unfold absV at h ⊢
  by_cases hs : scal v = true
  · rw [if_pos hs]; exact .scal v hs
  · rw [if_neg hs] at h ⊢
    split at h
    · rename_i a c
      by_cases hb : 0 < w.heap.size
      · simp only [hb, if_true]; exact .slu 0 1 0 c 0 a c hb (Nat.zero_le _) (.inr ⟨rfl, Nat.zero_lt_one⟩)
      · simp [hb, undef, Value.oneCell'] at h
    · rename_i b o l c _
      by_cases hb : b < w.heap.size
      · simp only [hb, if_true]; exact V1.sle (ρ := id) b o l c hb
      · simp [hb, undef, Value.oneCell'] at h
    · simp [undef, Value.oneCell'] at h

theorem given_rel (w : World) : Rel w.heap.size id (given w) w := by
  refine ⟨fun i r hr => ?_, fun i r hr hb => ?_, fun i r hr hb => ?_, fun i j r s hr hs hb => ?_, Nat.le_refl _⟩
  · simp only [given] at hr ⊢; split at hr
    · assumption
    · cases hr
  · simp only [given] at hr ⊢; split at hr
    · rename_i hi
      cases hr
      refine ⟨hi, fun j v hv ho => ?_⟩
      unfold absRow at hv
      split at hv
      · simp only [List.getElem?_map, Option.map_eq_some_iff] at hv
        obtain ⟨j', hj', hv⟩ := hv
        have : j' = j := by
          rw [List.getElem?_range (by simpa using (List.getElem?_eq_some_iff.1 hj').1)] at hj'
          simpa using hj'.symm
        subst this
        split at hv
        · rename_i v' hc
          subst hv
          exact ⟨v', hc, absV_rel w v' ho⟩
        · subst hv; simp [undef, Value.oneCell'] at ho
      · simp at hv
    · cases hr
  · simp only [given] at hr; split at hr
    · cases hr; simp at hb
    · cases hr
  · simp only [given] at hr; split at hr
    · cases hr; simp at hb
    · cases hr

/-- Where the given memory has integers, they are read. -/
theorem given_rd {w : World} {b o n k c : Nat} {zs : List Int} (hk0 : 0 < k) (hb : b < w.heap.size) (hl : zs.length = n * k) (hz : ∀ j, j < n * k → w.cell? ⟨b, o + j, none⟩ = some (.int .i64 (zs.getD j 0))) :
    Rd k (given w) (.slice (some ⟨b, o, none⟩) n c) n zs := by
  refine ⟨hl, ?_⟩
  by_cases hn : n * k = 0
  · have h0 : n = 0 := by
      rcases Nat.mul_eq_zero.1 hn with h | h
      · exact h
      · omega
    subst h0
    exact .inl ⟨rfl, _, c, rfl, fun h => by cases h⟩
  · have h1 := hz 0 (by omega)
    have hsz : ∃ cs t fr, w.heap[b]? = some (.cells cs t fr) := by
      unfold World.cell? at h1
      split at h1
      · rename_i cs t fr he; exact ⟨cs, t, fr, he⟩
      · cases h1
    obtain ⟨cs, t, fr, he⟩ := hsz
    have hk : bsz w b = some cs.size := by simp [bsz, he]
    have hcell : ∀ j, w.cell? ⟨b, j, none⟩ = cs[j]? := fun j => by simp [World.cell?, he]
    have hlast := hz (n * k - 1) (by omega)
    rw [hcell] at hlast
    have hlt := (Array.getElem?_eq_some_iff.1 hlast).1
    have hlen : (absRow w b).length = cs.size := by simp [absRow, hk]
    refine .inr ⟨b, o, none, c, ⟨0, false, absRow w b⟩, rfl, by simp [given, hb], by simp only [hlen]; omega, ?_⟩
    apply List.ext_getElem?
    intro j
    simp only [seg, List.getElem?_take, List.getElem?_drop]
    by_cases hj : j < n * k
    · rw [if_pos hj, ints_get? _ _ (by omega)]
      have h2 := hz j hj
      have h3 : o + j < cs.size := by omega
      simp only [absRow, hk, List.getElem?_map]
      rw [List.getElem?_range h3]
      simp only [Option.map_some, h2, absV, scal, if_true]
    · rw [if_neg hj, List.getElem?_eq_none (by rw [ints_length]; omega)]

/-! ### What the statement's reading tells -/
theorem mapM_each {α β : Type} {f : α → Option β} : ∀ {l : List α} {ys : List β}, l.mapM f = some ys → ∀ x ∈ l, ∃ y, f x = some y
  | [], _, _, x, hx => by cases hx
  | a :: l, ys, h, x, hx => by
    rw [List.mapM_cons] at h
    cases ha : f a with
    | none => rw [ha] at h; cases h
    | some y =>
      rw [ha] at h
      cases hl : l.mapM f with
      | none => rw [hl] at h; cases h
      | some zs =>
        rcases List.mem_cons.1 hx with rfl | hx
        · exact ⟨y, ha⟩
        · exact mapM_each hl x hx

section
variable {H : Type} {enc : TypeId × Value → H} {P : Program} {w : World} {base : Nat} {spare : Nat → Bool} {held : Bool}

/-- A type whose cells are all integers (int64 or int), as far as a reading tells. -/
def IntsOf (enc : TypeId × Value → H) (P : Program) (w : World) (base : Nat) (spare : Nat → Bool) (held : Bool) (e : TypeId) : Prop :=
  ∀ fuel cs x, DataW.trod enc P w base spare held fuel e cs = some x → ∀ c ∈ cs, ∃ z, c = Value.int .i64 z

theorem intsOf_int {e : TypeId} (he : P.underlying e = some (.int .i64)) : IntsOf enc P w base spare held e := by
  intro fuel cs x h c hc
  obtain ⟨n, rfl, _⟩ := DataW.trod_int he h
  simp at hc; exact ⟨n, hc⟩

theorem intsOf_array {t e : TypeId} {n : Nat} (ht : P.underlying t = some (.array n e)) (he : P.underlying e = some (.int .i64)) (hc : P.cellsOf e = 1) (hct : P.cellsOf t = n) : IntsOf enc P w base spare held t := by
  intro fuel cs x h c hc'
  cases fuel with
  | zero => simp [DataW.trod] at h
  | succ m =>
    unfold DataW.trod at h
    rw [ht] at h
    simp only at h
    split at h
    · rename_i hl
      obtain ⟨i, hi, rfl⟩ := List.mem_iff_getElem.1 hc'
      cases hm : (List.range n).mapM fun i => DataW.trod enc P w base spare held m e ((cs.drop (i * P.cellsOf e)).take (P.cellsOf e)) with
      | none => rw [hm] at h; cases h
      | some ys =>
        obtain ⟨y, hy⟩ := mapM_each hm i (by simp; omega)
        rw [hc, Nat.mul_one] at hy
        obtain ⟨z, hz, _⟩ := DataW.trod_int he hy
        rw [List.drop_eq_getElem_cons hi, List.take_succ_cons, List.take_zero] at hz
        exact ⟨z, by simpa using hz⟩
    · cases h

/-- A slice of elements whose cells are integers. -/
theorem trod_ints {t e : TypeId} {k fuel : Nat} {x : DataW H × List MemPlace} {v : Value} (ht : P.underlying t = some (.slice e)) (hk : P.cellsOf e = k) (hk0 : 0 < k) (hi : IntsOf enc P w base spare held e)
    (h : DataW.trod enc P w base spare held fuel t [v] = some x) (hv : v = .slice none 0 0 ∨ ∃ b o n c, v = .slice (some ⟨b, o, none⟩) n c ∧ b < w.heap.size) :
    ∃ n zs, Rd k (given w) v n zs ∧ V1 id w.heap.size w v v ∧ (v = .slice none 0 0 ∧ n = 0 ∨ ∃ b o c, v = .slice (some ⟨b, o, none⟩) n c) := by
  rcases hv with rfl | ⟨b, o, n, c, rfl, hb⟩
  · exact ⟨0, [], ⟨by simp, .inl ⟨rfl, _, 0, rfl, fun _ => rfl⟩⟩, .scal _ rfl, .inl ⟨rfl, rfl⟩⟩
  · rcases DataW.trod_slice ht h with ⟨h0, _⟩ | ⟨a, len, cap, elems, rest, m, _, hcs, _, _, _, _, hlen, hel, _, _⟩
    · simp at h0
    · simp only [List.cons.injEq, Value.slice.injEq, Option.some.injEq, and_true] at hcs
      obtain ⟨rfl, rfl, rfl⟩ := hcs
      have each : ∀ j, j < n * k → ∃ z, w.cell? ⟨b, o + j, none⟩ = some (.int .i64 z) := by
        intro j hj
        have hq : j / k < n := Nat.div_lt_of_lt_mul (by rw [Nat.mul_comm]; exact hj)
        have h1 := hel (j / k) hq
        rw [List.getElem?_eq_getElem (by omega), hk, Option.bind_eq_some_iff] at h1
        obtain ⟨cs', hc1, hc2⟩ := h1
        obtain ⟨_, hl, hc⟩ := World.cells?_some hc1
        have hr : j % k < k := Nat.mod_lt _ hk0
        have h2 := hc (j % k) hr
        obtain ⟨z, hz⟩ := hi _ _ _ hc2 (cs'[j % k]'(by omega)) (List.getElem_mem _)
        refine ⟨z, ?_⟩
        rw [List.getElem?_eq_getElem (by omega), hz] at h2
        rw [← h2]
        rw [Addr.add_lit, Addr.add_lit]
        have := Nat.div_add_mod j k
        rw [Nat.mul_comm] at this
        rw [Nat.add_assoc, this]
      let zs : List Int := (List.range (n * k)).map fun j => match w.cell? ⟨b, o + j, none⟩ with | some (.int _ z) => z | _ => 0
      refine ⟨n, zs, given_rd hk0 hb (by simp [zs]) (fun j hj => ?_), V1.sle (ρ := id) b o n c hb, .inr ⟨b, o, c, rfl⟩⟩
      obtain ⟨z, hz⟩ := each j hj
      rw [hz]
      simp [zs, hj, hz]
end

/-- A slice cell of an argument. -/
theorem ok_slice_cell {P : Program} {W : World} {b0 : Nat} {t e : TypeId} {v : Value} (ht : P.underlying t = some (.slice e)) (h : Cell.okWide P W .any b0 t v) :
    v = .slice none 0 0 ∨ ∃ b o n c, v = .slice (some ⟨b, o, none⟩) n c ∧ b < W.heap.size ∧ n ≤ 9223372036854775807 := by
  have h2 : Cell.ok P W .any b0 t v := by
    unfold Cell.okWide at h
    rw [ht] at h
    exact h
  unfold Cell.ok at h2
  rw [ht] at h2
  split at h2 <;> simp_all
  rename_i a len cap _
  obtain ⟨h3, h4, _, hsp, row, cells, hsh, _⟩ := h2
  have hb : a.block < W.heap.size := by
    unfold World.shape? at hsh
    cases hg : W.heap[a.block]? with
    | none => rw [hg] at hsh; cases hsh
    | some o => exact (Array.getElem?_eq_some_iff.1 hg).1
  obtain ⟨b, o, sp⟩ := a
  simp only at hsp
  subst hsp
  exact ⟨b, o, len, ⟨rfl, rfl⟩, hb, by omega⟩

def fieldsOf (P : Program) (t : TypeId) : Option (List (TypeId × Nat)) := match P.underlying t with
  | some (.struct fs) => some (fs.toList.map fun f => (f.type, f.offset))
  | _ => none

section
variable {H : Type} {enc : TypeId × Value → H} {P : Program} {w : World} {base : Nat} {spare : Nat → Bool} {held : Bool}

theorem trod_fields {t : TypeId} {l : List (TypeId × Nat)} {fuel : Nat} {cs : List Value} {x : DataW H × List MemPlace} (ht : fieldsOf P t = some l) (h : DataW.trod enc P w base spare held fuel t cs = some x) :
    ∃ n, ∀ p ∈ l, ∃ y, DataW.trod enc P w base spare held n p.1 ((cs.drop p.2).take (P.cellsOf p.1)) = some y := by
  unfold fieldsOf at ht
  split at ht
  · rename_i fs hu
    cases ht
    obtain ⟨xs, n, _, _, _, hl, hf⟩ := DataW.trod_struct hu h
    refine ⟨n, fun p hp => ?_⟩
    obtain ⟨f, hfm, rfl⟩ := List.mem_map.1 hp
    obtain ⟨i, hi, rfl⟩ := List.mem_iff_getElem.1 hfm
    have hi' : i < fs.size := by simpa using hi
    refine ⟨xs[i]'(by omega), ?_⟩
    rw [hf i (fs.toList[i]) (by simp [hi'])]
    exact List.getElem?_eq_getElem _
  · cases ht

/-- A cell of an argument of a struct type. -/
theorem ok_struct {W : World} {b0 : Nat} {t : TypeId} {v : Value} {l : List (TypeId × Nat)} {ts : List TypeId} (ht : fieldsOf P t = some l) (hc : P.cellTypes P.depth t = some ts) (h : Value.okWide P W .any b0 t v) :
    ∃ cs : Array Value, v = .agg cs ∧ cs.size = P.cellsOf t ∧ ∀ i u, cs[i]? = some u → ∃ e, ts[i % ts.length]? = some e ∧ Cell.okWide P W .any b0 e u := by
  unfold fieldsOf at ht
  split at ht
  · rename_i fs hu
    unfold Value.okWide at h
    rw [hu] at h
    obtain ⟨cs, rfl, hs, ts', h1, _, h2⟩ := h
    rw [hc] at h1
    cases h1
    exact ⟨cs, rfl, hs, h2⟩
  · cases ht
end

/-- A law whose arguments are read out of the given memory. -/
theorem law_end {P : Program} {f : FuncId} {args : List Value} {W : World} (hl : LV id W.heap.size W args args) (h : ACalls P f args (given W) (fun v _ => v = .bool true ∧ True)) :
    Calls P f args.toArray W fun e W' => e = .returned (.bool true) ∧ Below W.heap.size W W' := by
  refine (h.2 W.heap.size id W args (given_rel W) hl).mono ?_
  rintro e w' ⟨v', v, H', ρ', rfl, ⟨rfl, _⟩, R', hV, E⟩
  rw [hV.bool]
  exact ⟨rfl, E.bl⟩
end Go.Abs
end

section
set_option linter.unusedSimpArgs false
set_option linter.unusedVariables false
namespace Go.Abs
open Go Go.RowKit

/-- A slice of slices of elements of k integers reads ll. -/
def Rd2 (k : Nat) (H : AH) (v : Value) (ll : List (List Int)) : Prop :=
  (ll = [] ∧ ∃ a c, v = .slice a 0 c ∧ (a = none → c = 0)) ∨ ∃ i o u c r, v = .slice (some ⟨i, o, u⟩) ll.length c ∧ H.row i = some r ∧
    ∀ j, j < ll.length → ∃ x m, r.cells[o + j]? = some x ∧ Rd k H x m (ll.getD j [])

/-- A slice of slices that is all of its row; the inner ones lie in disjoint ranges, apart from the outer one. -/
def Fr2 (k ty ty' lo hi : Nat) (H : AH) (v : Value) (ll : List (List Int)) : Prop :=
  (ll = [] ∧ v = .slice none 0 0) ∨ ∃ (i : Nat) (vs : List Value) (b : Nat → Nat), lo ≤ i ∧ i < hi ∧ v = .slice (some ⟨i, 0, some 1⟩) ll.length ll.length ∧ H.row i = some ⟨ty, true, vs⟩ ∧ vs.length = ll.length ∧
    lo ≤ b 0 ∧ b ll.length ≤ hi ∧ (i < b 0 ∨ b ll.length ≤ i) ∧ (∀ j, b j ≤ b (j + 1)) ∧ ∀ j, j < ll.length → ∃ x m, vs[j]? = some x ∧ Fr k ty' (b j) (b (j + 1)) H x m (ll.getD j [])

theorem mono_of_step {b : Nat → Nat} (h : ∀ j, b j ≤ b (j + 1)) {i j : Nat} (hij : i ≤ j) : b i ≤ b j := by
  induction hij with
  | refl => exact Nat.le_refl _
  | step _ ih => exact Nat.le_trans ih (h _)

theorem Fr2.rd {k ty ty' lo hi : Nat} {H : AH} {v : Value} {ll : List (List Int)} (h : Fr2 k ty ty' lo hi H v ll) : Rd2 k H v ll := by
  rcases h with ⟨h1, h2⟩ | ⟨i, vs, b, h1, h2, rfl, hr, hl, _, _, _, _, hj⟩
  · exact .inl ⟨h1, none, 0, h2, fun _ => rfl⟩
  · refine .inr ⟨i, 0, some 1, _, _, rfl, hr, fun j hjl => ?_⟩
    obtain ⟨x, m, hx, hf⟩ := hj j hjl
    exact ⟨x, m, by simpa using hx, hf.rd⟩

theorem Fr2.same {k ty ty' lo hi : Nat} {H H' : AH} {v : Value} {ll : List (List Int)} (h : Fr2 k ty ty' lo hi H v ll) (hs : ∀ i, lo ≤ i → i < hi → H'.row i = H.row i) : Fr2 k ty ty' lo hi H' v ll := by
  rcases h with h | ⟨i, vs, b, h1, h2, hv, hr, hl, h3, h4, h5, h6, hj⟩
  · exact .inl h
  · refine .inr ⟨i, vs, b, h1, h2, hv, by rw [hs i h1 h2]; exact hr, hl, h3, h4, h5, h6, fun j hjl => ?_⟩
    obtain ⟨x, m, hx, hf⟩ := hj j hjl
    have m1 := mono_of_step h6 (Nat.zero_le j)
    have m2 := mono_of_step h6 (show j + 1 ≤ ll.length from hjl)
    exact ⟨x, m, hx, hf.same fun y a1 a2 => hs y (by omega) (by omega)⟩

theorem Fr2.wide {k ty ty' lo hi lo' hi' : Nat} {H : AH} {v : Value} {ll : List (List Int)} (h : Fr2 k ty ty' lo hi H v ll) (a : lo' ≤ lo) (c : hi ≤ hi') : Fr2 k ty ty' lo' hi' H v ll := by
  rcases h with h | ⟨i, vs, b, h1, h2, hv, hr, hl, h3, h4, h5, h6, hj⟩
  · exact .inl h
  · exact .inr ⟨i, vs, b, by omega, by omega, hv, hr, hl, by omega, by omega, h5, h6, hj⟩

theorem Rd2.same {k : Nat} {H H' : AH} {v : Value} {ll : List (List Int)} (h : Rd2 k H v ll) (hs : ∀ i r, H.row i = some r → H'.row i = some r) : Rd2 k H' v ll := by
  rcases h with h | ⟨i, o, u, c, r, hv, hr, hj⟩
  · exact .inl h
  · refine .inr ⟨i, o, u, c, r, hv, hs _ _ hr, fun j hjl => ?_⟩
    obtain ⟨x, m, hx, hf⟩ := hj j hjl
    exact ⟨x, m, hx, hf.same hs⟩

theorem Rd2.len {k : Nat} {H : AH} {v : Value} {ll : List (List Int)} (h : Rd2 k H v ll) (H' : AH) : asSl v (.val (.int .i64 0) H') (fun _ _ _ n _ => .val (.int .i64 (n : Int)) H') = .val (.int .i64 (ll.length : Int)) H' := by
  rcases h with ⟨rfl, a, c, rfl, _⟩ | ⟨i, o, u, c, r, rfl, hr, h3⟩
  · cases a <;> rfl
  · rfl
theorem Rd2.one {k : Nat} {H : AH} {v : Value} {ll : List (List Int)} (h : Rd2 k H v ll) : v.oneCell' = true := by
  rcases h with ⟨_, a, c, rfl, _⟩ | ⟨i, o, u, c, r, rfl, _⟩ <;> rfl

theorem ok_one {r : Row} {v : Value} (h : v.oneCell' = true) : Row.ok r [v] := .inr fun u hu => by simp at hu; rw [hu]; exact h

theorem Rd2.get {k : Nat} {H : AH} {v : Value} {ll : List (List Int)} (h : Rd2 k H v ll) {j : Nat} (hj : j < ll.length) :
    ∃ i o u c r x m, v = .slice (some ⟨i, o, u⟩) ll.length c ∧ H.row i = some r ∧ r.cells[o + j]? = some x ∧ Rd k H x m (ll.getD j []) ∧ Row.ok r [x] := by
  rcases h with ⟨rfl, _⟩ | ⟨i, o, u, c, r, rfl, hr, h3⟩
  · simp at hj
  · obtain ⟨x, m, hx, hf⟩ := h3 j hj
    exact ⟨i, o, u, c, r, x, m, rfl, hr, hx, hf, ok_one hf.one⟩

/-- All the integers, one behind the other. -/
theorem Rd.lenK1 {n : Nat} {H : AH} {v : Value} {l : List Int} (h : Rd 1 H v n l) : n = l.length := by rw [h.1]; omega
theorem Fr.lenK1 {ty lo hi n : Nat} {H : AH} {v : Value} {l : List Int} (h : Fr 1 ty lo hi H v n l) : n = l.length := by rw [h.1]; omega

theorem ACalls.exH {P : Program} {f : FuncId} {args : List Value} {H : AH} {α : Type} {g : α → Value} {X : α → Prop} {R : Value → AH → Prop} (h : ACalls P f args H (fun v H' => ∃ u, v = g u ∧ H' = H ∧ X u)) (k : ∀ u, X u → R (g u) H) : ACalls P f args H R :=
  h.mono fun v H' hh => by obtain ⟨u, rfl, rfl, hx⟩ := hh; exact k _ hx

/-- How many integers in all. -/
def tot (ll : List (List Int)) : Nat := (ll.map List.length).sum
theorem tot_take_succ (ll : List (List Int)) (a : Nat) (ha : a < ll.length) : tot (ll.take (a + 1)) = tot (ll.take a) + (ll.getD a []).length := by
  unfold tot
  rw [List.take_add_one, List.map_append, List.sum_append, List.getElem?_eq_getElem ha, List.getD_eq_getElem?_getD, List.getElem?_eq_getElem ha]
  simp
theorem tot_take_le (ll : List (List Int)) (a : Nat) : tot (ll.take a) ≤ tot ll := by
  have h := List.take_append_drop a ll
  have : tot ll = tot (ll.take a) + tot (ll.drop a) := by
    unfold tot
    rw [← List.sum_append, ← List.map_append, h]
  omega
theorem tot_mem {ll : List (List Int)} {l : List Int} (h : l ∈ ll) : l.length ≤ tot ll := by
  unfold tot
  induction ll with
  | nil => cases h
  | cons x ll ih =>
    rw [List.map_cons, List.sum_cons]
    rcases List.mem_cons.1 h with rfl | h
    · omega
    · have := ih h; omega
theorem getD_mem {ll : List (List Int)} {a : Nat} (ha : a < ll.length) : ll.getD a [] ∈ ll := by
  rw [List.getD_eq_getElem?_getD, List.getElem?_eq_getElem ha]; exact List.getElem_mem _

theorem zeros_nil (n : Nat) : zeros n [.slice none 0 0] = List.replicate n (.slice none 0 0) := by
  unfold zeros
  induction n with
  | zero => rfl
  | succ n ih => simp only [List.replicate_succ, List.flatten_cons, ih]; rfl

/-- An append of one fresh slice to a fresh slice of slices. -/
theorem appE_fr2 {P : Program} {E : TI} {k ty ty' lo hi m : Nat} {H : AH} {v x : Value} {ll : List (List Int)} {l : List Int} {K : Value → AH → Prop} (h : Fr2 k ty ty' lo hi H v ll) (hx : Fr k ty' hi H.next H x m l) (hE : E.size = 1) (hb : E.bytes ≤ 32768) (hn : ll.length + 1 ≤ 4294967296) (hlo : lo ≤ hi) (hhi : hi ≤ H.next)
    (hK : ∀ v' H', H'.next = H.next + 1 → (∀ i, ¬(lo ≤ i ∧ i < hi) → i < H.next → H'.row i = H.row i) → Fr2 k ty ty' lo (H.next + 1) H' v' (ll ++ [l]) → K v' H') :
    runOut P H (appE E ty v [x] 1 H) K := by
  unfold appE
  rw [if_neg (by omega)]
  refine Holds.mp ?_
  rcases h with ⟨rfl, rfl⟩ | ⟨i, vs, b, h1, h2, rfl, hr, hvl, g0, gn, gi, gm, hj⟩ <;> rw [holds_def]
  · simp only [asSl_nil, runOut_need, runOut_val, hE]
    refine ⟨⟨by omega, hb⟩, hK _ _ rfl (fun i _ hi => by rw [AH.push_row, if_neg (by omega)]) (.inr ⟨H.next, [x], fun j => if j = 0 then hi else H.next, by omega, by omega, rfl, by rw [AH.push_row, if_pos rfl], rfl, ?_, ?_, .inr ?_, fun j => ?_, fun j hj => ?_⟩)⟩
    · dsimp only; rw [if_pos rfl]; exact hlo
    · dsimp only [List.nil_append, List.length_singleton]; rw [if_neg (by omega)]; omega
    · dsimp only [List.nil_append, List.length_singleton]; rw [if_neg (by omega)]; omega
    · dsimp only; split
      · rw [if_neg (by omega)]; exact hhi
      · rw [if_neg (by omega)]; omega
    · simp only [List.nil_append, List.length_singleton] at hj
      have : j = 0 := by omega
      subst this
      refine ⟨x, m, rfl, ?_⟩
      dsimp only
      rw [if_pos rfl, if_neg (by omega)]
      exact hx.same fun z _ hz => by rw [AH.push_row, if_neg (by omega)]
  · simp only [asSl_some, hr, bindO_some, runOut_need, Nat.zero_add, hE, Nat.mul_one]
    refine ⟨⟨hn, hb, by omega, .inl rfl⟩, ?_⟩
    rw [if_neg (by omega)]
    simp only [runOut_need, runOut_val]
    refine ⟨by simp, hK _ _ rfl (fun j hj hj2 => ?_) (.inr ⟨H.next, vs ++ [x], fun j => if j < ll.length then b j else if j = ll.length then hi else H.next, by omega, by omega, ?_, ?_, ?_, ?_, ?_, .inr ?_, fun j => ?_, fun j hjl => ?_⟩)⟩
    · rw [AH.push_row, if_neg (by rw [AH.drop_next]; omega), AH.drop_row, if_neg (by omega)]
    · rw [List.length_append]; rfl
    · rw [AH.push_row, AH.drop_next, if_pos rfl, seg_all _ _ hvl.symm]
    · rw [List.length_append, List.length_append, hvl]; rfl
    · dsimp only
      split
      · exact g0
      · split
        · exact hlo
        · omega
    · rw [List.length_append, List.length_singleton]
      dsimp only
      rw [if_neg (by omega), if_neg (by omega)]; omega
    · rw [List.length_append, List.length_singleton]
      dsimp only
      rw [if_neg (by omega), if_neg (by omega)]; omega
    · dsimp only
      by_cases c1 : j + 1 < ll.length
      · rw [if_pos (by omega), if_pos c1]; exact gm j
      · by_cases c2 : j + 1 = ll.length
        · rw [if_pos (by omega), if_neg c1, if_pos c2]
          have := mono_of_step gm (show j ≤ ll.length by omega); omega
        · by_cases c3 : j = ll.length
          · rw [if_neg (by omega), if_pos c3, if_neg c1, if_neg c2]; exact hhi
          · rw [if_neg (by omega), if_neg c3, if_neg c1, if_neg c2]; omega
    · rw [List.length_append, List.length_singleton] at hjl
      have old : ∀ z, lo ≤ z → z < H.next → ¬ z = i → ((H.drop i).push ⟨ty, true, seg vs 0 ll.length ++ [x]⟩).row z = H.row z := fun z _ z2 z3 => by
        rw [AH.push_row, if_neg (by rw [AH.drop_next]; omega), AH.drop_row, if_neg z3]
      by_cases c : j < ll.length
      · obtain ⟨y, q, hy, hf⟩ := hj j c
        refine ⟨y, q, by rw [List.getElem?_append_left (by omega), hy], ?_⟩
        have e1 : (ll ++ [l]).getD j [] = ll.getD j [] := by simp [List.getD_eq_getElem?_getD, List.getElem?_append_left c]
        rw [e1]
        have c1 := mono_of_step gm (Nat.zero_le j)
        have c2 := mono_of_step gm (show j + 1 ≤ ll.length by omega)
        have f1 : Fr k ty' (b j) (b (j + 1)) ((H.drop i).push ⟨ty, true, seg vs 0 ll.length ++ [x]⟩) y q (ll.getD j []) := hf.same fun z z1 z2 => old z (by omega) (by omega) (by omega)
        dsimp only
        rw [if_pos c]
        by_cases c3 : j + 1 < ll.length
        · rw [if_pos c3]; exact f1
        · rw [if_neg c3, if_pos (by omega)]; exact f1.wide (Nat.le_refl _) (by omega)
      · have c4 : j = ll.length := by omega
        subst c4
        refine ⟨x, m, by rw [← hvl, List.getElem?_append_right (Nat.le_refl _)]; simp, ?_⟩
        have e1 : (ll ++ [l]).getD ll.length [] = l := by simp [List.getD_eq_getElem?_getD]
        rw [e1]
        dsimp only
        rw [if_neg (by omega), if_pos rfl, if_neg (by omega), if_neg (by omega)]
        exact hx.same fun z z1 z2 => old z (by omega) z2 (by omega)

theorem zeros_two (z : List Value) : zeros 2 z = z ++ z := by simp [zeros, List.replicate_succ]
end Go.Abs
end

section
set_option linter.unusedSimpArgs false
set_option linter.unusedVariables false
namespace Go.Abs
/-- The pairs of the first k teams. -/
def pairsL (r : List Int) (k : Nat) : List (List Int) := ((List.range k).filter fun (a : Nat) => decide ((a : Int) < r.getD a 0)).map fun (a : Nat) => [(a : Int), r.getD a 0]
theorem pairsL_zero (r : List Int) : pairsL r 0 = [] := rfl
theorem pairsL_yes (r : List Int) (k : Nat) (h : (k : Int) < r.getD k 0) : pairsL r (k + 1) = pairsL r k ++ [[(k : Int), r.getD k 0]] := by
  unfold pairsL; rw [List.range_succ, List.filter_append, List.map_append]; simp [-List.getD_eq_getElem?_getD, h]
theorem pairsL_no (r : List Int) (k : Nat) (h : ¬ (k : Int) < r.getD k 0) : pairsL r (k + 1) = pairsL r k := by
  unfold pairsL; rw [List.range_succ, List.filter_append, List.map_append]; simp [-List.getD_eq_getElem?_getD, h]
theorem pairsL_le (r : List Int) (k : Nat) : (pairsL r k).length ≤ k := by
  unfold pairsL; rw [List.length_map]; exact Nat.le_trans (List.length_filter_le _ _) (by simp)

/-- One round's results are right. -/
def resAt (n : Nat) (r : List Int) (x : List Int) : Bool := (x.length == (pairsL r n).length) && (List.range x.length).all fun j => decide (0 ≤ x.getD j 0 ∧ x.getD j 0 ≤ 2)
def resB (n k : Nat) (l : List Int) (ll : List (List Int)) : Bool := decide (ll.length ≤ k) && (List.range ll.length).all fun i => resAt n (rnd l i) (ll.getD i [])
theorem resB_bad {n k : Nat} {l : List Int} {ll : List (List Int)} {i : Nat} (hi : i < ll.length) (h : resAt n (rnd l i) (ll.getD i []) = false) : resB n k l ll = false := by
  unfold resB; rw [all_false_of (p := fun i => resAt n (rnd l i) (ll.getD i [])) hi h, Bool.and_false]
theorem resB_good {n k : Nat} {l : List Int} {ll : List (List Int)} (hk : ll.length ≤ k) (h : ∀ i, i < ll.length → resAt n (rnd l i) (ll.getD i []) = true) : resB n k l ll = true := by
  unfold resB; rw [all_true_of (p := fun i => resAt n (rnd l i) (ll.getD i [])) h, Bool.and_true]; simpa using hk
theorem resAt_any (n : Nat) (r x : List Int) : resAt n r x = ((x.length == (pairsL r n).length) && !((List.range x.length).any fun j => !decide (0 ≤ x.getD j 0 ∧ x.getD j 0 ≤ 2))) := by
  unfold resAt; congr 1; rw [List.not_any_eq_all_not]; simp only [Bool.not_not]
end Go.Abs
end

section
set_option linter.unusedSimpArgs false
set_option linter.unusedVariables false
namespace Go.Abs

/-- The points of the first team of a pair. -/
def wonI (v : Int) : Int := if v = 1 then 2 else if v = 2 then 0 else 1
/-- A meeting as one of its teams sees it: round, own number, the other one's, own points. -/
abbrev Ev := Nat × Int × Int × Int
def evPair (i : Nat) (p : List Int) (o : Int) : List Ev := [(i, p.getD 0 0, p.getD 1 0, o), (i, p.getD 1 0, p.getD 0 0, 2 - o)]
/-- The first k pairs of a round. -/
def evRound (n i : Nat) (r x : List Int) (k : Nat) : List Ev := (List.range k).flatMap fun j => evPair i ((pairsL r n).getD j []) (wonI (x.getD j 0))
theorem evRound_zero (n i : Nat) (r x : List Int) : evRound n i r x 0 = [] := rfl
theorem evRound_succ (n i : Nat) (r x : List Int) (k : Nat) : evRound n i r x (k + 1) = evRound n i r x k ++ evPair i ((pairsL r n).getD k []) (wonI (x.getD k 0)) := by
  simp [evRound, List.range_succ]
/-- The first m rounds. -/
def meets (n : Nat) (l : List Int) (ll : List (List Int)) (m : Nat) : List Ev := (List.range m).flatMap fun i => evRound n i (rnd l i) (ll.getD i []) (pairsL (rnd l i) n).length
theorem meets_zero (n : Nat) (l : List Int) (ll : List (List Int)) : meets n l ll 0 = [] := rfl
theorem meets_succ (n : Nat) (l : List Int) (ll : List (List Int)) (m : Nat) : meets n l ll (m + 1) = meets n l ll m ++ evRound n m (rnd l m) (ll.getD m []) (pairsL (rnd l m) n).length := by
  simp [meets, List.range_succ]

/-- A pair of a round that is right. -/
theorem pairsL_get (r : List Int) (n k : Nat) (h : k < (pairsL r n).length) : ∃ a : Nat, a < n ∧ (a : Int) < r.getD a 0 ∧ (pairsL r n).getD k [] = [(a : Int), r.getD a 0] := by
  unfold pairsL at h ⊢
  rw [List.length_map] at h
  have e : (List.map (fun (a : Nat) => [(a : Int), r.getD a 0]) ((List.range n).filter fun (a : Nat) => decide ((a : Int) < r.getD a 0))).getD k [] = [((((List.range n).filter fun (a : Nat) => decide ((a : Int) < r.getD a 0))[k] : Nat) : Int), r.getD (((List.range n).filter fun (a : Nat) => decide ((a : Int) < r.getD a 0))[k]) 0] := by
    rw [List.getD_eq_getElem?_getD, List.getElem?_map, List.getElem?_eq_getElem h]; rfl
  have hm := List.getElem_mem h
  generalize ((List.range n).filter fun (a : Nat) => decide ((a : Int) < r.getD a 0))[k] = a at e hm
  obtain ⟨h1, h2⟩ := List.mem_filter.1 hm
  exact ⟨a, by simpa using h1, of_decide_eq_true h2, e⟩
theorem roundB_at {n : Int} {r : List Int} (h : roundB n r = true) {a : Nat} (ha : (a : Int) < n) : (2 ≤ n ∧ n ≤ 14) ∧ 0 ≤ r.getD a 0 ∧ r.getD a 0 < n ∧ r.getD (r.getD a 0).toNat 0 = a := by
  unfold roundB at h
  rw [Bool.and_eq_true] at h
  have h1 := of_decide_eq_true h.1
  have h2 := (List.all_eq_true.1 h.2) a (by simp; omega)
  unfold okAt at h2
  rw [if_neg (by omega), Bool.and_eq_true] at h2
  have h3 := of_decide_eq_true h2.1
  exact ⟨h1, h3.1, by omega, by simpa using h2.2⟩
theorem schedB_at {n : Int} {k : Nat} {l : List Int} (h : schedB n k l = true) : (2 ≤ n ∧ n ≤ 14) ∧ k ≤ 40 ∧ ∀ i, i < k → roundB n (rnd l i) = true := by
  unfold schedB at h
  rw [Bool.and_eq_true, Bool.and_eq_true] at h
  exact ⟨of_decide_eq_true h.1.1, of_decide_eq_true h.1.2, fun i hi => (List.all_eq_true.1 h.2) i (by simpa using hi)⟩
theorem resB_at {n k : Nat} {l : List Int} {ll : List (List Int)} (h : resB n k l ll = true) : ll.length ≤ k ∧ ∀ i, i < ll.length → (ll.getD i []).length = (pairsL (rnd l i) n).length ∧ ∀ j, j < (ll.getD i []).length → 0 ≤ (ll.getD i []).getD j 0 ∧ (ll.getD i []).getD j 0 ≤ 2 := by
  unfold resB at h
  rw [Bool.and_eq_true] at h
  refine ⟨of_decide_eq_true h.1, fun i hi => ?_⟩
  have h2 := (List.all_eq_true.1 h.2) i (by simpa using hi)
  unfold resAt at h2
  rw [Bool.and_eq_true] at h2
  exact ⟨by simpa using h2.1, fun j hj => of_decide_eq_true ((List.all_eq_true.1 h2.2) j (by simpa using hj))⟩
theorem wonI_range (v : Int) : 0 ≤ wonI v ∧ wonI v ≤ 2 := by
  unfold wonI
  split
  · omega
  · split <;> omega

/-- To one number something is added. -/
def addAt (l : List Int) (a z : Int) : List Int := l.set a.toNat (IntKind.i64.wrap (l.getD a.toNat 0 + z))
theorem addAt_length (l : List Int) (a z : Int) : (addAt l a z).length = l.length := by simp [addAt]
def sumsF (n : Nat) (f : Int → Int → Int) (es : List Ev) : List Int := es.foldl (fun l e => addAt l e.2.1 (f e.2.2.1 e.2.2.2)) (List.replicate n 0)
theorem sumsF_nil (n : Nat) (f : Int → Int → Int) : sumsF n f [] = List.replicate n 0 := rfl
theorem sumsF_append (n : Nat) (f : Int → Int → Int) (es : List Ev) (e : Ev) : sumsF n f (es ++ [e]) = addAt (sumsF n f es) e.2.1 (f e.2.2.1 e.2.2.2) := by simp [sumsF]
theorem sumsF_length (n : Nat) (f : Int → Int → Int) (es : List Ev) : (sumsF n f es).length = n := by
  unfold sumsF
  have : ∀ (es : List Ev) (l : List Int), (es.foldl (fun l e => addAt l e.2.1 (f e.2.2.1 e.2.2.2)) l).length = l.length := by
    intro es
    induction es with
    | nil => intro l; rfl
    | cons e es ih => intro l; rw [List.foldl_cons, ih, addAt_length]
  rw [this, List.length_replicate]

theorem wrap_range (n : Int) : -9223372036854775808 ≤ IntKind.i64.wrap n ∧ IntKind.i64.wrap n ≤ 9223372036854775807 := by
  unfold IntKind.wrap
  simp only [IntKind.bits, IntKind.signed]
  simp only [Bool.true_and, decide_eq_true_eq, Nat.reduceSub, Int.reducePow]
  split
  · rename_i hh; have hh' : (9223372036854775808 : Int) ≤ n % 18446744073709551616 := of_decide_eq_true hh; omega
  · rename_i hh; have hh' : ¬ (9223372036854775808 : Int) ≤ n % 18446744073709551616 := fun k => hh (decide_eq_true k); omega
theorem set_range {l : List Int} {k : Nat} {z : Int} (hl : ∀ j, -9223372036854775808 ≤ l.getD j 0 ∧ l.getD j 0 ≤ 9223372036854775807) (hz : -9223372036854775808 ≤ z ∧ z ≤ 9223372036854775807) : ∀ j, -9223372036854775808 ≤ (l.set k z).getD j 0 ∧ (l.set k z).getD j 0 ≤ 9223372036854775807 := by
  intro j
  rw [List.getD_eq_getElem?_getD, List.getElem?_set]
  by_cases h : k = j
  · rw [if_pos h]
    split
    · simpa using hz
    · simp
  · rw [if_neg h, ← List.getD_eq_getElem?_getD]; exact hl j
theorem sumsF_range (n : Nat) (f : Int → Int → Int) (es : List Ev) : ∀ j, -9223372036854775808 ≤ (sumsF n f es).getD j 0 ∧ (sumsF n f es).getD j 0 ≤ 9223372036854775807 := by
  unfold sumsF
  have : ∀ (es : List Ev) (l : List Int), (∀ j, -9223372036854775808 ≤ l.getD j 0 ∧ l.getD j 0 ≤ 9223372036854775807) → ∀ j, -9223372036854775808 ≤ (es.foldl (fun l e => addAt l e.2.1 (f e.2.2.1 e.2.2.2)) l).getD j 0 ∧ (es.foldl (fun l e => addAt l e.2.1 (f e.2.2.1 e.2.2.2)) l).getD j 0 ≤ 9223372036854775807 := by
    intro es
    induction es with
    | nil => intro l h; exact h
    | cons e es ih => intro l h; rw [List.foldl_cons]; exact ih _ (set_range h (wrap_range _))
  refine this es _ fun j => ?_
  rw [List.getD_eq_getElem?_getD, List.getElem?_replicate]
  split <;> simp
theorem sumsF_congr {n : Nat} {f g : Int → Int → Int} (h : ∀ a b, f a b = g a b) (es : List Ev) : sumsF n f es = sumsF n g es := by
  have : f = g := by funext a b; exact h a b
  rw [this]
end Go.Abs
end

section
set_option linter.unusedSimpArgs false
set_option linter.unusedVariables false
namespace Go.Abs

def zeroM (n : Nat) : List (List Int) := List.replicate n (List.replicate n 0)
def incR (row : List Int) (b : Int) : List Int := row.set b.toNat (IntKind.i64.wrap (row.getD b.toNat 0 + 1))
theorem incR_length (row : List Int) (b : Int) : (incR row b).length = row.length := by simp [incR]
def incM (M : List (List Int)) (a b : Int) : List (List Int) := M.set a.toNat (incR (M.getD a.toNat []) b)
def SqM (n : Nat) (M : List (List Int)) : Prop := M.length = n ∧ ∀ j, j < n → (M.getD j []).length = n
theorem zeroM_sq (n : Nat) : SqM n (zeroM n) := ⟨by simp [zeroM], fun j hj => by simp [zeroM, List.getD_eq_getElem?_getD, List.getElem?_replicate, hj]⟩
theorem SqM.inc {n : Nat} {M : List (List Int)} (h : SqM n M) {a b : Int} (ha : a.toNat < n) : SqM n (incM M a b) := by
  refine ⟨by simp [incM, h.1], fun j hj => ?_⟩
  unfold incM
  by_cases e : j = a.toNat
  · subst e
    rw [List.getD_eq_getElem?_getD, List.getElem?_set_self (by rw [h.1]; exact ha)]
    show (incR _ b).length = n
    rw [incR_length, h.2 _ ha]
  · rw [List.getD_eq_getElem?_getD, List.getElem?_set_ne (by omega), ← List.getD_eq_getElem?_getD, h.2 _ hj]
theorem SqM.mem {n : Nat} {M : List (List Int)} (h : SqM n M) : ∀ y ∈ M, y.length = n := by
  intro y hy
  obtain ⟨j, hj, rfl⟩ := List.mem_iff_getElem.1 hy
  have := h.2 j (by rw [← h.1]; exact hj)
  rw [List.getD_eq_getElem?_getD, List.getElem?_eq_getElem hj] at this
  exact this
theorem SqM.tot {n : Nat} {M : List (List Int)} (h : SqM n M) : Abs.tot M = n * n := by
  have h1 := h.1
  have h2 := h.mem
  clear h
  have : ∀ (M : List (List Int)), (∀ y ∈ M, y.length = n) → Abs.tot M = M.length * n := by
    intro M
    induction M with
    | nil => intro _; simp [Abs.tot]
    | cons x M ih =>
      intro h
      have e : Abs.tot (x :: M) = x.length + Abs.tot M := by simp [Abs.tot]
      rw [e, ih fun y hy => h y (List.mem_cons_of_mem _ hy), h x List.mem_cons_self, List.length_cons, Nat.succ_mul, Nat.add_comm]
  rw [this M h2, h1]

theorem foldl_range_succ {α : Type} (f : α → Nat → α) (s : α) (n : Nat) : (List.range (n + 1)).foldl f s = f ((List.range n).foldl f s) n := by
  rw [List.range_succ, List.foldl_append]; rfl

/-! How often teams meet. -/
def rowStep (l : List Int) (a : Nat) (row : List Int) (i : Nat) : List Int := if (rnd l i).getD a 0 = a then row else incR row ((rnd l i).getD a 0)
def rowM (n : Nat) (l : List Int) (a i : Nat) : List Int := (List.range i).foldl (rowStep l a) (List.replicate n 0)
theorem rowM_zero (n : Nat) (l : List Int) (a : Nat) : rowM n l a 0 = List.replicate n 0 := rfl
theorem rowM_succ (n : Nat) (l : List Int) (a i : Nat) : rowM n l a (i + 1) = rowStep l a (rowM n l a i) i := foldl_range_succ _ _ _
theorem rowM_length (n : Nat) (l : List Int) (a i : Nat) : (rowM n l a i).length = n := by
  induction i with
  | zero => simp [rowM]
  | succ i ih => rw [rowM_succ]; unfold rowStep; split <;> simp [incR_length, ih]
/-- The matrix while round i is looked at, teams below c having been looked at. -/
def midM (n : Nat) (l : List Int) (i c : Nat) : List (List Int) := (List.range n).map fun a => rowM n l a (if a < c then i + 1 else i)
def meetM (n : Nat) (l : List Int) (k : Nat) : List (List Int) := (List.range n).map fun a => rowM n l a k
theorem midM_zero (n : Nat) (l : List Int) (i : Nat) : midM n l i 0 = meetM n l i := by
  unfold midM meetM; apply List.map_congr_left; intro a _; rw [if_neg (by omega)]
theorem midM_all (n : Nat) (l : List Int) (i : Nat) : midM n l i n = meetM n l (i + 1) := by
  unfold midM meetM; apply List.map_congr_left; intro a ha; rw [if_pos (by simpa using ha)]
theorem meetM_zero (n : Nat) (l : List Int) : meetM n l 0 = zeroM n := by
  unfold meetM zeroM
  exact List.eq_replicate_iff.2 ⟨by simp, by intro b hb; obtain ⟨a, _, rfl⟩ := List.mem_map.1 hb; rfl⟩
theorem midM_sq (n : Nat) (l : List Int) (i c : Nat) : SqM n (midM n l i c) := ⟨by simp [midM], fun j hj => by simp [midM, List.getD_eq_getElem?_getD, hj, rowM_length]⟩
theorem meetM_sq (n : Nat) (l : List Int) (k : Nat) : SqM n (meetM n l k) := by rw [← midM_zero]; exact midM_sq _ _ _ _
theorem midM_getD (n : Nat) (l : List Int) (i c a : Nat) (h : a < n) : (midM n l i c).getD a [] = rowM n l a (if a < c then i + 1 else i) := by simp [midM, List.getD_eq_getElem?_getD, h]
theorem midM_same {n : Nat} {l : List Int} {i c : Nat} (hc : c < n) (h : (rnd l i).getD c 0 = c) : midM n l i (c + 1) = midM n l i c := by
  unfold midM
  apply List.map_congr_left
  intro a _
  by_cases e : a = c
  · subst e
    rw [if_pos (by omega), if_neg (by omega), rowM_succ]
    unfold rowStep
    rw [if_pos h]
  · by_cases e2 : a < c
    · rw [if_pos (by omega), if_pos e2]
    · rw [if_neg (by omega), if_neg e2]
theorem midM_inc {n : Nat} {l : List Int} {i c : Nat} (hc : c < n) (h : ¬ (rnd l i).getD c 0 = c) : midM n l i (c + 1) = incM (midM n l i c) c ((rnd l i).getD c 0) := by
  unfold incM
  rw [Int.toNat_natCast, midM_getD _ _ _ _ _ hc, if_neg (by omega)]
  apply List.ext_getElem?
  intro j
  rw [List.getElem?_set]
  by_cases e : c = j
  · subst e
    rw [if_pos rfl, if_pos (by rw [(midM_sq n l i c).1]; exact hc)]
    unfold midM
    rw [List.getElem?_map, List.getElem?_range hc]
    simp only [Option.map_some]
    rw [if_pos (by omega), rowM_succ]
    unfold rowStep
    rw [if_neg h]
  · rw [if_neg e]
    unfold midM
    rw [List.getElem?_map, List.getElem?_map]
    by_cases hj : j < n
    · rw [List.getElem?_range hj]
      simp only [Option.map_some]
      by_cases e2 : j < c
      · rw [if_pos (by omega), if_pos e2]
      · rw [if_neg (by omega), if_neg e2]
    · rw [List.getElem?_eq_none (by simpa using hj)]; rfl

/-! The carry over matrix. -/
def carT (n k : Nat) (l : List Int) (i t : Nat) (M : List (List Int)) : List (List Int) := (List.range t).foldl (fun M x => incM M ((rnd l i).getD x 0) ((rnd l ((i + 1) % k)).getD x 0)) M
def carM (n k : Nat) (l : List Int) (i : Nat) : List (List Int) := (List.range i).foldl (fun M i => carT n k l i n M) (zeroM n)
theorem carT_zero (n k : Nat) (l : List Int) (i : Nat) (M : List (List Int)) : carT n k l i 0 M = M := rfl
theorem carT_succ (n k : Nat) (l : List Int) (i t : Nat) (M : List (List Int)) : carT n k l i (t + 1) M = incM (carT n k l i t M) ((rnd l i).getD t 0) ((rnd l ((i + 1) % k)).getD t 0) := foldl_range_succ _ _ _
theorem carM_zero (n k : Nat) (l : List Int) : carM n k l 0 = zeroM n := rfl
theorem carM_succ (n k : Nat) (l : List Int) (i : Nat) : carM n k l (i + 1) = carT n k l i n (carM n k l i) := foldl_range_succ _ _ _
theorem carT_sq {n k : Nat} {l : List Int} {i : Nat} {M : List (List Int)} (h : SqM n M) (hr : ∀ x, x < n → ((rnd l i).getD x 0).toNat < n) : ∀ t, t ≤ n → SqM n (carT n k l i t M)
  | 0, _ => h
  | t + 1, ht => by rw [carT_succ]; exact (carT_sq h hr t (by omega)).inc (hr t (by omega))
theorem carM_sq {n k : Nat} {l : List Int} (hr : ∀ i, i < k → ∀ x, x < n → ((rnd l i).getD x 0).toNat < n) : ∀ i, i ≤ k → SqM n (carM n k l i)
  | 0, _ => zeroM_sq n
  | i + 1, hi => by rw [carM_succ]; exact carT_sq (carM_sq hr i (by omega)) (hr i (by omega)) n (Nat.le_refl _)

/-! Cost and balance. -/
def sqStep (s x : Int) : Int := IntKind.i64.wrap (s + IntKind.i64.wrap (x * x))
def costR (row : List Int) (s : Int) (j : Nat) : Int := (List.range j).foldl (fun s j => sqStep s (row.getD j 0)) s
def costM (M : List (List Int)) (i : Nat) : Int := (List.range i).foldl (fun s i => costR (M.getD i []) s (M.getD i []).length) 0
theorem costR_zero (row : List Int) (s : Int) : costR row s 0 = s := rfl
theorem costR_succ (row : List Int) (s : Int) (j : Nat) : costR row s (j + 1) = sqStep (costR row s j) (row.getD j 0) := foldl_range_succ _ _ _
theorem costM_zero (M : List (List Int)) : costM M 0 = 0 := rfl
theorem costM_succ (M : List (List Int)) (i : Nat) : costM M (i + 1) = costR (M.getD i []) (costM M i) (M.getD i []).length := foldl_range_succ _ _ _

/-- Off the diagonal all numbers are 1. -/
def balAt (M : List (List Int)) (i j : Nat) : Bool := decide (i = j) || (M.getD i []).getD j 0 == 1
def balB (M : List (List Int)) : Bool := (List.range M.length).all fun i => (List.range (M.getD i []).length).all fun j => balAt M i j
theorem balB_bad {M : List (List Int)} {i j : Nat} (hi : i < M.length) (hj : j < (M.getD i []).length) (h : balAt M i j = false) : balB M = false := by
  unfold balB
  exact all_false_of hi (all_false_of hj h)
theorem balB_good {M : List (List Int)} (h : ∀ i, i < M.length → ∀ j, j < (M.getD i []).length → balAt M i j = true) : balB M = true := by
  unfold balB
  exact all_true_of fun i hi => all_true_of fun j hj => h i hi j hj
/-- Is it a round robin? -/
def robinB (n k : Nat) (l : List Int) : Bool := decide (k = n - 1 + n % 2) && balB (meetM n l k)
/-- The code of what has to be a round robin of an even number of teams. -/
def codeC (q : Int) (k : Nat) (l : List Int) : Int := if schedB q k l = true then (if (decide (q.toNat % 2 = 1) || !robinB q.toNat k l) = true then 5 else 0) else 1
theorem rnd_toNat {n k : Nat} {l : List Int} (hb : schedB n k l = true) : ∀ i, i < k → ∀ x, x < n → ((rnd l i).getD x 0).toNat < n := by
  intro i hi x hx
  have h := (roundB_at ((schedB_at hb).2.2 i hi) (a := x) (by omega)).2
  omega
end Go.Abs
end

section
set_option linter.unusedSimpArgs false
set_option linter.unusedVariables false
namespace Go.Abs
open Go Go.RowKit

theorem given_cell {w : World} {b j : Nat} {u : Value} (h : w.cell? ⟨b, j, none⟩ = some u) : b < w.heap.size ∧ (given w).row b = some ⟨0, false, absRow w b⟩ ∧ (absRow w b)[j]? = some (absV w.heap.size u) := by
  have h1 := h
  unfold World.cell? at h1
  split at h1
  · rename_i cs t fr he
    have hb : b < w.heap.size := (Array.getElem?_eq_some_iff.1 he).1
    have hk : bsz w b = some cs.size := by simp [bsz, he]
    have h2 : cs[j]? = some u := by simpa using h1
    have h3 : j < cs.size := (Array.getElem?_eq_some_iff.1 h2).1
    refine ⟨hb, by simp [given, hb], ?_⟩
    simp only [absRow, hk, List.getElem?_map]
    rw [List.getElem?_range h3]
    simp only [Option.map_some, h]
  · cases h1

section
variable {H : Type} {enc : TypeId × Value → H} {P : Program} {w : World} {base : Nat} {spare : Nat → Bool} {held : Bool}

theorem trod_elem {e : TypeId} (hi : P.underlying e = some (.int .i64)) (hc : P.cellsOf e = 1) {a : Addr} {m : Nat} {y : DataW H × List MemPlace}
    (h : (w.cells? base a (P.cellsOf e)).bind (DataW.trod enc P w base spare held m e) = some y) : ∃ z, w.cell? a = some (.int .i64 z) := by
  rw [hc, Option.bind_eq_some_iff] at h
  obtain ⟨cs, h1, h2⟩ := h
  obtain ⟨z, rfl, _⟩ := DataW.trod_int hi h2
  obtain ⟨_, _, hcc⟩ := World.cells?_some h1
  have h3 := hcc 0 (by omega)
  have e : a.add 0 = a := by obtain ⟨b, o, s⟩ := a; rfl
  rw [e] at h3
  exact ⟨z, h3⟩

/-- A cell of the given memory that is a slice of integers. -/
theorem trod_inner {e i : TypeId} {fuel : Nat} {u : Value} {y : DataW H × List MemPlace} (he : P.underlying e = some (.slice i)) (hi : P.underlying i = some (.int .i64)) (hci : P.cellsOf i = 1) (hw : 0 < w.heap.size)
    (h : DataW.trod enc P w base spare held fuel e [u] = some y) : ∃ m l, Rd 1 (given w) (absV w.heap.size u) m l ∧ l.length ≤ maxLen := by
  rcases DataW.trod_slice he h with ⟨h0, _⟩ | ⟨a, len, cap, elems, rest, m, _, hcs, _, _, hl, hcap, hlen, hel, _, _⟩
  · simp only [List.cons.injEq, and_true] at h0
    subst h0
    exact ⟨0, [], ⟨by simp, .inl ⟨rfl, none, 0, rfl, fun _ => rfl⟩⟩, by simp⟩
  · simp only [List.cons.injEq, and_true] at hcs
    subst hcs
    by_cases h0 : len = 0
    · subst h0
      refine ⟨0, [], ⟨by simp, .inl ⟨rfl, some ⟨0, 1, some 0⟩, cap, ?_, fun h => by cases h⟩⟩, by simp⟩
      have : scal (.slice (some a) 0 cap) = false := rfl
      unfold absV
      rw [if_neg (by rw [this]; simp)]
      simp only [hw, if_true]
    · have each : ∀ j, j < len → ∃ z, w.cell? (a.add j) = some (.int .i64 z) := by
        intro j hj
        have h1 := hel j hj
        rw [List.getElem?_eq_getElem (by omega), hci, Nat.mul_one, ← hci] at h1
        exact trod_elem hi hci h1
      obtain ⟨b, o, s⟩ := a
      have hs : s = none := by
        obtain ⟨z, hz⟩ := each 0 (by omega)
        unfold World.cell? at hz
        split at hz
        · split at hz
          · cases hz
          · rename_i hh
            cases s with
            | none => rfl
            | some z => exact absurd rfl hh
        · cases hz
      subst hs
      have each2 : ∀ j, j < len → ∃ z, w.cell? ⟨b, o + j, none⟩ = some (.int .i64 z) := fun j hj => by
        obtain ⟨z, hz⟩ := each j hj
        exact ⟨z, by rw [← hz, Addr.add_lit]⟩
      have hb : b < w.heap.size := by
        obtain ⟨z, hz⟩ := each2 0 (by omega)
        exact (given_cell hz).1
      let zs : List Int := (List.range (len * 1)).map fun j => match w.cell? ⟨b, o + j, none⟩ with | some (.int _ z) => z | _ => 0
      have hzl : zs.length = len * 1 := by simp [zs]
      refine ⟨len, zs, ?_, by rw [hzl]; omega⟩
      have ea : absV w.heap.size (.slice (some ⟨b, o, none⟩) len cap) = .slice (some ⟨b, o, none⟩) len cap := by
        have : scal (.slice (some ⟨b, o, none⟩) len cap) = false := rfl
        unfold absV
        rw [if_neg (by rw [this]; simp)]
        split
        · rename_i h; cases h; exact absurd rfl h0
        · rename_i h; cases h; rw [if_pos hb]
        · rename_i h1 h2; exact absurd rfl (h2 _ _ _ _)
      rw [ea]
      refine given_rd (by omega) hb hzl fun j hj => ?_
      obtain ⟨z, hz⟩ := each2 j (by omega)
      rw [hz]
      simp [zs, show j < len by omega, hz]

/-- A slice of slices of integers. -/
theorem trod_lists {t e i : TypeId} {fuel : Nat} {x : DataW H × List MemPlace} {v : Value} (ht : P.underlying t = some (.slice e)) (he : P.underlying e = some (.slice i)) (hi : P.underlying i = some (.int .i64)) (hce : P.cellsOf e = 1) (hci : P.cellsOf i = 1)
    (h : DataW.trod enc P w base spare held fuel t [v] = some x) (hv : v = .slice none 0 0 ∨ ∃ b o n c, v = .slice (some ⟨b, o, none⟩) n c ∧ b < w.heap.size ∧ n ≤ 9223372036854775807) :
    ∃ ll, Rd2 1 (given w) v ll ∧ V1 id w.heap.size w v v ∧ ll.length ≤ 9223372036854775807 ∧ ∀ y ∈ ll, y.length ≤ maxLen := by
  rcases hv with rfl | ⟨b, o, n, c, rfl, hb, hn⟩
  · exact ⟨[], .inl ⟨rfl, none, 0, rfl, fun _ => rfl⟩, .scal _ rfl, by simp, by simp⟩
  · rcases DataW.trod_slice ht h with ⟨h0, _⟩ | ⟨a, len, cap, elems, rest, m, _, hcs, _, _, _, _, hlen, hel, _, _⟩
    · simp at h0
    · simp only [List.cons.injEq, Value.slice.injEq, Option.some.injEq, and_true] at hcs
      obtain ⟨rfl, rfl, rfl⟩ := hcs
      have each : ∀ j, j < n → ∃ u q l, w.cell? ⟨b, o + j, none⟩ = some u ∧ Rd 1 (given w) (absV w.heap.size u) q l ∧ l.length ≤ maxLen := by
        intro j hj
        have h1 := hel j hj
        rw [List.getElem?_eq_getElem (by omega), hce, Nat.mul_one, Option.bind_eq_some_iff] at h1
        obtain ⟨cs, hc1, hc2⟩ := h1
        obtain ⟨_, hl, hc⟩ := World.cells?_some hc1
        match cs, hl with
        | [u], _ =>
          obtain ⟨q, l, hr, hle⟩ := trod_inner he hi hci (by omega) hc2
          refine ⟨u, q, l, ?_, hr, hle⟩
          have := hc 0 (by omega)
          rw [Addr.add_lit, Addr.add_lit] at this
          simpa using this
      by_cases h0 : n = 0
      · subst h0
        exact ⟨[], .inl ⟨rfl, _, c, rfl, fun h => by cases h⟩, V1.sle (ρ := id) b o 0 c hb, by simp, by simp⟩
      · let f : Nat → List Int := fun j => if hj : j < n then Classical.choose (Classical.choose_spec (Classical.choose_spec (each j hj))) else []
        have hf : ∀ j, j < n → ∃ u q, w.cell? ⟨b, o + j, none⟩ = some u ∧ Rd 1 (given w) (absV w.heap.size u) q (f j) ∧ (f j).length ≤ maxLen := by
          intro j hj
          have h3 := Classical.choose_spec (Classical.choose_spec (Classical.choose_spec (each j hj)))
          have ef : f j = Classical.choose (Classical.choose_spec (Classical.choose_spec (each j hj))) := by simp only [f, dif_pos hj]
          rw [ef]
          exact ⟨_, _, h3⟩
        refine ⟨(List.range n).map f, .inr ⟨b, o, none, c, ⟨0, false, absRow w b⟩, by simp, by simp [given, hb], fun j hj => ?_⟩, V1.sle (ρ := id) b o n c hb, by simpa using hn, fun y hy => ?_⟩
        · have hj' : j < n := by simpa using hj
          obtain ⟨u, q, h1, h2, _⟩ := hf j hj'
          refine ⟨_, q, (given_cell h1).2.2, ?_⟩
          have : ((List.range n).map f).getD j [] = f j := by simp [hj']
          rw [this]; exact h2
        · obtain ⟨j, hj, rfl⟩ := List.mem_map.1 hy
          obtain ⟨_, _, _, _, h3⟩ := hf j (by simpa using hj)
          exact h3
end

/-- One of the inner slices of a fresh slice of slices. -/
theorem Fr2.getF {k ty ty' lo hi : Nat} {H : AH} {v : Value} {ll : List (List Int)} (h : Fr2 k ty ty' lo hi H v ll) {j : Nat} (hj : j < ll.length) :
    ∃ i vs x m b c, v = .slice (some ⟨i, 0, some 1⟩) ll.length ll.length ∧ lo ≤ i ∧ i < hi ∧ H.row i = some ⟨ty, true, vs⟩ ∧ vs.length = ll.length ∧ vs[j]? = some x ∧ lo ≤ b ∧ c ≤ hi ∧ Fr k ty' b c H x m (ll.getD j []) := by
  rcases h with ⟨rfl, _⟩ | ⟨i, vs, b, h1, h2, rfl, hr, hl, g0, gn, _, gm, hh⟩
  · simp at hj
  · obtain ⟨x, m, hx, hf⟩ := hh j hj
    have m1 := mono_of_step gm (Nat.zero_le j)
    have m2 := mono_of_step gm (show j + 1 ≤ ll.length from hj)
    exact ⟨i, vs, x, m, b j, b (j + 1), rfl, h1, h2, hr, hl, hx, by omega, by omega, hf⟩
end Go.Abs
end

section
set_option linter.unusedSimpArgs false
set_option linter.unusedVariables false
namespace Go.Abs
open Go Go.RowKit

/-- Orders, with forks. -/
inductive OT
  | nil
  | one (i : Nat) (r : OT)
  | two (i j : Nat) (ri rj : OT)
  | three (i j k : Nat) (ri rj rk : OT)

def OT.depth : OT → Nat
  | .nil => 0
  | .one _ r => r.depth + 1
  | .two _ _ a b => max a.depth b.depth + 1
  | .three _ _ _ a b c => max a.depth (max b.depth c.depth) + 1

/-- A list, then a tree. -/
def OT.run : List Nat → OT → OT
  | [], r => r
  | i :: is, r => .one i (OT.run is r)

def okOT (ops : Array Oper) : OT → Array Bool → Bool
  | .nil, listed => (Region.ready .any ops listed).isEmpty
  | .one i r, listed =>
    (match ops[i]? with
     | some o => if quietOp o.op = true then (Region.ready .any ops listed).contains i && Region.free .any ops listed i else Region.ready .any ops listed == [i]
     | none => false) && okOT ops r (listed.setIfInBounds i true)
  | .two i j a b, listed => Region.ready .any ops listed == [i, j] && okOT ops a (listed.setIfInBounds i true) && okOT ops b (listed.setIfInBounds j true)
  | .three i j k a b c, listed => Region.ready .any ops listed == [i, j, k] && okOT ops a (listed.setIfInBounds i true) && okOT ops b (listed.setIfInBounds j true) && okOT ops c (listed.setIfInBounds k true)

def awpT (P : Program) (ops : Array Oper) (Q : T → AH → Prop) : (o : OT) → T → AH → (fun _ => Prop) (ops, Q, o)
  | .nil, t, H => Q t H
  | .one i r, t, H => stepI P ops (awpT P ops Q r) i (ops.toList[i]?) t H
  | .two i j a b, t, H => stepI P ops (awpT P ops Q a) i (ops.toList[i]?) t H ∧ stepI P ops (awpT P ops Q b) j (ops.toList[j]?) t H
  | .three i j k a b c, t, H => stepI P ops (awpT P ops Q a) i (ops.toList[i]?) t H ∧ stepI P ops (awpT P ops Q b) j (ops.toList[j]?) t H ∧ stepI P ops (awpT P ops Q c) k (ops.toList[k]?) t H

theorem stepI_a {P : Program} {ops : Array Oper} {K : T → AH → Prop} {i : Nat} {t : T} {H : AH} (h : stepI P ops K i (ops.toList[i]?) t H) :
    aStep P ops.toList i t H fun t' H' => ((∃ o, ops.toList[i]? = some o ∧ quietOp o.op = true) ∨ sinkB ops i = true ∨ LE H H') ∧ K t' H' := by
  unfold aStep
  cases e : ops.toList[i]? with
  | none => rw [e] at h; exact h.elim
  | some o =>
    rw [e] at h
    unfold stepI at h
    simp only
    cases hg : o.guard with
    | none => simp only [hg] at h ⊢; exact runOut_mono (fun v H' k => ⟨k.1.imp (fun q => ⟨o, rfl, q⟩) id, k.2⟩) _ h
    | some g => simp only [hg] at h ⊢; exact condW_mono h (runOut_mono (fun v H' k => ⟨k.1.imp (fun q => ⟨o, rfl, q⟩) id, k.2⟩) _) (fun k => ⟨.inr (.inr (LE.refl H)), k⟩)

/-- A quiet step leaves the heap. -/
theorem stepI_s {P : Program} {ops : Array Oper} {K : T → AH → Prop} {i : Nat} {t : T} {H : AH} (h : stepI P ops K i (ops.toList[i]?) t H) :
    aStep P ops.toList i t H fun t' H' => (sinkB ops i = true ∨ LE H H') ∧ K t' H' := by
  cases e : ops.toList[i]? with
  | none => rw [e] at h; exact h.elim
  | some o =>
    by_cases hq : quietOp o.op = true
    · have ho : ops[i]? = some o := by simpa using e
      obtain ⟨v, hy, hk⟩ := aStep_quiet ho hq (stepI_a h)
      exact hy.step ho hq ⟨.inr (LE.refl _), hk.2⟩
    · refine aStep_mono (stepI_a h) fun t' H' hk => ⟨?_, hk.2⟩
      rcases hk.1 with ⟨o', e', q'⟩ | k
      · rw [e] at e'; cases e'; exact absurd q' hq
      · exact k

theorem AAny_tree {P : Program} {ops : Array Oper} {Q : T → AH → Prop} : ∀ (ot : OT) (listed : Array Bool) (t : T) (H : AH) (f : Nat), ot.depth ≤ f → Closed ops listed → okOT ops ot listed = true → awpT P ops Q ot t H → AAny P ops Q f listed t H
  | .nil, listed, t, H, f, _, _, hok, h => by
    have hr : Region.ready .any ops listed = [] := by simpa [okOT] using hok
    cases f with
    | zero => exact ⟨hr, h⟩
    | succ f => exact ⟨fun _ => h, by rw [hr]; simp⟩
  | .one i r, listed, t, H, 0, hl, _, _, _ => by simp [OT.depth] at hl
  | .two i j a b, listed, t, H, 0, hl, _, _, _ => by simp [OT.depth] at hl
  | .three i j k a b c, listed, t, H, 0, hl, _, _, _ => by simp [OT.depth] at hl
  | .one i r, listed, t, H, f + 1, hl, hc, hok, h => by
    simp only [okOT, Bool.and_eq_true] at hok
    simp only [OT.depth] at hl
    obtain ⟨h1, h2⟩ := hok
    unfold awpT at h
    cases ho : ops[i]? with
    | none => simp [ho] at h1
    | some o =>
      simp only [ho] at h1
      split at h1
      · rename_i hq
        simp only [Bool.and_eq_true] at h1
        obtain ⟨hr, hfr⟩ := h1
        have hr' : i ∈ Region.ready .any ops listed := by simpa using hr
        obtain ⟨v, hy, hk⟩ := aStep_quiet ho hq (stepI_s h)
        exact AAny_first ho hq f listed t H hc (Region.free_spec ho hfr) hr' hy (AAny_tree r _ _ H f (by omega) (hc.set hr') h2 hk.2)
      · have hr : Region.ready .any ops listed = [i] := by simpa using h1
        refine ⟨fun h0 => (by rw [hr] at h0; cases h0), fun j hj => ?_⟩
        have hji : j = i := by rw [hr] at hj; simpa using hj
        subst hji
        exact aStep_mono (stepI_s h) fun t' H' hk => ⟨hk.1, AAny_tree r _ t' H' f (by omega) (hc.set hj) h2 hk.2⟩
  | .two i j a b, listed, t, H, f + 1, hl, hc, hok, h => by
    simp only [okOT, Bool.and_eq_true] at hok
    simp only [OT.depth] at hl
    obtain ⟨⟨h1, h2⟩, h3⟩ := hok
    unfold awpT at h
    have hr : Region.ready .any ops listed = [i, j] := by simpa using h1
    refine ⟨fun h0 => (by rw [hr] at h0; cases h0), fun x hx => ?_⟩
    have hx2 : x = i ∨ x = j := by rw [hr] at hx; simpa using hx
    rcases hx2 with rfl | rfl
    · exact aStep_mono (stepI_s h.1) fun t' H' hk => ⟨hk.1, AAny_tree a _ t' H' f (by omega) (hc.set hx) h2 hk.2⟩
    · exact aStep_mono (stepI_s h.2) fun t' H' hk => ⟨hk.1, AAny_tree b _ t' H' f (by omega) (hc.set hx) h3 hk.2⟩
  | .three i j k a b c, listed, t, H, f + 1, hl, hc, hok, h => by
    simp only [okOT, Bool.and_eq_true] at hok
    simp only [OT.depth] at hl
    obtain ⟨⟨⟨h1, h2⟩, h3⟩, h4⟩ := hok
    unfold awpT at h
    have hr : Region.ready .any ops listed = [i, j, k] := by simpa using h1
    refine ⟨fun h0 => (by rw [hr] at h0; cases h0), fun x hx => ?_⟩
    have hx2 : x = i ∨ x = j ∨ x = k := by rw [hr] at hx; simpa using hx
    rcases hx2 with rfl | rfl | rfl
    · exact aStep_mono (stepI_s h.1) fun t' H' hk => ⟨hk.1, AAny_tree a _ t' H' f (by omega) (hc.set hx) h2 hk.2⟩
    · exact aStep_mono (stepI_s h.2.1) fun t' H' hk => ⟨hk.1, AAny_tree b _ t' H' f (by omega) (hc.set hx) h3 hk.2⟩
    · exact aStep_mono (stepI_s h.2.2) fun t' H' hk => ⟨hk.1, AAny_tree c _ t' H' f (by omega) (hc.set hx) h4 hk.2⟩

theorem draw_tree {P : Program} {id : Nat} {ops : Array Oper} {Q : Exit → T → AH → Prop} {t : T} {H : AH} (ot : OT) (hm : P.follows .mixedOrders = true) (hok : okOT ops ot (Array.replicate ops.size false) = true) (hl : ot.depth ≤ ops.size)
    (h : awpT P ops (Q .normal) ot t H) : awp P (.region id ops true) Q t H := by
  intro base ρ w tmps QC hS hd hQ
  have hA := AAny_tree ot _ t H ops.size hl ⟨by simp, fun j oj hj hl => by rw [getD_replicate_false'] at hl; cases hl⟩ hok h
  refine wp_region_any hm (AAny_ok ops.size _ t H ρ w.drew tmps hA ⟨hS.1.drew, hS.2.ext (ext_drew (base := base) (H := H) w)⟩ ?_ fun t' H' ρ' w' tmps' hq hs he hz => ?_)
  · intro o ho i hi
    have := List.all_eq_true.1 hd o ho
    simp only [hi, decide_eq_true_eq] at this
    exact this
  · exact hQ .normal t' H' ρ' w' tmps' hq hs ((ext_drew (base := base) (H := H) (ρ := ρ) w).trans he) hz

theorem awpT_nil (P : Program) (ops : Array Oper) (Q : T → AH → Prop) (t : T) (H : AH) : awpT P ops Q .nil t H = Q t H := (rfl)
theorem awpT_one (P : Program) (ops : Array Oper) (Q : T → AH → Prop) (i : Nat) (r : OT) (t : T) (H : AH) : awpT P ops Q (.one i r) t H = stepI P ops (awpT P ops Q r) i (ops.toList[i]?) t H := (rfl)
theorem awpT_run_nil (P : Program) (ops : Array Oper) (Q : T → AH → Prop) (r : OT) (t : T) (H : AH) : awpT P ops Q (OT.run [] r) t H = awpT P ops Q r t H := (rfl)
theorem awpT_run_cons (P : Program) (ops : Array Oper) (Q : T → AH → Prop) (i : Nat) (is : List Nat) (r : OT) (t : T) (H : AH) : awpT P ops Q (OT.run (i :: is) r) t H = stepI P ops (awpT P ops Q (OT.run is r)) i (ops.toList[i]?) t H := (rfl)
theorem awpT_two {P : Program} {ops : Array Oper} {Q : T → AH → Prop} {i j : Nat} {a b : OT} {t : T} {H : AH} (h1 : stepI P ops (awpT P ops Q a) i (ops.toList[i]?) t H) (h2 : stepI P ops (awpT P ops Q b) j (ops.toList[j]?) t H) : awpT P ops Q (.two i j a b) t H := ⟨h1, h2⟩
theorem awpT_three {P : Program} {ops : Array Oper} {Q : T → AH → Prop} {i j k : Nat} {a b c : OT} {t : T} {H : AH} (h1 : stepI P ops (awpT P ops Q a) i (ops.toList[i]?) t H) (h2 : stepI P ops (awpT P ops Q b) j (ops.toList[j]?) t H) (h3 : stepI P ops (awpT P ops Q c) k (ops.toList[k]?) t H) : awpT P ops Q (.three i j k a b c) t H := ⟨h1, h2, h3⟩
@[congr] theorem awpT_congr {P : Program} {ops : Array Oper} {o : OT} {Q : T → AH → Prop} {t t' : T} {H H' : AH} (h : t = t') (k : H = H') : awpT P ops Q o t H = awpT P ops Q o t' H' := by rw [h, k]

theorem asCells_one {v : Value} (h : v.oneCell' = true) (f : List Value → Out) : asCells v f = f [v] := by
  cases v <;> first | rfl | (simp [Value.oneCell'] at h)

theorem awp_cutQ {P : Program} {a : Code} {Q : Exit → T → AH → Prop} {N : T → AH → Prop} {t : T} {H : AH} (M : T → AH → Prop) (h : awp P a (seqQ M Q) t H) (k : ∀ t H, M t H → N t H) : awp P a (seqQ N Q) t H :=
  awp_mono a _ _ t H (seqQ_mono k fun _ _ _ h => h) h

/-- All rows lie below the end. -/
def Sc (H : AH) : Prop := ∀ i r, H.row i = some r → i < H.next
theorem Sc.push {H : AH} (h : Sc H) (r : Row) : Sc (H.push r) := by
  intro i x hx
  rw [AH.push_row] at hx
  rw [AH.push_next]
  split at hx
  · omega
  · have := h i x hx; omega
theorem Sc.le {H : AH} (h : Sc H) (r : Row) : LE H (H.push r) := ⟨Nat.le_succ _, fun i x hx => by rw [AH.push_row, if_neg (by have := h i x hx; omega)]; exact hx⟩
theorem ACalls.sc {P : Program} {f : FuncId} {args : List Value} {H : AH} {R : Value → AH → Prop} (h : ACalls P f args H R) : ACalls P f args H (fun v H' => R v H' ∧ Sc H') := by
  refine ⟨h.1, fun base ρ w args' hR hL => (h.2 base ρ w args' hR hL).mono ?_⟩
  rintro e w' ⟨v', v, H', ρ', rfl, hv, R', r⟩
  exact ⟨v', v, H', ρ', rfl, ⟨hv, R'.scope⟩, R', r⟩
end Go.Abs
end

section
set_option linter.unusedSimpArgs false
set_option linter.unusedVariables false
namespace Go.Abs
open Go Go.RowKit

theorem Fr2.setF {ty ty' lo hi : Nat} {H : AH} {v : Value} {ll : List (List Int)} (h : Fr2 1 ty ty' lo hi H v ll) {j : Nat} (hj : j < ll.length) (hne : 0 < (ll.getD j []).length) :
    ∃ i vs i6, v = .slice (some ⟨i, 0, some 1⟩) ll.length ll.length ∧ lo ≤ i ∧ i < hi ∧ H.row i = some ⟨ty, true, vs⟩ ∧ vs[j]? = some (.slice (some ⟨i6, 0, some 1⟩) (ll.getD j []).length (ll.getD j []).length) ∧ lo ≤ i6 ∧ i6 < hi ∧ ¬ i = i6 ∧ H.row i6 = some ⟨ty', true, ints (ll.getD j [])⟩ ∧
      ∀ l' : List Int, l'.length = (ll.getD j []).length → Fr2 1 ty ty' lo hi (H.setCells i6 (ints l')) v (ll.set j l') := by
  rcases h with ⟨rfl, _⟩ | ⟨i, vs, b, h1, h2, rfl, hr, hl, g0, gn, gi, gm, hh⟩
  · simp at hj
  · obtain ⟨x, m, hx, hf⟩ := hh j hj
    have hm := hf.lenK1
    have m1 := mono_of_step gm (Nat.zero_le j)
    have m2 := mono_of_step gm (show j + 1 ≤ ll.length from hj)
    obtain ⟨i6, k1, k2, rfl, k3⟩ := hf.get (by omega)
    rw [hm] at hx
    refine ⟨i, vs, i6, rfl, h1, h2, hr, hx, by omega, by omega, by omega, k3, fun l' hl' => ?_⟩
    refine .inr ⟨i, vs, b, h1, h2, by rw [List.length_set], by rw [AH.setCells_row, if_neg (by omega)]; exact hr, by rw [List.length_set]; exact hl, g0, by rw [List.length_set]; exact gn, by rw [List.length_set]; exact gi, gm, fun j' hj' => ?_⟩
    rw [List.length_set] at hj'
    by_cases e : j' = j
    · subst e
      refine ⟨_, (ll.getD j' []).length, hx, ?_⟩
      have e1 : (ll.set j' l').getD j' [] = l' := by rw [List.getD_eq_getElem?_getD, List.getElem?_set_self hj]; rfl
      rw [e1]
      exact ⟨by omega, .inr ⟨i6, k1, k2, rfl, by rw [AH.setCells_row, if_pos rfl, k3]; rfl⟩⟩
    · obtain ⟨x', m', hx', hf'⟩ := hh j' hj'
      have e1 : (ll.set j l').getD j' [] = ll.getD j' [] := by rw [List.getD_eq_getElem?_getD, List.getElem?_set_ne (by omega), ← List.getD_eq_getElem?_getD]
      refine ⟨x', m', hx', ?_⟩
      rw [e1]
      refine hf'.same fun z z1 z2 => ?_
      rw [AH.setCells_row, if_neg]
      rcases Nat.lt_or_gt_of_ne e with hlt | hgt
      · have := mono_of_step gm (show j' + 1 ≤ j from hlt); omega
      · have := mono_of_step gm (show j + 1 ≤ j' from hgt); omega

theorem Sc.set {H : AH} (h : Sc H) (i : Nat) (cs : List Value) : Sc (H.setCells i cs) := by
  intro j x hx
  rw [AH.setCells_row] at hx
  rw [AH.setCells_next]
  split at hx
  · rename_i e
    subst e
    cases hr : H.row j with
    | none => rw [hr] at hx; cases hx
    | some r => exact h j r hr
  · exact h j x hx
end Go.Abs
end

section
set_option linter.unusedSimpArgs false
set_option linter.unusedVariables false
set_option maxRecDepth 100000
set_option maxHeartbeats 2000000
namespace Go.Proofs.Ytgkmdfjjlghecaa.A
open Go Go.Abs Go.RowKit

theorem zeros_int0 (n : Nat) : zeros n [.int .i64 0] = ints (List.replicate n 0) := by
  have h := zeros_ints n 1
  rw [Nat.mul_one] at h; exact h
theorem replicate_snoc {α : Type} (n : Nat) (a : α) : List.replicate (n + 1) a = List.replicate n a ++ [a] := by
  rw [List.replicate_succ']

theorem square_c (n : Nat) (hn : n ≤ 1024) (H : AH) : ACalls Try.prog 100 [.int .i64 n] H (fun v H' => Up H.next H H' ∧ Fr2 1 38 2 H.next H'.next H' v (zeroM n)) := by
  refine acalls_of_awp [.tmp 2] Try.func100 (by kernel_rfl) rfl rfl (Nat.le_of_ble_eq_true rfl) (by kernel_rfl) ?_
  try simp (disch := first | omega | (simp only [ints_length, List.length_replicate, List.length_set]; done) | (simp only [ints_length, List.length_replicate, List.length_set]; omega)) only [Sall,evalOp,init,binE,binI,unE,convE,okNil,builtE,gv,TD.isAgg,resV,↓reduceIte,Nat.reduceEqDiff,reduceCtorEq,Nat.reduceAdd,Nat.reduceMul,Nat.reduceLeDiff,quietOp,blindOp,Int.reduceEq,Int.reduceLT,Int.reduceLE,Nat.reduceLT,ti2,ti3,ti4,ti45,ti46,ti38,ti25,ti30,ti22,ti32,ti24,ti95,ti172,ti169,ti165,ti166,ti65,ti143,ti87, zeros_zero]
  refine awp_loop (fun m t H' => ∃ (a : Nat) (u : Value) (lo hi : Nat), m = n - a ∧ a ≤ n ∧ t 6 = .int .i64 a ∧ t 5 = .int .i64 n ∧ t 0 = .int .i64 n ∧ t 3 = u ∧ Up H.next H H' ∧ H.next ≤ lo ∧ lo ≤ hi ∧ hi ≤ H'.next ∧ Fr2 1 38 2 lo hi H' u (List.replicate a (List.replicate n 0))) n ?_ ?_
  · refine ⟨0, .slice (some ⟨H.next, 0, some 1⟩) 0 0, H.next, H.next + 1, by omega, by omega, ?_⟩
    try simp (disch := first | omega | (simp only [ints_length, List.length_replicate, List.length_set]; done) | (simp only [ints_length, List.length_replicate, List.length_set]; omega)) only [Sall,evalOp,init,binE,binI,unE,convE,okNil,builtE,gv,TD.isAgg,resV,↓reduceIte,Nat.reduceEqDiff,reduceCtorEq,Nat.reduceAdd,Nat.reduceMul,Nat.reduceLeDiff,quietOp,blindOp,Int.reduceEq,Int.reduceLT,Int.reduceLE,Nat.reduceLT,ti2,ti3,ti4,ti45,ti46,ti38,ti25,ti30,ti22,ti32,ti24,ti95,ti172,ti169,ti165,ti166,ti65,ti143,ti87, Int.natCast_zero]
    refine ⟨(Up.refl _ H).push (by omega) _, ?_⟩
    (repeat refine And.intro (by omega) ?_)
    exact .inr ⟨H.next, [], fun _ => H.next + 1, by omega, by omega, rfl, by rw [AH.push_row, if_pos rfl], rfl, by dsimp only; omega, by dsimp only; omega, .inl (by dsimp only; omega), fun _ => Nat.le_refl _, fun j hj => by simp at hj⟩
  · rintro m t H' ⟨a, u, lo, hi, hm, h14, h6, h5, h0, h3, hup, hlo, hlh, hhi, hfr⟩
    try simp (disch := first | omega | (simp only [ints_length, List.length_replicate, List.length_set]; done) | (simp only [ints_length, List.length_replicate, List.length_set]; omega)) only [Sall,evalOp,init,binE,binI,unE,convE,okNil,builtE,gv,TD.isAgg,resV,↓reduceIte,Nat.reduceEqDiff,reduceCtorEq,Nat.reduceAdd,Nat.reduceMul,Nat.reduceLeDiff,quietOp,blindOp,Int.reduceEq,Int.reduceLT,Int.reduceLE,Nat.reduceLT,ti2,ti3,ti4,ti45,ti46,ti38,ti25,ti30,ti22,ti32,ti24,ti95,ti172,ti169,ti165,ti166,ti65,ti143,ti87, h6, h5]
    refine condC_dec (fun h => ?_) (fun h => ?_)
    · have zz : zeros 1 [.slice none 0 0] = [.slice none 0 0] := rfl
      have ne1 : ¬ H'.next = H'.next + 1 := by omega
      try simp (disch := first | omega | (simp only [ints_length, List.length_replicate, List.length_set]; done) | (simp only [ints_length, List.length_replicate, List.length_set]; omega)) only [Sall,evalOp,init,binE,binI,unE,convE,okNil,builtE,gv,TD.isAgg,resV,↓reduceIte,Nat.reduceEqDiff,reduceCtorEq,Nat.reduceAdd,Nat.reduceMul,Nat.reduceLeDiff,quietOp,blindOp,Int.reduceEq,Int.reduceLT,Int.reduceLE,Nat.reduceLT,ti2,ti3,ti4,ti45,ti46,ti38,ti25,ti30,ti22,ti32,ti24,ti95,ti172,ti169,ti165,ti166,ti65,ti143,ti87, h6, h5, h3, h0, zeros_int0, zz, slCells]
      (repeat refine And.intro (by omega) ?_)
      obtain ⟨H2, e2⟩ : ∃ H2, H2 = (H'.push ⟨2, true, ints (List.replicate n 0)⟩).push ⟨38, true, [.slice (some ⟨H'.next, 0, some 1⟩) n n]⟩ := ⟨_, rfl⟩
      have n2 : H2.next = H'.next + 2 := by rw [e2]; rfl
      have s2 : ∀ i, i < H'.next → H2.row i = H'.row i := fun i hi => by rw [e2, AH.push_row, if_neg (by rw [AH.push_next]; omega), AH.push_row, if_neg (by omega)]
      have x2 : H2.row H'.next = some ⟨2, true, ints (List.replicate n 0)⟩ := by rw [e2, AH.push_row, if_neg (by rw [AH.push_next]; omega), AH.push_row, if_pos rfl]
      rw [← e2]
      clear e2
      refine appE_fr2 (hfr.same fun i _ hi => s2 i (by omega)) (m := n) (l := List.replicate n 0) ⟨by simp, .inr ⟨H'.next, by omega, by omega, rfl, x2⟩⟩ rfl (by decide) (by rw [List.length_replicate]; omega) hlh (by omega) ?_
      intro v' H3 n3 s3 f3
      try simp (disch := first | omega | (simp only [ints_length, List.length_replicate, List.length_set]; done) | (simp only [ints_length, List.length_replicate, List.length_set]; omega)) only [Sall,evalOp,init,binE,binI,unE,convE,okNil,builtE,gv,TD.isAgg,resV,↓reduceIte,Nat.reduceEqDiff,reduceCtorEq,Nat.reduceAdd,Nat.reduceMul,Nat.reduceLeDiff,quietOp,blindOp,Int.reduceEq,Int.reduceLT,Int.reduceLE,Nat.reduceLT,ti2,ti3,ti4,ti45,ti46,ti38,ti25,ti30,ti22,ti32,ti24,ti95,ti172,ti169,ti165,ti166,ti65,ti143,ti87, h6, h5, h0, w64]
      refine ⟨n - (a + 1), by omega, a + 1, v', lo, H2.next + 1, rfl, by omega, rfl, rfl, ⟨by have := hup.next; omega, fun i hi => ?_⟩, by omega, by omega, by omega, ?_⟩
      · rw [s3 i (by have := hup.next; omega) (by have := hup.next; omega), s2 i (by have := hup.next; omega), hup.row i hi]
      · rw [replicate_snoc]; exact f3
    · have ha : a = n := by omega
      subst ha
      try simp (disch := first | omega | (simp only [ints_length, List.length_replicate, List.length_set]; done) | (simp only [ints_length, List.length_replicate, List.length_set]; omega)) only [Sall,evalOp,init,binE,binI,unE,convE,okNil,builtE,gv,TD.isAgg,resV,↓reduceIte,Nat.reduceEqDiff,reduceCtorEq,Nat.reduceAdd,Nat.reduceMul,Nat.reduceLeDiff,quietOp,blindOp,Int.reduceEq,Int.reduceLT,Int.reduceLE,Nat.reduceLT,ti2,ti3,ti4,ti45,ti46,ti38,ti25,ti30,ti22,ti32,ti24,ti95,ti172,ti169,ti165,ti166,ti65,ti143,ti87, h3]
      exact ⟨hup, hfr.wide hlo hhi⟩

theorem meetings_c (n : Nat) (v : Value) (k : Nat) (l : List Int) (H : AH) (hb : schedB n k l = true) (hv : Rd 14 H v k l) (hk : k ≤ 4294967296) :
    ACalls Try.prog 99 [.agg #[.int .i64 n, v]] H (fun u H' => Up H.next H H' ∧ Fr2 1 38 2 H.next H'.next H' u (meetM n l k)) := by
  refine ACalls.wf (by kernel_rfl) fun hs => acalls_of_awp [.tmp 2] Try.func99 (by kernel_rfl) rfl rfl (Nat.le_of_ble_eq_true rfl) (by kernel_rfl) ?_
  obtain ⟨hn, hk40, hrounds⟩ := schedB_at hb
  have hone := hv.one
  have up : Up H.next H (H.push ⟨32, true, [.int .i64 n, v]⟩) := (Up.refl _ H).push (Nat.le_refl _) _
  have e1 : (H.push ⟨32, true, [.int .i64 n, v]⟩).row H.next = some ⟨32, true, [.int .i64 n, v]⟩ := by rw [AH.push_row, if_pos rfl]
  have n1 : (H.push ⟨32, true, [.int .i64 n, v]⟩).next = H.next + 1 := rfl
  try simp (disch := first | omega | (simp only [ints_length, List.length_replicate, List.length_set]; done) | (simp only [ints_length, List.length_replicate, List.length_set]; omega)) only [Sall,evalOp,init,binE,binI,unE,convE,okNil,builtE,gv,TD.isAgg,resV,↓reduceIte,Nat.reduceEqDiff,reduceCtorEq,Nat.reduceAdd,Nat.reduceMul,Nat.reduceLeDiff,quietOp,blindOp,Int.reduceEq,Int.reduceLT,Int.reduceLE,Nat.reduceLT,ti2,ti3,ti4,ti45,ti46,ti38,ti25,ti30,ti22,ti32,ti24,ti95,ti172,ti169,ti165,ti166,ti65,ti143,ti87, hone]
  revert up e1 n1
  generalize H.push ⟨32, true, [.int .i64 n, v]⟩ = H1
  intro up e1 n1
  refine (square_c n (by omega) H1).mono ?_
  rintro u H2 ⟨up2, hf⟩
  have n2 := up2.next
  have u2 : Up H.next H H2 := up.trans up2 (by omega)
  have r2 : H2.row H.next = some ⟨32, true, [.int .i64 n, v]⟩ := by rw [up2.row _ (by omega), e1]
  refine Holds.mp ?_
  try simp (disch := first | omega | (simp only [ints_length, List.length_replicate, List.length_set]; done) | (simp only [ints_length, List.length_replicate, List.length_set]; omega)) only [Sall,evalOp,init,binE,binI,unE,convE,okNil,builtE,gv,TD.isAgg,resV,↓reduceIte,Nat.reduceEqDiff,reduceCtorEq,Nat.reduceAdd,Nat.reduceMul,Nat.reduceLeDiff,quietOp,blindOp,Int.reduceEq,Int.reduceLT,Int.reduceLE,Nat.reduceLT,ti2,ti3,ti4,ti45,ti46,ti38,ti25,ti30,ti22,ti32,ti24,ti95,ti172,ti169,ti165,ti166,ti65,ti143,ti87, r2, builtE, hv.len]
  refine awp_loop (fun m t H' => ∃ (a : Nat), m = k - a ∧ a ≤ k ∧ t 13 = .int .i64 a ∧ t 12 = .int .i64 k ∧ t 11 = v ∧ t 3 = u ∧ t 1 = .pointer (some ⟨H.next, 0, none⟩) ∧ Up H.next H H' ∧ H2.next ≤ H'.next ∧ H'.row H.next = some ⟨32, true, [.int .i64 n, v]⟩ ∧ Fr2 1 38 2 H1.next H2.next H' u (meetM n l a)) k ?_ ?_
  · refine ⟨0, by omega, by omega, ?_⟩
    try simp (disch := first | omega | (simp only [ints_length, List.length_replicate, List.length_set]; done) | (simp only [ints_length, List.length_replicate, List.length_set]; omega)) only [Sall,evalOp,init,binE,binI,unE,convE,okNil,builtE,gv,TD.isAgg,resV,↓reduceIte,Nat.reduceEqDiff,reduceCtorEq,Nat.reduceAdd,Nat.reduceMul,Nat.reduceLeDiff,quietOp,blindOp,Int.reduceEq,Int.reduceLT,Int.reduceLE,Nat.reduceLT,ti2,ti3,ti4,ti45,ti46,ti38,ti25,ti30,ti22,ti32,ti24,ti95,ti172,ti169,ti165,ti166,ti65,ti143,ti87, Int.natCast_zero, meetM_zero]
    exact ⟨u2, r2, hf⟩
  · rintro m t H' ⟨a, hm, h14, h13, h12, h11, h3, h1, hup, hnx, hr1, hf'⟩
    try simp (disch := first | omega | (simp only [ints_length, List.length_replicate, List.length_set]; done) | (simp only [ints_length, List.length_replicate, List.length_set]; omega)) only [Sall,evalOp,init,binE,binI,unE,convE,okNil,builtE,gv,TD.isAgg,resV,↓reduceIte,Nat.reduceEqDiff,reduceCtorEq,Nat.reduceAdd,Nat.reduceMul,Nat.reduceLeDiff,quietOp,blindOp,Int.reduceEq,Int.reduceLT,Int.reduceLE,Nat.reduceLT,ti2,ti3,ti4,ti45,ti46,ti38,ti25,ti30,ti22,ti32,ti24,ti95,ti172,ti169,ti165,ti166,ti65,ti143,ti87, h13, h12]
    refine condC_dec (fun h => ?_) (fun h => ?_)
    · obtain ⟨i', o', u', c', r', rfl, hrB', hc', hs', hg'⟩ := hv.get (by omega)
      have hr' : H'.row i' = some r' := by rw [hup.row _ (hs _ _ hrB'), hrB']
      have hrl : (rnd l a).length = 14 := rnd_length l a k hv.1 (by omega)
      have hiB := hs _ _ hrB'
      have hup1 := hup.next
      have ne1 : ¬ i' = H'.next := by omega
      have ne2 : ¬ H.next = H'.next := by omega
      have hrl2 : ((l.drop (a * 14)).take 14).length = 14 := hrl
      have hsp := splice_ints14 (List.replicate 14 0) (rnd l a) (by simp) hrl
      try simp (disch := first | omega | (simp only [ints_length, List.length_replicate, List.length_set]; done) | (simp only [ints_length, List.length_replicate, List.length_set]; omega)) only [Sall,evalOp,init,binE,binI,unE,convE,okNil,builtE,gv,TD.isAgg,resV,↓reduceIte,Nat.reduceEqDiff,reduceCtorEq,Nat.reduceAdd,Nat.reduceMul,Nat.reduceLeDiff,quietOp,blindOp,Int.reduceEq,Int.reduceLT,Int.reduceLE,Nat.reduceLT,ti2,ti3,ti4,ti45,ti46,ti38,ti25,ti30,ti22,ti32,ti24,ti95,ti172,ti169,ti165,ti166,ti65,ti143,ti87, h13, h11, hr', hg', push_setCells, hrl2, ints_length, ne1, ne2, hr1, h1]
      (repeat refine And.intro (by omega) ?_)
      obtain ⟨H3, e3⟩ : ∃ H3, H3 = H'.push ⟨46, true, ints ((l.drop (a * 14)).take 14)⟩ := ⟨_, rfl⟩
      have s3 : ∀ i, i < H'.next → H3.row i = H'.row i := fun i hi => by rw [e3, AH.push_row, if_neg (by omega)]
      have r3 : H3.row H'.next = some ⟨46, true, ints (rnd l a)⟩ := by rw [e3, AH.push_row, if_pos rfl]; rfl
      have n3 : H3.next = H'.next + 1 := by rw [e3]; rfl
      rw [← e3]
      clear e3
      have hround := hrounds a (by omega)
      refine awp_loop (fun z t H4 => ∃ c : Nat, z = n - c ∧ c ≤ n ∧ t 19 = .int .i64 c ∧ t 18 = .int .i64 n ∧ t 5 = .pointer (some ⟨H'.next, 0, none⟩) ∧ t 13 = .int .i64 a ∧ t 12 = .int .i64 k ∧ t 11 = .slice (some ⟨i', o', u'⟩) k c' ∧ t 3 = u ∧ t 1 = .pointer (some ⟨H.next, 0, none⟩) ∧ Up H.next H H4 ∧ H3.next ≤ H4.next ∧ H4.row H.next = some ⟨32, true, [.int .i64 n, .slice (some ⟨i', o', u'⟩) k c']⟩ ∧ H4.row H'.next = some ⟨46, true, ints (rnd l a)⟩ ∧ Fr2 1 38 2 H1.next H2.next H4 u (midM n l a c)) n ?_ ?_
      · refine ⟨0, by omega, by omega, ?_⟩
        try simp (disch := first | omega | (simp only [ints_length, List.length_replicate, List.length_set]; done) | (simp only [ints_length, List.length_replicate, List.length_set]; omega)) only [Sall,evalOp,init,binE,binI,unE,convE,okNil,builtE,gv,TD.isAgg,resV,↓reduceIte,Nat.reduceEqDiff,reduceCtorEq,Nat.reduceAdd,Nat.reduceMul,Nat.reduceLeDiff,quietOp,blindOp,Int.reduceEq,Int.reduceLT,Int.reduceLE,Nat.reduceLT,ti2,ti3,ti4,ti45,ti46,ti38,ti25,ti30,ti22,ti32,ti24,ti95,ti172,ti169,ti165,ti166,ti65,ti143,ti87, Int.natCast_zero, h13, h12, h11, h3, h1]
        refine ⟨⟨by omega, fun i hi => by rw [s3 i (by omega), hup.row i hi]⟩, by rw [s3 _ (by omega), hr1], r3, ?_⟩
        rw [midM_zero]
        exact hf'.same fun i _ hi => s3 i (by omega)
      · rintro z t H4 ⟨c, hz, hcn, h19, h18, h5, h13, h12, h11, h3, h1, hup4, hn4, hr4, hr5, hf4⟩
        try simp (disch := first | omega | (simp only [ints_length, List.length_replicate, List.length_set]; done) | (simp only [ints_length, List.length_replicate, List.length_set]; omega)) only [Sall,evalOp,init,binE,binI,unE,convE,okNil,builtE,gv,TD.isAgg,resV,↓reduceIte,Nat.reduceEqDiff,reduceCtorEq,Nat.reduceAdd,Nat.reduceMul,Nat.reduceLeDiff,quietOp,blindOp,Int.reduceEq,Int.reduceLT,Int.reduceLE,Nat.reduceLT,ti2,ti3,ti4,ti45,ti46,ti38,ti25,ti30,ti22,ti32,ti24,ti95,ti172,ti169,ti165,ti166,ti65,ti143,ti87, h19, h18]
        refine condC_dec (fun hh => ?_) (fun hh => ?_)
        · obtain ⟨_, ha4, ha5, _⟩ := roundB_at hround (a := c) (by omega)
          have hsq := midM_sq n l a c
          by_cases hne : (rnd l a).getD c 0 = (c : Int)
          · have e0 : ((rnd l a).getD c 0 != (c : Int)) = false := by rw [hne]; exact bne_self_eq_false _
            try simp (disch := first | omega | (simp only [ints_length, List.length_replicate, List.length_set]; done) | (simp only [ints_length, List.length_replicate, List.length_set]; omega)) only [Sall,evalOp,init,binE,binI,unE,convE,okNil,builtE,gv,TD.isAgg,resV,↓reduceIte,Nat.reduceEqDiff,reduceCtorEq,Nat.reduceAdd,Nat.reduceMul,Nat.reduceLeDiff,quietOp,blindOp,Int.reduceEq,Int.reduceLT,Int.reduceLE,Nat.reduceLT,ti2,ti3,ti4,ti45,ti46,ti38,ti25,ti30,ti22,ti32,ti24,ti95,ti172,ti169,ti165,ti166,ti65,ti143,ti87, h19, h5, hr5, ints_get?, e0, h18, h13, h12, h11, h3, h1, w64]
            (repeat refine And.intro (by omega) ?_)
            refine ⟨n - (c + 1), by omega, c + 1, rfl, by omega, rfl, hup4, hn4, hr4, ?_⟩
            rw [midM_same (by omega) hne]; exact hf4
          · have e0 : ((rnd l a).getD c 0 != (c : Int)) = true := by simpa using hne
            have hrow := hsq.2 c (by omega)
            obtain ⟨mi, mvs, i6, rfl, q1, q2, q3, q4, q5, q6, q7, q8, q9⟩ := hf4.setF (j := c) (by rw [hsq.1]; omega) (by omega)
            have ne6 : ¬ H'.next = i6 := by omega
            have ne7 : ¬ H.next = i6 := by omega
            have hMl := hsq.1
            rw [hrow] at q4
            try simp (disch := first | omega | (simp only [ints_length, List.length_replicate, List.length_set]; done) | (simp only [ints_length, List.length_replicate, List.length_set]; omega)) only [Sall,evalOp,init,binE,binI,unE,convE,okNil,builtE,gv,TD.isAgg,resV,↓reduceIte,Nat.reduceEqDiff,reduceCtorEq,Nat.reduceAdd,Nat.reduceMul,Nat.reduceLeDiff,quietOp,blindOp,Int.reduceEq,Int.reduceLT,Int.reduceLE,Nat.reduceLT,ti2,ti3,ti4,ti45,ti46,ti38,ti25,ti30,ti22,ti32,ti24,ti95,ti172,ti169,ti165,ti166,ti65,ti143,ti87, h19, h5, hr5, ints_get?, e0, h18, h13, h12, h11, h3, h1, w64]
            (repeat refine And.intro (by omega) ?_)
            refine draw_id (by kernel_rfl) (by kernel_rfl) ?_
            try simp (disch := first | omega | (simp only [ints_length, List.length_replicate, List.length_set]; done) | (simp only [ints_length, List.length_replicate, List.length_set]; omega)) only [Sall,evalOp,init,binE,binI,unE,convE,okNil,builtE,gv,TD.isAgg,resV,↓reduceIte,Nat.reduceEqDiff,reduceCtorEq,Nat.reduceAdd,Nat.reduceMul,Nat.reduceLeDiff,quietOp,blindOp,Int.reduceEq,Int.reduceLT,Int.reduceLE,Nat.reduceLT,ti2,ti3,ti4,ti45,ti46,ti38,ti25,ti30,ti22,ti32,ti24,ti95,ti172,ti169,ti165,ti166,ti65,ti143,ti87, h19, h5, hr5, ints_get?, h3, q3, q4, q8, ints_set]
            rw [hMl]
            (repeat refine And.intro (by omega) ?_)
            refine ⟨.inr (.inl (by kernel_rfl)), ?_⟩
            try simp (disch := first | omega | (simp only [ints_length, List.length_replicate, List.length_set]; done) | (simp only [ints_length, List.length_replicate, List.length_set]; omega)) only [Sall,evalOp,init,binE,binI,unE,convE,okNil,builtE,gv,TD.isAgg,resV,↓reduceIte,Nat.reduceEqDiff,reduceCtorEq,Nat.reduceAdd,Nat.reduceMul,Nat.reduceLeDiff,quietOp,blindOp,Int.reduceEq,Int.reduceLT,Int.reduceLE,Nat.reduceLT,ti2,ti3,ti4,ti45,ti46,ti38,ti25,ti30,ti22,ti32,ti24,ti95,ti172,ti169,ti165,ti166,ti65,ti143,ti87, h19, h18, h5, h13, h12, h11, h3, h1, w64, ne6, ne7, hr4]
            refine ⟨n - (c + 1), by omega, c + 1, rfl, by omega, rfl, hup4.set (by omega) _, hn4, ?_⟩
            have q10 := q9 (incR ((midM n l a c).getD c []) ((rnd l a).getD c 0)) (incR_length _ _)
            rw [hMl] at q10
            rw [midM_inc (by omega) hne]
            unfold incM
            rw [Int.toNat_natCast]
            exact q10
        · try simp (disch := first | omega | (simp only [ints_length, List.length_replicate, List.length_set]; done) | (simp only [ints_length, List.length_replicate, List.length_set]; omega)) only [Sall,evalOp,init,binE,binI,unE,convE,okNil,builtE,gv,TD.isAgg,resV,↓reduceIte,Nat.reduceEqDiff,reduceCtorEq,Nat.reduceAdd,Nat.reduceMul,Nat.reduceLeDiff,quietOp,blindOp,Int.reduceEq,Int.reduceLT,Int.reduceLE,Nat.reduceLT,ti2,ti3,ti4,ti45,ti46,ti38,ti25,ti30,ti22,ti32,ti24,ti95,ti172,ti169,ti165,ti166,ti65,ti143,ti87, h13, h12, h11, h3, h1, w64]
          have hc : c = n := by omega
          subst hc
          refine ⟨k - (a + 1), by omega, a + 1, rfl, by omega, rfl, hup4, by omega, hr4, ?_⟩
          rw [← midM_all]; exact hf4
    · have ha : a = k := by omega
      subst ha
      try simp (disch := first | omega | (simp only [ints_length, List.length_replicate, List.length_set]; done) | (simp only [ints_length, List.length_replicate, List.length_set]; omega)) only [Sall,evalOp,init,binE,binI,unE,convE,okNil,builtE,gv,TD.isAgg,resV,↓reduceIte,Nat.reduceEqDiff,reduceCtorEq,Nat.reduceAdd,Nat.reduceMul,Nat.reduceLeDiff,quietOp,blindOp,Int.reduceEq,Int.reduceLT,Int.reduceLE,Nat.reduceLT,ti2,ti3,ti4,ti45,ti46,ti38,ti25,ti30,ti22,ti32,ti24,ti95,ti172,ti169,ti165,ti166,ti65,ti143,ti87, h3]
      exact ⟨hup, hf'.wide (by omega) hnx⟩

theorem l01Meetings_c (n : Nat) (v : Value) (k : Nat) (l : List Int) (H : AH) (hb : schedB n k l = true) (hv : Rd 14 H v k l) (hk : k ≤ 4294967296) :
    ACalls Try.prog 164 [.agg #[.int .i64 n, v]] H (fun u H' => Up H.next H H' ∧ Fr2 1 38 2 H.next H'.next H' u (meetM n l k)) := by
  refine ACalls.wf (by kernel_rfl) fun hs => acalls_of_awp [.tmp 2] Try.func164 (by kernel_rfl) rfl rfl (Nat.le_of_ble_eq_true rfl) (by kernel_rfl) ?_
  obtain ⟨hn, hk40, hrounds⟩ := schedB_at hb
  have hone := hv.one
  have up : Up H.next H (H.push ⟨32, true, [.int .i64 n, v]⟩) := (Up.refl _ H).push (Nat.le_refl _) _
  have e1 : (H.push ⟨32, true, [.int .i64 n, v]⟩).row H.next = some ⟨32, true, [.int .i64 n, v]⟩ := by rw [AH.push_row, if_pos rfl]
  have n1 : (H.push ⟨32, true, [.int .i64 n, v]⟩).next = H.next + 1 := rfl
  try simp (disch := first | omega | (simp only [ints_length, List.length_replicate, List.length_set]; done) | (simp only [ints_length, List.length_replicate, List.length_set]; omega)) only [Sall,evalOp,init,binE,binI,unE,convE,okNil,builtE,gv,TD.isAgg,resV,↓reduceIte,Nat.reduceEqDiff,reduceCtorEq,Nat.reduceAdd,Nat.reduceMul,Nat.reduceLeDiff,quietOp,blindOp,Int.reduceEq,Int.reduceLT,Int.reduceLE,Nat.reduceLT,ti2,ti3,ti4,ti45,ti46,ti38,ti25,ti30,ti22,ti32,ti24,ti95,ti172,ti169,ti165,ti166,ti65,ti143,ti87, hone]
  revert up e1 n1
  generalize H.push ⟨32, true, [.int .i64 n, v]⟩ = H1
  intro up e1 n1
  try simp (disch := first | omega | (simp only [ints_length, List.length_replicate, List.length_set]; done) | (simp only [ints_length, List.length_replicate, List.length_set]; omega)) only [Sall,evalOp,init,binE,binI,unE,convE,okNil,builtE,gv,TD.isAgg,resV,↓reduceIte,Nat.reduceEqDiff,reduceCtorEq,Nat.reduceAdd,Nat.reduceMul,Nat.reduceLeDiff,quietOp,blindOp,Int.reduceEq,Int.reduceLT,Int.reduceLE,Nat.reduceLT,ti2,ti3,ti4,ti45,ti46,ti38,ti25,ti30,ti22,ti32,ti24,ti95,ti172,ti169,ti165,ti166,ti65,ti143,ti87, zeros_zero]
  refine awp_loop (fun m t H' => ∃ (a : Nat) (u : Value) (lo hi : Nat), m = n - a ∧ a ≤ n ∧ t 4 = .int .i64 a ∧ t 3 = u ∧ t 1 = .pointer (some ⟨H.next, 0, none⟩) ∧ Up H.next H H' ∧ H'.row H.next = some ⟨32, true, [.int .i64 n, v]⟩ ∧ H.next < lo ∧ lo ≤ hi ∧ hi ≤ H'.next ∧ Fr2 1 38 2 lo hi H' u ((List.range a).map fun a => rowM n l a k)) n ?_ ?_
  · refine ⟨0, .slice (some ⟨H.next + 1, 0, some 1⟩) 0 0, H.next + 1, H.next + 2, by omega, by omega, ?_⟩
    try simp (disch := first | omega | (simp only [ints_length, List.length_replicate, List.length_set]; done) | (simp only [ints_length, List.length_replicate, List.length_set]; omega)) only [Sall,evalOp,init,binE,binI,unE,convE,okNil,builtE,gv,TD.isAgg,resV,↓reduceIte,Nat.reduceEqDiff,reduceCtorEq,Nat.reduceAdd,Nat.reduceMul,Nat.reduceLeDiff,quietOp,blindOp,Int.reduceEq,Int.reduceLT,Int.reduceLE,Nat.reduceLT,ti2,ti3,ti4,ti45,ti46,ti38,ti25,ti30,ti22,ti32,ti24,ti95,ti172,ti169,ti165,ti166,ti65,ti143,ti87, Int.natCast_zero]
    refine ⟨up.push (by omega) _, by rw [if_neg (by omega), e1], ?_⟩
    (repeat refine And.intro (by omega) ?_)
    exact .inr ⟨H.next + 1, [], fun _ => H.next + 2, by omega, by omega, rfl, by rw [AH.push_row, if_pos (by omega)], rfl, by dsimp only; omega, by dsimp only; omega, .inl (by dsimp only; omega), fun _ => Nat.le_refl _, fun j hj => by simp at hj⟩
  · rintro m t H' ⟨a, u, lo, hi, hm, h14, h4, h3, h1, hup, hr1, hlo, hlh, hhi, hfr⟩
    try simp (disch := first | omega | (simp only [ints_length, List.length_replicate, List.length_set]; done) | (simp only [ints_length, List.length_replicate, List.length_set]; omega)) only [Sall,evalOp,init,binE,binI,unE,convE,okNil,builtE,gv,TD.isAgg,resV,↓reduceIte,Nat.reduceEqDiff,reduceCtorEq,Nat.reduceAdd,Nat.reduceMul,Nat.reduceLeDiff,quietOp,blindOp,Int.reduceEq,Int.reduceLT,Int.reduceLE,Nat.reduceLT,ti2,ti3,ti4,ti45,ti46,ti38,ti25,ti30,ti22,ti32,ti24,ti95,ti172,ti169,ti165,ti166,ti65,ti143,ti87, h4, h1, hr1]
    refine condC_dec (fun h => ?_) (fun h => ?_)
    · have zz : zeros 1 [.slice none 0 0] = [.slice none 0 0] := rfl
      have hup1 := hup.next
      have neH : ¬ H.next = H'.next := by omega
      try simp (disch := first | omega | (simp only [ints_length, List.length_replicate, List.length_set]; done) | (simp only [ints_length, List.length_replicate, List.length_set]; omega)) only [Sall,evalOp,init,binE,binI,unE,convE,okNil,builtE,gv,TD.isAgg,resV,↓reduceIte,Nat.reduceEqDiff,reduceCtorEq,Nat.reduceAdd,Nat.reduceMul,Nat.reduceLeDiff,quietOp,blindOp,Int.reduceEq,Int.reduceLT,Int.reduceLE,Nat.reduceLT,ti2,ti3,ti4,ti45,ti46,ti38,ti25,ti30,ti22,ti32,ti24,ti95,ti172,ti169,ti165,ti166,ti65,ti143,ti87, h1, hr1, zeros_int0]
      (repeat refine And.intro (by omega) ?_)
      obtain ⟨H2, e2⟩ : ∃ H2, H2 = H'.push ⟨2, true, ints (List.replicate n 0)⟩ := ⟨_, rfl⟩
      have n2 : H2.next = H'.next + 1 := by rw [e2]; rfl
      have s2 : ∀ i, i < H'.next → H2.row i = H'.row i := fun i hi => by rw [e2, AH.push_row, if_neg (by omega)]
      have x2 : H2.row H'.next = some ⟨2, true, ints (List.replicate n 0)⟩ := by rw [e2, AH.push_row, if_pos rfl]
      have up2 : Up H.next H H2 := ⟨by omega, fun i hi => by rw [s2 i (by omega), hup.row i hi]⟩
      rw [← e2]
      clear e2
      refine awp_loop (fun z t H3 => ∃ (i : Nat), z = k - i ∧ i ≤ k ∧ t 6 = .int .i64 i ∧ t 5 = .slice (some ⟨H'.next, 0, some 1⟩) n n ∧ t 4 = .int .i64 a ∧ t 3 = u ∧ t 1 = .pointer (some ⟨H.next, 0, none⟩) ∧ H3.next = H2.next ∧ (∀ i, i < H'.next → H3.row i = H'.row i) ∧ H3.row H'.next = some ⟨2, true, ints (rowM n l a i)⟩) k ?_ ?_
      · refine ⟨0, by omega, by omega, ?_⟩
        try simp (disch := first | omega | (simp only [ints_length, List.length_replicate, List.length_set]; done) | (simp only [ints_length, List.length_replicate, List.length_set]; omega)) only [Sall,evalOp,init,binE,binI,unE,convE,okNil,builtE,gv,TD.isAgg,resV,↓reduceIte,Nat.reduceEqDiff,reduceCtorEq,Nat.reduceAdd,Nat.reduceMul,Nat.reduceLeDiff,quietOp,blindOp,Int.reduceEq,Int.reduceLT,Int.reduceLE,Nat.reduceLT,ti2,ti3,ti4,ti45,ti46,ti38,ti25,ti30,ti22,ti32,ti24,ti95,ti172,ti169,ti165,ti166,ti65,ti143,ti87, Int.natCast_zero, rowM_zero, h4, h3, h1]
        exact ⟨s2, x2⟩
      · rintro z t H3 ⟨i, hz, hik, h6, h5, h4, h3, h1, hn3, s3, x3⟩
        have hr3 : H3.row H.next = some ⟨32, true, [.int .i64 n, v]⟩ := by rw [s3 _ (by omega), hr1]
        try simp (disch := first | omega | (simp only [ints_length, List.length_replicate, List.length_set]; done) | (simp only [ints_length, List.length_replicate, List.length_set]; omega)) only [Sall,evalOp,init,binE,binI,unE,convE,okNil,builtE,gv,TD.isAgg,resV,↓reduceIte,Nat.reduceEqDiff,reduceCtorEq,Nat.reduceAdd,Nat.reduceMul,Nat.reduceLeDiff,quietOp,blindOp,Int.reduceEq,Int.reduceLT,Int.reduceLE,Nat.reduceLT,ti2,ti3,ti4,ti45,ti46,ti38,ti25,ti30,ti22,ti32,ti24,ti95,ti172,ti169,ti165,ti166,ti65,ti143,ti87, h6, h1, hr3, builtE, hv.len]
        refine condC_dec (fun hh => ?_) (fun hh => ?_)
        · obtain ⟨i', o', u', c', r', rfl, hrB', hc', hs', hg'⟩ := hv.get (by omega)
          have hiB := hs _ _ hrB'
          have hr' : H3.row i' = some r' := by rw [s3 _ (by omega), hup.row _ hiB, hrB']
          have hrl : (rnd l i).length = 14 := rnd_length l i k hv.1 (by omega)
          obtain ⟨_, ha4, ha5, _⟩ := roundB_at (hrounds i (by omega)) (a := a) (by omega)
          have hcell : r'.cells[o' + i * 14 + a]? = some (.int .i64 ((rnd l i).getD a 0)) := by
            have h1 := hs' (i * 14 + a) (by omega)
            rw [← Nat.add_assoc] at h1
            rw [h1]
            congr 2
            unfold rnd
            rw [List.getD_eq_getElem?_getD, List.getD_eq_getElem?_getD, List.getElem?_take, if_pos (by omega), List.getElem?_drop]
          have hrowl := rowM_length n l a i
          by_cases hne : (rnd l i).getD a 0 = (a : Int)
          · have e0 : ((rnd l i).getD a 0 != (a : Int)) = false := by rw [hne]; exact bne_self_eq_false _
            try simp (disch := first | omega | (simp only [ints_length, List.length_replicate, List.length_set]; done) | (simp only [ints_length, List.length_replicate, List.length_set]; omega)) only [Sall,evalOp,init,binE,binI,unE,convE,okNil,builtE,gv,TD.isAgg,resV,↓reduceIte,Nat.reduceEqDiff,reduceCtorEq,Nat.reduceAdd,Nat.reduceMul,Nat.reduceLeDiff,quietOp,blindOp,Int.reduceEq,Int.reduceLT,Int.reduceLE,Nat.reduceLT,ti2,ti3,ti4,ti45,ti46,ti38,ti25,ti30,ti22,ti32,ti24,ti95,ti172,ti169,ti165,ti166,ti65,ti143,ti87, h6, h5, h4, h3, h1, hr3, hr', hcell, e0, w64]
            (repeat refine And.intro (by omega) ?_)
            refine ⟨k - (i + 1), by omega, i + 1, rfl, by omega, rfl, hn3, s3, ?_⟩
            rw [rowM_succ]; unfold rowStep; rw [if_pos hne]; exact x3
          · have e0 : ((rnd l i).getD a 0 != (a : Int)) = true := by simpa using hne
            try simp (disch := first | omega | (simp only [ints_length, List.length_replicate, List.length_set]; done) | (simp only [ints_length, List.length_replicate, List.length_set]; omega)) only [Sall,evalOp,init,binE,binI,unE,convE,okNil,builtE,gv,TD.isAgg,resV,↓reduceIte,Nat.reduceEqDiff,reduceCtorEq,Nat.reduceAdd,Nat.reduceMul,Nat.reduceLeDiff,quietOp,blindOp,Int.reduceEq,Int.reduceLT,Int.reduceLE,Nat.reduceLT,ti2,ti3,ti4,ti45,ti46,ti38,ti25,ti30,ti22,ti32,ti24,ti95,ti172,ti169,ti165,ti166,ti65,ti143,ti87, h6, h5, h4, h3, h1, hr3, hr', hcell, e0, x3, ints_get?, ints_set, w64]
            (repeat refine And.intro (by omega) ?_)
            refine ⟨k - (i + 1), by omega, i + 1, rfl, by omega, rfl, hn3, fun j hj => by rw [if_neg (by omega)]; exact s3 j hj, ?_⟩
            rw [rowM_succ]; unfold rowStep; rw [if_neg hne]; rfl
        · have hik2 : i = k := by omega
          subst hik2
          have hrowl := rowM_length n l a i
          have ne1 : ¬ H'.next = H3.next := by omega
          try simp (disch := first | omega | (simp only [ints_length, List.length_replicate, List.length_set]; done) | (simp only [ints_length, List.length_replicate, List.length_set]; omega)) only [Sall,evalOp,init,binE,binI,unE,convE,okNil,builtE,gv,TD.isAgg,resV,↓reduceIte,Nat.reduceEqDiff,reduceCtorEq,Nat.reduceAdd,Nat.reduceMul,Nat.reduceLeDiff,quietOp,blindOp,Int.reduceEq,Int.reduceLT,Int.reduceLE,Nat.reduceLT,ti2,ti3,ti4,ti45,ti46,ti38,ti25,ti30,ti22,ti32,ti24,ti95,ti172,ti169,ti165,ti166,ti65,ti143,ti87, h5, h4, h3, h1, zz, slCells, x3]
          (repeat refine And.intro (by omega) ?_)
          obtain ⟨H4, e4⟩ : ∃ H4, H4 = H3.push ⟨38, true, [.slice (some ⟨H'.next, 0, some 1⟩) n n]⟩ := ⟨_, rfl⟩
          have n4 : H4.next = H3.next + 1 := by rw [e4]; rfl
          have s4 : ∀ j, j < H3.next → H4.row j = H3.row j := fun j hj => by rw [e4, AH.push_row, if_neg (by omega)]
          rw [← e4]
          clear e4
          refine appE_fr2 (hfr.same fun j _ hj => by rw [s4 j (by omega), s3 j (by omega)]) (m := n) (l := rowM n l a i) ⟨by omega, .inr ⟨H'.next, by omega, by omega, rfl, by rw [s4 _ (by omega), x3]⟩⟩ rfl (by decide) (by simp; omega) hlh (by omega) ?_
          intro v' H5 n5 s5 f5
          try simp (disch := first | omega | (simp only [ints_length, List.length_replicate, List.length_set]; done) | (simp only [ints_length, List.length_replicate, List.length_set]; omega)) only [Sall,evalOp,init,binE,binI,unE,convE,okNil,builtE,gv,TD.isAgg,resV,↓reduceIte,Nat.reduceEqDiff,reduceCtorEq,Nat.reduceAdd,Nat.reduceMul,Nat.reduceLeDiff,quietOp,blindOp,Int.reduceEq,Int.reduceLT,Int.reduceLE,Nat.reduceLT,ti2,ti3,ti4,ti45,ti46,ti38,ti25,ti30,ti22,ti32,ti24,ti95,ti172,ti169,ti165,ti166,ti65,ti143,ti87, h4, h1, w64]
          refine ⟨n - (a + 1), by omega, a + 1, v', lo, H4.next + 1, rfl, by omega, rfl, rfl, ⟨by omega, fun j hj => ?_⟩, ?_, by omega, by omega, by omega, ?_⟩
          · rw [s5 j (by omega) (by omega), s4 j (by omega), s3 j (by omega), hup.row j hj]
          · rw [s5 _ (by omega) (by omega), s4 _ (by omega), s3 _ (by omega), hr1]
          · rw [List.range_succ, List.map_append]; exact f5
    · have ha : a = n := by omega
      subst ha
      try simp (disch := first | omega | (simp only [ints_length, List.length_replicate, List.length_set]; done) | (simp only [ints_length, List.length_replicate, List.length_set]; omega)) only [Sall,evalOp,init,binE,binI,unE,convE,okNil,builtE,gv,TD.isAgg,resV,↓reduceIte,Nat.reduceEqDiff,reduceCtorEq,Nat.reduceAdd,Nat.reduceMul,Nat.reduceLeDiff,quietOp,blindOp,Int.reduceEq,Int.reduceLT,Int.reduceLE,Nat.reduceLT,ti2,ti3,ti4,ti45,ti46,ti38,ti25,ti30,ti22,ti32,ti24,ti95,ti172,ti169,ti165,ti166,ti65,ti143,ti87, h3]
      exact ⟨hup, hfr.wide (by omega) hhi⟩
end Go.Proofs.Ytgkmdfjjlghecaa.A
end

section
set_option linter.unusedSimpArgs false
namespace Go.Proofs.Ytgkmdfjjlghecaa.A
open Go Go.Abs Go.RowKit
theorem ti110 : ti Try.prog 110 = some ⟨.other, 1, 8, [.nilFunc]⟩ := by kernel_rfl
theorem ti56 : ti Try.prog 56 = some ⟨.other, 1, 8, [.nilFunc]⟩ := by kernel_rfl
theorem ti101 : ti Try.prog 101 = some ⟨.slice 87, 1, 24, [.slice none 0 0]⟩ := by kernel_rfl
theorem ti5 : ti Try.prog 5 = some ⟨.int .u8, 1, 1, [.int .u8 0]⟩ := by kernel_rfl
theorem ti159 : ti Try.prog 159 = some ⟨.int .u64, 1, 8, [.int .u64 0]⟩ := by kernel_rfl
theorem ti62 : ti Try.prog 62 = some ⟨.slice 5, 1, 24, [.slice none 0 0]⟩ := by kernel_rfl
theorem ti161 : ti Try.prog 161 = some ⟨.struct [(0, 62), (1, 3), (2, 159)], 3, 40, [.slice none 0 0, .int .i64 0, .int .u64 0]⟩ := by kernel_rfl
theorem ti51 : ti Try.prog 51 = some ⟨.struct [(0, 2), (1, 2), (2, 25)], 3, 40, [.int .i64 0, .int .i64 0, .slice none 0 0]⟩ := by kernel_rfl
theorem ti57 : ti Try.prog 57 = some ⟨.struct [(0, 2), (1, 2), (2, 25)], 3, 40, [.int .i64 0, .int .i64 0, .slice none 0 0]⟩ := by kernel_rfl
theorem ti9 : ti Try.prog 9 = some ⟨.str, 1, 16, [.string ByteArray.empty]⟩ := by kernel_rfl
end Go.Proofs.Ytgkmdfjjlghecaa.A
end

section
set_option linter.unusedSimpArgs false
set_option linter.unusedVariables false
namespace Go.Abs

def oddUp (n : Nat) : Nat := n - 1 + n % 2
/-- Whom x meets in round r of a circle of m. -/
def cb (m r x : Nat) : Int := Int.tmod (2 * (r : Int) - (x : Int) + (m : Int)) (m : Int)
/-- The round, the first k teams having been looked at. -/
def cmid (n r k : Nat) : List Int := (List.range 14).map fun x => if x < oddUp n then (if x < k ∨ cb (oddUp n) r x < k then cb (oddUp n) r x else x) else if x < n then x else 0
def cset (n r k : Nat) : List Int := (List.range 14).map fun x => if x < oddUp n then (if x < k then cb (oddUp n) r x else x) else if x < n then x else 0
def cround (n r : Nat) : List Int := if n % 2 = 0 then ((cmid n r (oddUp n)).set (n - 1) r).set r ((n : Int) - 1) else cmid n r (oddUp n)

theorem cmid_length (n r k : Nat) : (cmid n r k).length = 14 := by simp [cmid]
theorem cset_length (n r k : Nat) : (cset n r k).length = 14 := by simp [cset]
theorem cround_length (n r : Nat) : (cround n r).length = 14 := by unfold cround; split <;> simp [cmid_length]

theorem cb_range : ∀ n, n < 15 → ∀ r, r < oddUp n → ∀ x, x < oddUp n → 0 ≤ cb (oddUp n) r x ∧ cb (oddUp n) r x < oddUp n := by decide +kernel
theorem cmid_zero : ∀ n, n < 15 → ∀ r, r < oddUp n → cmid n r 0 = (List.range 14).map (fun (a : Nat) => if (a : Int) < (n : Int) then (a : Int) else 0) := by decide +kernel
theorem cmid_step : ∀ n, n < 15 → ∀ r, r < oddUp n → ∀ k, k < oddUp n → (if (k : Int) < cb (oddUp n) r k then ((cmid n r k).set k (cb (oddUp n) r k)).set (cb (oddUp n) r k).toNat k else cmid n r k) = cmid n r (k + 1) := by decide +kernel
theorem cset_zero : ∀ n, n < 15 → ∀ r, r < oddUp n → cset n r 0 = (List.range 14).map (fun (a : Nat) => if (a : Int) < (n : Int) then (a : Int) else 0) := by decide +kernel
theorem cset_step : ∀ n, n < 15 → ∀ r, r < oddUp n → ∀ k, k < oddUp n → (cset n r k).set k (cb (oddUp n) r k) = cset n r (k + 1) := by decide +kernel
theorem cset_last : ∀ n, n < 15 → ∀ r, r < oddUp n → cset n r (oddUp n) = cmid n r (oddUp n) := by decide +kernel

def circleL (n k : Nat) : List Int := ((List.range k).map (cround n)).flatten
theorem circleL_length (n k : Nat) : (circleL n k).length = k * 14 := by
  induction k with
  | zero => simp [circleL]
  | succ k ih =>
    simp only [circleL, List.range_succ, List.map_append, List.map_cons, List.map_nil, List.flatten_append, List.flatten_cons, List.flatten_nil, List.append_nil, List.length_append, cround_length] at ih ⊢
    omega
theorem circleL_succ (n k : Nat) : circleL n (k + 1) = circleL n k ++ cround n k := by simp [circleL, List.range_succ]
end Go.Abs
end

section
set_option linter.unusedSimpArgs false
set_option linter.unusedVariables false
set_option maxRecDepth 100000
namespace Go.Proofs.Ytgkmdfjjlghecaa.A
open Go Go.Abs Go.RowKit

def freeL (n : Int) : List Int := (List.range 14).map fun (a : Nat) => if (a : Int) < n then (a : Int) else 0
theorem freeL_length (n : Int) : (freeL n).length = 14 := by simp [freeL]
theorem freeL_set (a : Int) (h : 0 ≤ a) (h' : a < 14) : (freeL a).set a.toNat a = freeL (a + 1) := by
  apply List.ext_getElem
  · simp [freeL]
  · intro i h1 h2
    simp only [freeL, List.getElem_set, List.getElem_map, List.getElem_range]
    split
    · rename_i e; rw [if_pos (by omega)]; omega
    · rename_i e; split <;> split <;> omega

theorem free_c (n : Int) (hn : n ≤ 14) (H : AH) : ACalls Try.prog 169 [.int .i64 n] H (is (.agg (ints (freeL n)).toArray) H) := by
  refine acalls_up (flat_ints _) (acalls_of_awp [.cell 2 46] Try.func169 (by kernel_rfl) rfl rfl (Nat.le_of_ble_eq_true rfl) (by kernel_rfl) ?_)
  try simp (disch := first | omega | (simp only [ints_length, freeL_length, List.length_replicate]; done) | (simp only [ints_length, freeL_length, List.length_replicate]; omega)) only [Sall,evalOp,init,binE,binI,unE,convE,okNil,builtE,gv,TD.isAgg,resV,↓reduceIte,Nat.reduceEqDiff,reduceCtorEq,Nat.reduceAdd,Nat.reduceMul,Nat.reduceLeDiff,quietOp,blindOp,Int.reduceEq,Int.reduceLT,Int.reduceLE,Nat.reduceLT,ti2,ti3,ti4,ti45,ti46,ti38,ti25,ti30,ti22,ti32,ti24,ti95,ti172,ti169,ti165,ti166,ti65,ti143,ti87, true_and]
  refine awp_loop (fun m t H' => ∃ a : Int, m = (n - a).toNat ∧ 0 ≤ a ∧ a ≤ 14 ∧ (a ≤ n ∨ a = 0) ∧ t 7 = .int .i64 a ∧ t 6 = .int .i64 n ∧ t 3 = .pointer (some ⟨H.next + 1, 0, none⟩) ∧ t 2 = .pointer (some ⟨H.next, 0, none⟩) ∧ Up H.next H H' ∧
    H'.row H.next = some ⟨46, true, ints (List.replicate 14 0)⟩ ∧ H'.row (H.next + 1) = some ⟨46, true, ints (freeL a)⟩) n.toNat ?_ ?_
  · refine ⟨0, by omega, by omega, by omega, by omega, ?_⟩
    try simp (disch := first | omega | (simp only [ints_length, freeL_length, List.length_replicate]; done) | (simp only [ints_length, freeL_length, List.length_replicate]; omega)) only [Sall,evalOp,init,binE,binI,unE,convE,okNil,builtE,gv,TD.isAgg,resV,↓reduceIte,Nat.reduceEqDiff,reduceCtorEq,Nat.reduceAdd,Nat.reduceMul,Nat.reduceLeDiff,quietOp,blindOp,Int.reduceEq,Int.reduceLT,Int.reduceLE,Nat.reduceLT,ti2,ti3,ti4,ti45,ti46,ti38,ti25,ti30,ti22,ti32,ti24,ti95,ti172,ti169,ti165,ti166,ti65,ti143,ti87, true_and]
    refine ⟨(((Up.refl _ H).push (by omega) _).push (Nat.le_succ _) _).set (by omega) _, ?_⟩
    exact congrArg (fun l => Row.mk _ true (ints l)) (by decide : List.replicate 14 0 = freeL 0)
  · rintro m t H' ⟨a, hm, h0, h14, han, h7, h6, h3, h2, hup, hr0, hr1⟩
    try simp (disch := first | omega | (simp only [ints_length, freeL_length, List.length_replicate]; done) | (simp only [ints_length, freeL_length, List.length_replicate]; omega)) only [Sall,evalOp,init,binE,binI,unE,convE,okNil,builtE,gv,TD.isAgg,resV,↓reduceIte,Nat.reduceEqDiff,reduceCtorEq,Nat.reduceAdd,Nat.reduceMul,Nat.reduceLeDiff,quietOp,blindOp,Int.reduceEq,Int.reduceLT,Int.reduceLE,Nat.reduceLT,ti2,ti3,ti4,ti45,ti46,ti38,ti25,ti30,ti22,ti32,ti24,ti95,ti172,ti169,ti165,ti166,ti65,ti143,ti87, h7, h6]
    refine condC_dec (fun h => ?_) (fun h => ?_)
    · try simp (disch := first | omega | (simp only [ints_length, freeL_length, List.length_replicate]; done) | (simp only [ints_length, freeL_length, List.length_replicate]; omega)) only [Sall,evalOp,init,binE,binI,unE,convE,okNil,builtE,gv,TD.isAgg,resV,↓reduceIte,Nat.reduceEqDiff,reduceCtorEq,Nat.reduceAdd,Nat.reduceMul,Nat.reduceLeDiff,quietOp,blindOp,Int.reduceEq,Int.reduceLT,Int.reduceLE,Nat.reduceLT,ti2,ti3,ti4,ti45,ti46,ti38,ti25,ti30,ti22,ti32,ti24,ti95,ti172,ti169,ti165,ti166,ti65,ti143,ti87, h7, h6, h3, h2, hr1, hr0, ints_set, w64, freeL_set]
      refine ⟨⟨h0, by omega⟩, by rw [freeL_length]; omega, (n - (a + 1)).toNat, by omega, a + 1, rfl, by omega, by omega, by omega, rfl, hup.set (by omega) _, rfl⟩
    · try simp (disch := first | omega | (simp only [ints_length, freeL_length, List.length_replicate]; done) | (simp only [ints_length, freeL_length, List.length_replicate]; omega)) only [Sall,evalOp,init,binE,binI,unE,convE,okNil,builtE,gv,TD.isAgg,resV,↓reduceIte,Nat.reduceEqDiff,reduceCtorEq,Nat.reduceAdd,Nat.reduceMul,Nat.reduceLeDiff,quietOp,blindOp,Int.reduceEq,Int.reduceLT,Int.reduceLE,Nat.reduceLT,ti2,ti3,ti4,ti45,ti46,ti38,ti25,ti30,ti22,ti32,ti24,ti95,ti172,ti169,ti165,ti166,ti65,ti143,ti87, h7, h6, h3, h2, hr1, hr0, freeL_length]
      refine ⟨?_, hup.set (by omega) _⟩
      rcases han with h | h
      · rw [show a = n by omega]
      · subst h; congr 3; simp only [freeL]; apply List.map_congr_left; intro x hx; rw [if_neg (by omega), if_neg (by omega)]

theorem freeS_c (n : Int) (hn : n ≤ 14) (H : AH) : ACalls Try.prog 97 [.int .i64 n] H (is (.agg (ints (freeL n)).toArray) H) := by
  refine acalls_up (flat_ints _) (acalls_of_awp [.cell 2 46] Try.func97 (by kernel_rfl) rfl rfl (Nat.le_of_ble_eq_true rfl) (by kernel_rfl) ?_)
  try simp (disch := first | omega | (simp only [ints_length, freeL_length, List.length_replicate]; done) | (simp only [ints_length, freeL_length, List.length_replicate]; omega)) only [Sall,evalOp,init,binE,binI,unE,convE,okNil,builtE,gv,TD.isAgg,resV,↓reduceIte,Nat.reduceEqDiff,reduceCtorEq,Nat.reduceAdd,Nat.reduceMul,Nat.reduceLeDiff,quietOp,blindOp,Int.reduceEq,Int.reduceLT,Int.reduceLE,Nat.reduceLT,ti2,ti3,ti4,ti45,ti46,ti38,ti25,ti30,ti22,ti32,ti24,ti95,ti172,ti169,ti165,ti166,ti65,ti143,ti87, true_and]
  refine awp_loop (fun m t H' => ∃ a : Int, m = (n - a).toNat ∧ 0 ≤ a ∧ a ≤ 14 ∧ (a ≤ n ∨ a = 0) ∧ t 4 = .int .i64 a ∧ t 0 = .int .i64 n ∧ t 3 = .pointer (some ⟨H.next + 1, 0, none⟩) ∧ t 2 = .pointer (some ⟨H.next, 0, none⟩) ∧ Up H.next H H' ∧
    H'.row H.next = some ⟨46, true, ints (List.replicate 14 0)⟩ ∧ H'.row (H.next + 1) = some ⟨46, true, ints (freeL a)⟩) n.toNat ?_ ?_
  · refine ⟨0, by omega, by omega, by omega, by omega, ?_⟩
    try simp (disch := first | omega | (simp only [ints_length, freeL_length, List.length_replicate]; done) | (simp only [ints_length, freeL_length, List.length_replicate]; omega)) only [Sall,evalOp,init,binE,binI,unE,convE,okNil,builtE,gv,TD.isAgg,resV,↓reduceIte,Nat.reduceEqDiff,reduceCtorEq,Nat.reduceAdd,Nat.reduceMul,Nat.reduceLeDiff,quietOp,blindOp,Int.reduceEq,Int.reduceLT,Int.reduceLE,Nat.reduceLT,ti2,ti3,ti4,ti45,ti46,ti38,ti25,ti30,ti22,ti32,ti24,ti95,ti172,ti169,ti165,ti166,ti65,ti143,ti87, true_and]
    refine ⟨(((Up.refl _ H).push (by omega) _).push (Nat.le_succ _) _).set (by omega) _, ?_⟩
    exact congrArg (fun l => Row.mk _ true (ints l)) (by decide : List.replicate 14 0 = freeL 0)
  · rintro m t H' ⟨a, hm, h0, h14, han, h7, h6, h3, h2, hup, hr0, hr1⟩
    try simp (disch := first | omega | (simp only [ints_length, freeL_length, List.length_replicate]; done) | (simp only [ints_length, freeL_length, List.length_replicate]; omega)) only [Sall,evalOp,init,binE,binI,unE,convE,okNil,builtE,gv,TD.isAgg,resV,↓reduceIte,Nat.reduceEqDiff,reduceCtorEq,Nat.reduceAdd,Nat.reduceMul,Nat.reduceLeDiff,quietOp,blindOp,Int.reduceEq,Int.reduceLT,Int.reduceLE,Nat.reduceLT,ti2,ti3,ti4,ti45,ti46,ti38,ti25,ti30,ti22,ti32,ti24,ti95,ti172,ti169,ti165,ti166,ti65,ti143,ti87, h7, h6]
    refine condC_dec (fun h => ?_) (fun h => ?_)
    · try simp (disch := first | omega | (simp only [ints_length, freeL_length, List.length_replicate]; done) | (simp only [ints_length, freeL_length, List.length_replicate]; omega)) only [Sall,evalOp,init,binE,binI,unE,convE,okNil,builtE,gv,TD.isAgg,resV,↓reduceIte,Nat.reduceEqDiff,reduceCtorEq,Nat.reduceAdd,Nat.reduceMul,Nat.reduceLeDiff,quietOp,blindOp,Int.reduceEq,Int.reduceLT,Int.reduceLE,Nat.reduceLT,ti2,ti3,ti4,ti45,ti46,ti38,ti25,ti30,ti22,ti32,ti24,ti95,ti172,ti169,ti165,ti166,ti65,ti143,ti87, h7, h6, h3, h2, hr1, hr0, ints_set, w64, freeL_set, freeL_length]
      refine ⟨⟨h0, by omega⟩, by omega, (n - (a + 1)).toNat, by omega, a + 1, rfl, by omega, by omega, by omega, rfl, hup.set (by omega) _, rfl⟩
    · try simp (disch := first | omega | (simp only [ints_length, freeL_length, List.length_replicate]; done) | (simp only [ints_length, freeL_length, List.length_replicate]; omega)) only [Sall,evalOp,init,binE,binI,unE,convE,okNil,builtE,gv,TD.isAgg,resV,↓reduceIte,Nat.reduceEqDiff,reduceCtorEq,Nat.reduceAdd,Nat.reduceMul,Nat.reduceLeDiff,quietOp,blindOp,Int.reduceEq,Int.reduceLT,Int.reduceLE,Nat.reduceLT,ti2,ti3,ti4,ti45,ti46,ti38,ti25,ti30,ti22,ti32,ti24,ti95,ti172,ti169,ti165,ti166,ti65,ti143,ti87, h7, h6, h3, h2, hr1, hr0, freeL_length]
      refine ⟨?_, hup.set (by omega) _⟩
      rcases han with h | h
      · rw [show a = n by omega]
      · subst h; congr 3; simp only [freeL]; apply List.map_congr_left; intro x hx; rw [if_neg (by omega), if_neg (by omega)]

theorem meet_c (i ty : Nat) (a b : Int) (l : List Int) (H : AH) (hr : H.row i = some ⟨ty, true, ints l⟩) (hl : l.length = 14) (ha : 0 ≤ a ∧ a < 14) (hb : 0 ≤ b ∧ b < 14) :
    ACalls Try.prog 171 [.pointer (some ⟨i, 0, none⟩), .int .i64 a, .int .i64 b] H (is (.tuple #[]) (H.setCells i (ints ((l.set a.toNat b).set b.toNat a)))) := by
  refine acalls_of_awp [] Try.func171 (by kernel_rfl) rfl rfl (Nat.le_of_ble_eq_true rfl) (by kernel_rfl) ?_
  try simp (disch := first | omega | (simp only [ints_length, freeL_length, List.length_replicate]; done) | (simp only [ints_length, freeL_length, List.length_replicate]; omega)) only [Sall,evalOp,init,binE,binI,unE,convE,okNil,builtE,gv,TD.isAgg,resV,↓reduceIte,Nat.reduceEqDiff,reduceCtorEq,Nat.reduceAdd,Nat.reduceMul,Nat.reduceLeDiff,quietOp,blindOp,Int.reduceEq,Int.reduceLT,Int.reduceLE,Nat.reduceLT,ti2,ti3,ti4,ti45,ti46,ti38,ti25,ti30,ti22,ti32,ti24,ti95,ti172,ti169,ti165,ti166,ti65,ti143,ti87, true_and]
  refine draw_in [0, 1, 2, 3, 4, 5, 6, 9, 7, 8, 10, 11] (by kernel_rfl) (by kernel_rfl) rfl ?_
  have e1 : (l.set a.toNat b).length = 14 := by simp [hl]
  try simp (disch := first | omega | (simp only [ints_length, freeL_length, List.length_replicate]; done) | (simp only [ints_length, freeL_length, List.length_replicate]; omega)) only [Sall,evalOp,init,binE,binI,unE,convE,okNil,builtE,gv,TD.isAgg,resV,↓reduceIte,Nat.reduceEqDiff,reduceCtorEq,Nat.reduceAdd,Nat.reduceMul,Nat.reduceLeDiff,quietOp,blindOp,Int.reduceEq,Int.reduceLT,Int.reduceLE,Nat.reduceLT,ti2,ti3,ti4,ti45,ti46,ti38,ti25,ti30,ti22,ti32,ti24,ti95,ti172,ti169,ti165,ti166,ti65,ti143,ti87, hr, ints_set, hl, e1, is, AH.setCells_setCells]
  refine ⟨⟨ha.1, by omega⟩, by omega, .inr (.inl (by kernel_rfl)), ⟨hb.1, by omega⟩, by omega, .inr (.inl (by kernel_rfl))⟩
end Go.Proofs.Ytgkmdfjjlghecaa.A
end

section
set_option linter.unusedSimpArgs false
set_option linter.unusedVariables false
namespace Go.Abs
open Go Go.RowKit

theorem Sc.drop {H : AH} (h : Sc H) (i : Nat) : Sc (H.drop i) := by
  intro j x hx
  rw [AH.drop_row] at hx
  rw [AH.drop_next]
  split at hx
  · cases hx
  · exact h j x hx

theorem appE_frS {P : Program} {E : TI} {k ty lo hi n c : Nat} {H : AH} {v : Value} {l m : List Int} {K : Value → AH → Prop} (h : Fr k ty lo hi H v n l) (hk : E.size = k) (hk0 : 0 < k) (hm : m.length = c * k) (hc : 0 < c) (hb : E.bytes ≤ 32768) (hn : n + c ≤ 4294967296) (hhi : hi ≤ H.next) (hS : Sc H)
    (hK : ∀ v' H', H'.next = H.next + 1 → (∀ i, ¬(lo ≤ i ∧ i < hi) → i < H.next → H'.row i = H.row i) → Sc H' → Fr k ty H.next (H.next + 1) H' v' (n + c) (l ++ m) → K v' H') :
    runOut P H (appE E ty v (ints m) c H) K := by
  subst hk
  have hl := h.1
  unfold appE
  rw [if_neg (by omega)]
  rcases h.2 with ⟨rfl, rfl⟩ | ⟨i, h1, h2, rfl, hr⟩
  · simp only [asSl_nil, runOut_need, runOut_val]
    have : l = [] := List.eq_nil_of_length_eq_zero (by omega)
    subst this
    refine ⟨⟨by omega, hb⟩, hK _ _ rfl (fun i _ hi => by rw [AH.push_row, if_neg (by omega)]) (hS.push _) ⟨by simp [hm], .inr ⟨H.next, by omega, by omega, by simp, by rw [AH.push_row, if_pos rfl]; rfl⟩⟩⟩
  · simp only [asSl_some, hr, bindO_some, runOut_need, Nat.zero_add, ints_length, hl]
    refine ⟨⟨by omega, hb, Nat.le_refl _, .inl rfl⟩, ?_⟩
    rw [if_neg (by rw [Nat.add_mul]; have := Nat.mul_pos hc hk0; omega)]
    simp only [runOut_need, runOut_val]
    refine ⟨⟨trivial, trivial, hk0, trivial, trivial⟩, hK _ _ rfl (fun j hj hj2 => ?_) ((hS.drop i).push _) ⟨by simp [hm, hl, Nat.add_mul], .inr ⟨H.next, by omega, by omega, rfl, ?_⟩⟩⟩
    · rw [AH.push_row, if_neg (by rw [AH.drop_next]; omega), AH.drop_row, if_neg (by omega)]
    · rw [AH.push_row, AH.drop_next, if_pos rfl, seg_all _ _ (by rw [ints_length, hl]), ints_append]
end Go.Abs
end

section
set_option linter.unusedSimpArgs false
set_option linter.unusedVariables false
namespace Go.Abs
open Go Go.RowKit

def Sld (k : Nat) (v : Value) (n : Nat) : Prop := v = .slice none 0 0 ∨ (∃ i o c, v = .slice (some ⟨i, o, some k⟩) n c) ∨ ∃ i o c, v = .slice (some ⟨i, o, none⟩) n c ∧ n ≤ c

/-- A slice of n elements, k integers each, that reads l and may be cut. -/
structure Rs (k : Nat) (H : AH) (v : Value) (n : Nat) (l : List Int) : Prop where
  rd : Rd k H v n l
  sl : Sld k v n

theorem Rs.same {k n : Nat} {H H' : AH} {v : Value} {l : List Int} (h : Rs k H v n l) (hs : ∀ i r, H.row i = some r → H'.row i = some r) : Rs k H' v n l := ⟨h.rd.same hs, h.sl⟩
theorem Fr.rs {k ty lo hi n : Nat} {H : AH} {v : Value} {l : List Int} (h : Fr k ty lo hi H v n l) : Rs k H v n l := by
  refine ⟨h.rd, ?_⟩
  rcases h.2 with ⟨_, h2⟩ | ⟨i, _, _, hv, _⟩
  · exact .inl h2
  · exact .inr (.inl ⟨i, 0, n, hv⟩)

theorem Rs.cut {k n a b : Nat} {H : AH} {v : Value} {l : List Int} (h : Rs k H v n l) {lo hi : Option Int} (ha : lo.getD 0 = (a : Int)) (hb : hi.getD (n : Int) = (b : Int)) (hab : a ≤ b) (hbn : b ≤ n) :
    ∃ w, (∀ (P : Program) (E : TI) (K : Value → AH → Prop) (H' : AH), E.size = k → K w H' → runOut P H' (sliceE E v lo hi none H') K) ∧ Rs k H w (b - a) ((l.drop (a * k)).take ((b - a) * k)) := by
  obtain ⟨hl, hr⟩ := h.rd
  have hlen : ((l.drop (a * k)).take ((b - a) * k)).length = (b - a) * k := by
    rw [List.length_take, List.length_drop, hl, ← Nat.sub_mul]
    exact Nat.min_eq_left (Nat.mul_le_mul_right k (by omega))
  have hmul : a * k + (b - a) * k ≤ n * k := by rw [← Nat.add_mul]; exact Nat.mul_le_mul_right k (by omega)
  have key : ∀ (i o : Nat) (u : Option Nat) (c o' c' : Nat) (r : Row), (b - a = 0 ∨ o' = o + a * k) → H.row i = some r → o + n * k ≤ r.cells.length → seg r.cells o (n * k) = ints l →
      Rd k H (.slice (some ⟨i, o', u⟩) (b - a) c') (b - a) ((l.drop (a * k)).take ((b - a) * k)) := by
    intro i o u c o' c' r ho hrow hle hseg
    refine ⟨hlen, ?_⟩
    rcases Nat.eq_zero_or_pos (b - a) with h0 | h0
    · refine .inl ⟨h0, _, _, by rw [h0], fun h => by cases h⟩
    · obtain rfl : o' = o + a * k := by rcases ho with ho | ho <;> omega
      refine .inr ⟨i, _, u, c', r, rfl, hrow, by omega, ?_⟩
      rw [← ints_seg, ← hseg]
      apply List.ext_getElem?
      intro x
      simp only [seg, List.getElem?_take, List.getElem?_drop]
      by_cases hx : x < (b - a) * k
      · rw [if_pos hx, if_pos hx, if_pos (by omega), Nat.add_assoc]
      · rw [if_neg hx, if_neg hx]
  rcases h.sl with rfl | ⟨i, o, c, rfl⟩ | ⟨i, o, c, rfl, hc⟩
  · have hn : n = 0 := by
      rcases hr with ⟨h0, _⟩ | ⟨_, _, _, _, _, hv, _⟩
      · exact h0
      · cases hv
    subst hn
    obtain rfl : b = 0 := by omega
    obtain rfl : a = 0 := by omega
    refine ⟨.slice none 0 0, fun P E K H' hE hK => ?_, ⟨⟨hlen, .inl ⟨rfl, none, 0, rfl, fun _ => rfl⟩⟩, .inl rfl⟩⟩
    unfold sliceE
    rw [if_neg (by simp)]
    simp only [asSl_nil, runOut_need, runOut_val]
    refine ⟨⟨ha, ?_, rfl⟩, hK⟩
    cases hi with
    | none => rfl
    | some x => simpa using hb
  · refine ⟨.slice (some ⟨i, o + a * k, some k⟩) (b - a) (b - a), fun P E K H' hE hK => ?_, ⟨?_, .inr (.inl ⟨i, _, _, rfl⟩)⟩⟩
    · unfold sliceE
      rw [if_neg (by simp)]
      simp only [asSl_some, runOut_need, runOut_val, ha, hb, Int.toNat_natCast, hE]
      exact ⟨⟨by omega, by omega, by omega, trivial⟩, hK⟩
    · rcases hr with ⟨h0, a', c', hv, _⟩ | ⟨i', o', u', c', r, hv, hrow, hle, hseg⟩
      · obtain rfl : b = 0 := by omega
        obtain rfl : a = 0 := by omega
        exact ⟨hlen, .inl ⟨rfl, _, _, rfl, fun h => by cases h⟩⟩
      · simp only [Value.slice.injEq, Option.some.injEq, Addr.mk.injEq] at hv
        obtain ⟨⟨rfl, rfl, rfl⟩, _, rfl⟩ := hv
        exact key i o (some k) c _ _ r (.inr rfl) hrow hle hseg
  · refine ⟨.slice (some ⟨i, if (c : Int) = (a : Int) then o else o + a * k, none⟩) (b - a) (c - a), fun P E K H' hE hK => ?_, ⟨?_, .inr (.inr ⟨i, _, _, rfl, by omega⟩)⟩⟩
    · unfold sliceE
      rw [if_neg (by simp)]
      have e0 : ((none : Option Int).getD (c : Int)) = (c : Int) := rfl
      simp only [asSl_some, runOut_need, runOut_val, ha, hb, e0, Int.toNat_natCast, hE]
      exact ⟨⟨by omega, by omega, by omega, Int.le_refl _⟩, hK⟩
    · rcases hr with ⟨h0, a', c', hv, _⟩ | ⟨i', o', u', c', r, hv, hrow, hle, hseg⟩
      · obtain rfl : b = 0 := by omega
        obtain rfl : a = 0 := by omega
        exact ⟨hlen, .inl ⟨rfl, _, _, rfl, fun h => by cases h⟩⟩
      · simp only [Value.slice.injEq, Option.some.injEq, Addr.mk.injEq] at hv
        obtain ⟨⟨rfl, rfl, rfl⟩, _, rfl⟩ := hv
        refine key i o none c _ _ r ?_ hrow hle hseg
        split
        · left; omega
        · right; rfl
end Go.Abs
end

section
set_option linter.unusedSimpArgs false
set_option linter.unusedVariables false
namespace Go.Abs
open Go Go.RowKit

theorem Fr2.sameR {k ty ty' lo hi : Nat} {H H' : AH} {v : Value} {ll : List (List Int)} (h : Fr2 k ty ty' lo hi H v ll) (hs : ∀ i r, lo ≤ i → i < hi → H.row i = some r → r.ty = ty ∨ r.ty = ty' → H'.row i = some r) : Fr2 k ty ty' lo hi H' v ll := by
  rcases h with h | ⟨i, vs, b, h1, h2, hv, hr, hl, g0, gn, gi, gm, hh⟩
  · exact .inl h
  · have mono : ∀ j, b 0 ≤ b j := fun j => by
      induction j with
      | zero => exact Nat.le_refl _
      | succ j ih => exact Nat.le_trans ih (gm j)
    have mono2 : ∀ d j, b j ≤ b (j + d) := fun d => by
      induction d with
      | zero => intro j; exact Nat.le_refl _
      | succ d ih => intro j; exact Nat.le_trans (ih j) (gm (j + d))
    refine .inr ⟨i, vs, b, h1, h2, hv, hs i _ h1 h2 hr (.inl rfl), hl, g0, gn, gi, gm, fun j hj => ?_⟩
    obtain ⟨x, m, hx, hf⟩ := hh j hj
    refine ⟨x, m, hx, hf.1, ?_⟩
    rcases hf.2 with h3 | ⟨q, q1, q2, q3, q4⟩
    · exact .inl h3
    · have a1 := mono j
      have a2 := mono2 (ll.length - (j + 1)) (j + 1)
      rw [show j + 1 + (ll.length - (j + 1)) = ll.length by omega] at a2
      exact .inr ⟨q, q1, q2, q3, hs q _ (by omega) (by omega) q4 (.inr rfl)⟩
theorem appE_fr2K {P : Program} {E : TI} {k ty ty' lo hi m : Nat} {H : AH} {v x : Value} {ll : List (List Int)} {l : List Int} {K : Value → AH → Prop} (h : Fr2 k ty ty' lo hi H v ll) (hx : Fr k ty' hi H.next H x m l) (hE : E.size = 1) (hb : E.bytes ≤ 32768) (hn : ll.length + 1 ≤ 4294967296) (hlo : lo ≤ hi) (hhi : hi ≤ H.next)
    (hK : ∀ v' H', H'.next = H.next + 1 → (∀ i, ¬(lo ≤ i ∧ i < hi) → i < H.next → H'.row i = H.row i) → (∀ j r, j < H.next → H.row j = some r → r.ty ≠ ty → H'.row j = some r) → Fr2 k ty ty' lo (H.next + 1) H' v' (ll ++ [l]) → K v' H') :
    runOut P H (appE E ty v [x] 1 H) K := by
  unfold appE
  rw [if_neg (by omega)]
  refine Holds.mp ?_
  rcases h with ⟨rfl, rfl⟩ | ⟨i, vs, b, h1, h2, rfl, hr, hvl, g0, gn, gi, gm, hj⟩ <;> rw [holds_def]
  · simp only [asSl_nil, runOut_need, runOut_val, hE]
    refine ⟨⟨by omega, hb⟩, hK _ _ rfl (fun i _ hi => by rw [AH.push_row, if_neg (by omega)]) (fun j r hj hr _ => by rw [AH.push_row, if_neg (by omega)]; exact hr) (.inr ⟨H.next, [x], fun j => if j = 0 then hi else H.next, by omega, by omega, rfl, by rw [AH.push_row, if_pos rfl], rfl, ?_, ?_, .inr ?_, fun j => ?_, fun j hj => ?_⟩)⟩
    · dsimp only; rw [if_pos rfl]; exact hlo
    · dsimp only [List.nil_append, List.length_singleton]; rw [if_neg (by omega)]; omega
    · dsimp only [List.nil_append, List.length_singleton]; rw [if_neg (by omega)]; omega
    · dsimp only; split
      · rw [if_neg (by omega)]; exact hhi
      · rw [if_neg (by omega)]; omega
    · simp only [List.nil_append, List.length_singleton] at hj
      have : j = 0 := by omega
      subst this
      refine ⟨x, m, rfl, ?_⟩
      dsimp only
      rw [if_pos rfl, if_neg (by omega)]
      exact hx.same fun z _ hz => by rw [AH.push_row, if_neg (by omega)]
  · simp only [asSl_some, hr, bindO_some, runOut_need, Nat.zero_add, hE, Nat.mul_one]
    refine ⟨⟨hn, hb, by omega, .inl rfl⟩, ?_⟩
    rw [if_neg (by omega)]
    simp only [runOut_need, runOut_val]
    refine ⟨by simp, hK _ _ rfl (fun j hj hj2 => ?_) (fun j r hj hr' hne => by rw [AH.push_row, if_neg (by rw [AH.drop_next]; omega), AH.drop_row, if_neg (by rintro rfl; rw [hr] at hr'; injection hr' with e; exact hne (by rw [← e]))]; exact hr') (.inr ⟨H.next, vs ++ [x], fun j => if j < ll.length then b j else if j = ll.length then hi else H.next, by omega, by omega, ?_, ?_, ?_, ?_, ?_, .inr ?_, fun j => ?_, fun j hjl => ?_⟩)⟩
    · rw [AH.push_row, if_neg (by rw [AH.drop_next]; omega), AH.drop_row, if_neg (by omega)]
    · rw [List.length_append]; rfl
    · rw [AH.push_row, AH.drop_next, if_pos rfl, seg_all _ _ hvl.symm]
    · rw [List.length_append, List.length_append, hvl]; rfl
    · dsimp only
      split
      · exact g0
      · split
        · exact hlo
        · omega
    · rw [List.length_append, List.length_singleton]
      dsimp only
      rw [if_neg (by omega), if_neg (by omega)]; omega
    · rw [List.length_append, List.length_singleton]
      dsimp only
      rw [if_neg (by omega), if_neg (by omega)]; omega
    · dsimp only
      by_cases c1 : j + 1 < ll.length
      · rw [if_pos (by omega), if_pos c1]; exact gm j
      · by_cases c2 : j + 1 = ll.length
        · rw [if_pos (by omega), if_neg c1, if_pos c2]
          have := mono_of_step gm (show j ≤ ll.length by omega); omega
        · by_cases c3 : j = ll.length
          · rw [if_neg (by omega), if_pos c3, if_neg c1, if_neg c2]; exact hhi
          · rw [if_neg (by omega), if_neg c3, if_neg c1, if_neg c2]; omega
    · rw [List.length_append, List.length_singleton] at hjl
      have old : ∀ z, lo ≤ z → z < H.next → ¬ z = i → ((H.drop i).push ⟨ty, true, seg vs 0 ll.length ++ [x]⟩).row z = H.row z := fun z _ z2 z3 => by
        rw [AH.push_row, if_neg (by rw [AH.drop_next]; omega), AH.drop_row, if_neg z3]
      by_cases c : j < ll.length
      · obtain ⟨y, q, hy, hf⟩ := hj j c
        refine ⟨y, q, by rw [List.getElem?_append_left (by omega), hy], ?_⟩
        have e1 : (ll ++ [l]).getD j [] = ll.getD j [] := by simp [List.getD_eq_getElem?_getD, List.getElem?_append_left c]
        rw [e1]
        have c1 := mono_of_step gm (Nat.zero_le j)
        have c2 := mono_of_step gm (show j + 1 ≤ ll.length by omega)
        have f1 : Fr k ty' (b j) (b (j + 1)) ((H.drop i).push ⟨ty, true, seg vs 0 ll.length ++ [x]⟩) y q (ll.getD j []) := hf.same fun z z1 z2 => old z (by omega) (by omega) (by omega)
        dsimp only
        rw [if_pos c]
        by_cases c3 : j + 1 < ll.length
        · rw [if_pos c3]; exact f1
        · rw [if_neg c3, if_pos (by omega)]; exact f1.wide (Nat.le_refl _) (by omega)
      · have c4 : j = ll.length := by omega
        subst c4
        refine ⟨x, m, by rw [← hvl, List.getElem?_append_right (Nat.le_refl _)]; simp, ?_⟩
        have e1 : (ll ++ [l]).getD ll.length [] = l := by simp [List.getD_eq_getElem?_getD]
        rw [e1]
        dsimp only
        rw [if_neg (by omega), if_pos rfl, if_neg (by omega), if_neg (by omega)]
        exact hx.same fun z z1 z2 => old z (by omega) z2 (by omega)

end Go.Abs
end

section
set_option linter.unusedSimpArgs false
set_option linter.unusedVariables false
namespace Go.Abs
open Go Go.RowKit

structure Th where
  p : AH → (Nat → Prop) → Prop
  loc : ∀ (H H' : AH) (S S' : Nat → Prop), (∀ i, S i → S' i) → (∀ i r, S i → H.row i = some r → H'.row i = some r) → p H S → p H' S'

/-- A slice that is all of its row. -/
def Th.sl (k : Nat) (ty : TypeId) (v : Value) (n : Nat) (vs : List Value) : Th where
  p := fun H S => vs.length = n * k ∧ ((n = 0 ∧ v = .slice none 0 0) ∨ ∃ i, S i ∧ v = .slice (some ⟨i, 0, some k⟩) n n ∧ H.row i = some ⟨ty, true, vs⟩)
  loc := fun H H' S S' hS hr h => ⟨h.1, h.2.imp id fun ⟨i, h1, h2, h3⟩ => ⟨i, hS i h1, h2, hr i _ h1 h3⟩⟩
/-- A row. -/
def Th.row (i : Nat) (r : Row) : Th where
  p := fun H S => S i ∧ H.row i = some r
  loc := fun H H' S S' hS hr h => ⟨hS i h.1, hr i r h.1 h.2⟩
/-- Nothing. -/
def Th.no : Th where
  p := fun _ _ => True
  loc := fun _ _ _ _ _ _ _ => trivial
/-- A slice of slices. -/
def Th.sl2 {α : Type} (f : α → Value) (ty ty' : TypeId) (v : Value) (ll : List (List α)) : Th where
  p := fun H S => (ll = [] ∧ v = .slice none 0 0) ∨ ∃ (i : Nat) (vs : List Value) (o : Nat → Nat), S i ∧ o i = 0 ∧ v = .slice (some ⟨i, 0, some 1⟩) ll.length ll.length ∧ H.row i = some ⟨ty, true, vs⟩ ∧ vs.length = ll.length ∧
    ∀ j, j < ll.length → ∃ x, vs[j]? = some x ∧ (Th.sl 1 ty' x (ll.getD j []).length ((ll.getD j []).map f)).p H (fun z => S z ∧ o z = j + 1)
  loc := fun H H' S S' hS hr h => h.imp id fun ⟨i, vs, o, h1, h2, h3, h4, h5, h6⟩ => ⟨i, vs, o, hS i h1, h2, h3, hr i _ h1 h4, h5, fun j hj => by
    obtain ⟨x, hx, hp⟩ := h6 j hj
    exact ⟨x, hx, (Th.sl 1 ty' x _ _).loc H H' _ _ (fun z hz => ⟨hS z hz.1, hz.2⟩) (fun z r hz => hr z r hz.1) hp⟩⟩

structure Ow (B H : AH) (L : List Th) : Prop where
  sc : Sc H
  next : B.next ≤ H.next
  low : ∀ i, i < B.next → H.row i = B.row i
  own : ∃ o : Nat → Nat, ∀ (k : Nat) (p : Th), L[k]? = some p → p.p H (fun i => B.next ≤ i ∧ i < H.next ∧ o i = k)

theorem Ow.refl {H : AH} (h : Sc H) : Ow H H [] := ⟨h, Nat.le_refl _, fun _ _ => rfl, fun _ => 0, fun k p hk => by simp at hk⟩
theorem Ow.up {B H : AH} {L : List Th} (h : Ow B H L) : Up B.next B H := ⟨h.next, h.low⟩
theorem Ow.old {B H : AH} {L : List Th} (h : Ow B H L) (hs : ∀ i r, B.row i = some r → i < B.next) : ∀ i r, B.row i = some r → H.row i = some r := fun i r hr => by rw [h.low i (hs i r hr)]; exact hr

theorem set_get {L : List Th} {k j : Nat} {p p' q : Th} (hk : L[k]? = some p) (h : (L.set k p')[j]? = some q) : (j = k ∧ q = p') ∨ (j ≠ k ∧ L[j]? = some q) := by
  rw [List.getElem?_set] at h
  by_cases e : k = j
  · subst e
    rw [if_pos rfl, if_pos (List.getElem?_eq_some_iff.1 hk).1] at h
    exact .inl ⟨rfl, (Option.some.inj h).symm⟩
  · rw [if_neg e] at h
    exact .inr ⟨fun h => e h.symm, h⟩

def ownF (N : Nat) (a b : Nat → Nat) (i : Nat) : Nat := if N ≤ i then a i else b i
theorem ownF_ge {N i : Nat} (a b : Nat → Nat) (h : N ≤ i) : ownF N a b i = a i := by unfold ownF; rw [if_pos h]
theorem ownF_lt {N i : Nat} (a b : Nat → Nat) (h : i < N) : ownF N a b i = b i := by unfold ownF; rw [if_neg (by omega)]

/-- One thing is changed, in its own rows and in new ones. -/
theorem Ow.upd {B H H' : AH} {L : List Th} (h : Ow B H L) {k : Nat} {p p' : Th} (hk : L[k]? = some p) (hn : H.next ≤ H'.next) (hs : Sc H')
    (hp : ∀ S, (∀ i, S i → B.next ≤ i ∧ i < H.next) → p.p H S → (∀ i, i < H.next → ¬ S i → H'.row i = H.row i) ∧ ∀ S' : Nat → Prop, (∀ i, S i → S' i) → (∀ i, H.next ≤ i → i < H'.next → S' i) → p'.p H' S') :
    Ow B H' (L.set k p') := by
  obtain ⟨o, ho⟩ := h.own
  obtain ⟨h1, h2⟩ := hp _ (fun i hi => ⟨hi.1, hi.2.1⟩) (ho k p hk)
  have hb := h.next
  refine ⟨hs, Nat.le_trans hb hn, fun i hi => by rw [h1 i (by omega) (fun hh => by omega), h.low i hi], ownF H.next (fun _ => k) o, fun j q hj => ?_⟩
  rcases set_get hk hj with ⟨rfl, rfl⟩ | ⟨hne, hq⟩
  · refine h2 _ (fun i hi => ⟨hi.1, by omega, ?_⟩) fun i i1 i2 => ⟨by omega, i2, ?_⟩
    · rw [ownF_lt _ _ hi.2.1]; exact hi.2.2
    · rw [ownF_ge _ _ i1]
  · refine q.loc H H' _ _ (fun i hi => ⟨hi.1, by omega, ?_⟩) (fun i r hi hr => ?_) (ho j q hq)
    · rw [ownF_lt _ _ hi.2.1]; exact hi.2.2
    · rw [h1 i (by omega) (fun hh => hne (hi.2.2.symm.trans hh.2.2)), hr]

/-- A new thing in new rows. -/
theorem Ow.add {B H H' : AH} {L : List Th} (h : Ow B H L) (p' : Th) (hn : H.next ≤ H'.next) (hs : Sc H') (hr : ∀ i, i < H.next → H'.row i = H.row i)
    (hp : ∀ S : Nat → Prop, (∀ i, H.next ≤ i → i < H'.next → S i) → p'.p H' S) : Ow B H' (L ++ [p']) := by
  obtain ⟨o, ho⟩ := h.own
  have hb := h.next
  refine ⟨hs, Nat.le_trans hb hn, fun i hi => by rw [hr i (by omega), h.low i hi], ownF H.next (fun _ => L.length) o, fun j q hj => ?_⟩
  by_cases hjl : j < L.length
  · rw [List.getElem?_append_left hjl] at hj
    refine q.loc H H' _ _ (fun i hi => ⟨hi.1, by omega, ?_⟩) (fun i r hi hrr => by rw [hr i hi.2.1, hrr]) (ho j q hj)
    rw [ownF_lt _ _ hi.2.1]; exact hi.2.2
  · rw [List.getElem?_append_right (by omega)] at hj
    have hj0 : j = L.length := by
      have := (List.getElem?_eq_some_iff.1 hj).1
      simp at this; omega
    subst hj0
    simp at hj
    subst hj
    refine hp _ fun i i1 i2 => ⟨by omega, i2, ?_⟩
    rw [ownF_ge _ _ i1]

/-- What a callee has built over the heap of its call. -/
theorem Ow.call {B H H' : AH} {L M : List Th} (h : Ow B H L) (k : Ow H H' M) : Ow B H' (L ++ M) := by
  obtain ⟨o, ho⟩ := h.own
  obtain ⟨u, hu⟩ := k.own
  have hb := h.next
  have hn := k.next
  refine ⟨k.sc, Nat.le_trans hb hn, fun i hi => by rw [k.low i (by omega), h.low i hi], ownF H.next (fun i => L.length + u i) o, fun j q hj => ?_⟩
  by_cases hjl : j < L.length
  · rw [List.getElem?_append_left hjl] at hj
    refine q.loc H H' _ _ (fun i hi => ⟨hi.1, by omega, ?_⟩) (fun i r hi hrr => by rw [k.low i hi.2.1, hrr]) (ho j q hj)
    rw [ownF_lt _ _ hi.2.1]; exact hi.2.2
  · rw [List.getElem?_append_right (by omega)] at hj
    refine q.loc H' H' _ _ (fun i hi => ⟨by omega, hi.2.1, ?_⟩) (fun i r _ hr => hr) (hu _ q hj)
    rw [ownF_ge _ _ hi.1, hi.2.2]; omega

/-- Things in the same rows at another base. -/
theorem Ow.keep {B H H' : AH} {L : List Th} (h : Ow B H L) (hn : H.next ≤ H'.next) (hs : Sc H') (hr : ∀ i, i < H.next → H'.row i = H.row i) : Ow B H' L := by
  obtain ⟨o, ho⟩ := h.own
  have hb := h.next
  exact ⟨hs, Nat.le_trans hb hn, fun i hi => by rw [hr i (by omega), h.low i hi], o, fun j q hj => q.loc H H' _ _ (fun i hi => ⟨hi.1, by omega, hi.2.2⟩) (fun i r hi hrr => by rw [hr i hi.2.1, hrr]) (ho j q hj)⟩

/-- Some of the things, in any order, each once. -/
theorem Ow.sub {B H : AH} {L M : List Th} (h : Ow B H L) (f : Nat → Nat) (hf : ∀ j, j < M.length → L[f j]? = M[j]?) (hi : ∀ i j, i < M.length → j < M.length → f i = f j → i = j) : Ow B H M := by
  obtain ⟨o, ho⟩ := h.own
  classical
  refine ⟨h.sc, h.next, h.low, fun i => if hh : ∃ j, j < M.length ∧ f j = o i then Classical.choose hh else M.length, fun j q hj => ?_⟩
  have hjl := (List.getElem?_eq_some_iff.1 hj).1
  refine q.loc H H _ _ (fun i hh => ⟨hh.1, hh.2.1, ?_⟩) (fun i r _ hr => hr) (ho (f j) q (by rw [hf j hjl]; exact hj))
  have hex : ∃ z, z < M.length ∧ f z = o i := ⟨j, hjl, hh.2.2.symm⟩
  show (if hh : ∃ j, j < M.length ∧ f j = o i then Classical.choose hh else M.length) = j
  rw [dif_pos hex]
  obtain ⟨c1, c2⟩ := Classical.choose_spec hex
  exact hi _ _ c1 hjl (by rw [c2, ← hh.2.2])
theorem Ow.left {B H : AH} {L M : List Th} (h : Ow B H (L ++ M)) : Ow B H L :=
  h.sub (fun j => j) (fun j hj => by rw [List.getElem?_append_left hj]) fun _ _ _ _ h => h
theorem Ow.forget {B H : AH} {L : List Th} (h : Ow B H L) (k : Nat) : Ow B H (L.set k .no) := by
  obtain ⟨o, ho⟩ := h.own
  refine ⟨h.sc, h.next, h.low, o, fun j q hj => ?_⟩
  by_cases hk : k < L.length
  · rcases set_get (List.getElem?_eq_getElem hk) hj with ⟨_, rfl⟩ | ⟨_, h2⟩
    · trivial
    · exact ho j q h2
  · rw [List.set_eq_of_length_le (by omega)] at hj
    exact ho j q hj

/-! ### Reading -/
theorem Ow.at {B H : AH} {L : List Th} (h : Ow B H L) {k : Nat} {p : Th} (hk : L[k]? = some p) : ∃ S, (∀ i, S i → B.next ≤ i ∧ i < H.next) ∧ p.p H S := by
  obtain ⟨o, ho⟩ := h.own
  exact ⟨_, fun i hi => ⟨hi.1, hi.2.1⟩, ho k p hk⟩
theorem Ow.ne {B H : AH} {L : List Th} (h : Ow B H L) {j k a b : Nat} {p q : Th} (hj : L[j]? = some p) (hk : L[k]? = some q) (hjk : j ≠ k) (ha : ∀ S, p.p H S → S a) (hb : ∀ S, q.p H S → S b) : a ≠ b := by
  obtain ⟨o, ho⟩ := h.own
  have h1 := (ha _ (ho j p hj)).2.2
  have h2 := (hb _ (ho k q hk)).2.2
  intro e
  subst e
  omega
theorem Ow.len {B H : AH} {L : List Th} (h : Ow B H L) (k : Nat) {z n : Nat} {ty : TypeId} {v : Value} {vs : List Value} (hk : L[k]? = some (.sl z ty v n vs)) : vs.length = n * z := by
  obtain ⟨S, _, hp⟩ := h.at hk
  exact hp.1
theorem Ow.get {B H : AH} {L : List Th} (h : Ow B H L) (k : Nat) {z n : Nat} {ty : TypeId} {v : Value} {vs : List Value} (hk : L[k]? = some (.sl z ty v n vs)) (hn : 0 < n) :
    ∃ i, B.next ≤ i ∧ i < H.next ∧ v = .slice (some ⟨i, 0, some z⟩) n n ∧ H.row i = some ⟨ty, true, vs⟩ := by
  obtain ⟨S, hS, hp⟩ := h.at hk
  rcases hp.2 with ⟨h0, _⟩ | ⟨i, h1, h2, h3⟩
  · omega
  · exact ⟨i, (hS i h1).1, (hS i h1).2, h2, h3⟩
theorem Ow.getV {B H : AH} {L : List Th} (h : Ow B H L) (k : Nat) {z n i m c o : Nat} {u : Option Nat} {ty : TypeId} {vs : List Value} (hk : L[k]? = some (.sl z ty (.slice (some ⟨i, o, u⟩) m c) n vs)) :
    B.next ≤ i ∧ i < H.next ∧ H.row i = some ⟨ty, true, vs⟩ := by
  obtain ⟨S, hS, hp⟩ := h.at hk
  rcases hp.2 with ⟨h0, h1⟩ | ⟨i', h1, h2, h3⟩
  · cases h1
  · cases h2
    exact ⟨(hS i h1).1, (hS i h1).2, h3⟩
theorem Ow.rowAt {B H : AH} {L : List Th} (h : Ow B H L) (k : Nat) {i : Nat} {r : Row} (hk : L[k]? = some (.row i r)) : H.row i = some r ∧ B.next ≤ i ∧ i < H.next := by
  obtain ⟨S, hS, hp⟩ := h.at hk
  exact ⟨hp.2, hS i hp.1⟩
theorem Ow.one {B H : AH} {L : List Th} (h : Ow B H L) (k : Nat) {z n : Nat} {ty : TypeId} {v : Value} {vs : List Value} (hk : L[k]? = some (.sl z ty v n vs)) : v.oneCell' = true := by
  obtain ⟨S, _, hp⟩ := h.at hk
  rcases hp.2 with ⟨_, rfl⟩ | ⟨i, _, rfl, _⟩ <;> rfl
theorem Ow.fr {B H : AH} {L : List Th} (h : Ow B H L) (k : Nat) {z n : Nat} {ty : TypeId} {v : Value} {l : List Int} (hk : L[k]? = some (.sl z ty v n (ints l))) : Fr z ty B.next H.next H v n l := by
  obtain ⟨S, hS, hp⟩ := h.at hk
  refine ⟨by have := hp.1; rwa [ints_length] at this, hp.2.imp id fun ⟨i, h1, h2, h3⟩ => ⟨i, (hS i h1).1, (hS i h1).2, h2, h3⟩⟩
theorem Ow.rd {B H : AH} {L : List Th} (h : Ow B H L) (k : Nat) {z n : Nat} {ty : TypeId} {v : Value} {l : List Int} (hk : L[k]? = some (.sl z ty v n (ints l))) : Rd z H v n l := (h.fr k hk).rd
theorem Ow.lenV {B H : AH} {L : List Th} (h : Ow B H L) (k : Nat) {z n : Nat} {ty : TypeId} {v : Value} {vs : List Value} (hk : L[k]? = some (.sl z ty v n vs)) (H' : AH) : asSl v (.val (.int .i64 0) H') (fun _ _ _ n _ => .val (.int .i64 (n : Int)) H') = .val (.int .i64 (n : Int)) H' := by
  obtain ⟨S, _, hp⟩ := h.at hk
  rcases hp.2 with ⟨rfl, rfl⟩ | ⟨i, _, rfl, _⟩ <;> rfl
theorem sl_mem {z n i m c o : Nat} {u : Option Nat} {ty : TypeId} {vs : List Value} {H : AH} (S : Nat → Prop) (h : (Th.sl z ty (.slice (some ⟨i, o, u⟩) m c) n vs).p H S) : S i := by
  rcases h.2 with ⟨h0, h1⟩ | ⟨i', h1, h2, h3⟩
  · cases h1
  · cases h2; exact h1

/-! ### New things, writing -/
theorem Ow.push {B H : AH} {L : List Th} (h : Ow B H L) (r : Row) : Ow B (H.push r) (L ++ [.row H.next r]) :=
  h.add _ (Nat.le_succ _) (h.sc.push r) (fun i hi => by rw [AH.push_row, if_neg (by omega)]) fun S hS => ⟨hS _ (Nat.le_refl _) (Nat.lt_succ_self _), by rw [AH.push_row, if_pos rfl]⟩
theorem Ow.tmp {B H : AH} {L : List Th} (h : Ow B H L) (r : Row) : Ow B (H.push r) L :=
  h.keep (Nat.le_succ _) (h.sc.push r) fun i hi => by rw [AH.push_row, if_neg (by omega)]
theorem Ow.pushSl {B H : AH} {L : List Th} (h : Ow B H L) {k n : Nat} {ty : TypeId} {vs : List Value} (hl : vs.length = n * k) : Ow B (H.push ⟨ty, true, vs⟩) (L ++ [.sl k ty (.slice (some ⟨H.next, 0, some k⟩) n n) n vs]) :=
  h.add _ (Nat.le_succ _) (h.sc.push _) (fun i hi => by rw [AH.push_row, if_neg (by omega)]) fun S hS => ⟨hl, .inr ⟨H.next, hS _ (Nat.le_refl _) (Nat.lt_succ_self _), rfl, by rw [AH.push_row, if_pos rfl]⟩⟩
theorem Ow.addNil {B H : AH} {L : List Th} (h : Ow B H L) (k : Nat) (ty : TypeId) : Ow B H (L ++ [.sl k ty (.slice none 0 0) 0 []]) :=
  h.add _ (Nat.le_refl _) h.sc (fun _ _ => rfl) fun S hS => ⟨by simp, .inl ⟨rfl, rfl⟩⟩
theorem Ow.put {B H : AH} {L : List Th} (h : Ow B H L) (k : Nat) {z n i m c o : Nat} {u : Option Nat} {ty : TypeId} {vs vs' : List Value} (hk : L[k]? = some (.sl z ty (.slice (some ⟨i, o, u⟩) m c) n vs)) (hl : vs'.length = vs.length) :
    Ow B (H.setCells i vs') (L.set k (.sl z ty (.slice (some ⟨i, o, u⟩) m c) n vs')) := by
  refine h.upd hk (Nat.le_refl _) (h.sc.set _ _) fun S hS hp => ?_
  have hi := sl_mem S hp
  refine ⟨fun j hj hjS => by rw [AH.setCells_row, if_neg (fun e => hjS (by rw [e]; exact hi))], fun S' hS' _ => ?_⟩
  rcases hp.2 with ⟨_, h1⟩ | ⟨i', h1, h2, h3⟩
  · cases h1
  · cases h2
    exact ⟨by rw [hl]; exact hp.1, .inr ⟨i, hS' i h1, rfl, by rw [AH.setCells_row, if_pos rfl, h3]; rfl⟩⟩
theorem Ow.putRow {B H : AH} {L : List Th} (h : Ow B H L) (k : Nat) {i : Nat} {ty : TypeId} {b : Bool} {cs cs' : List Value} (hk : L[k]? = some (.row i ⟨ty, b, cs⟩)) :
    Ow B (H.setCells i cs') (L.set k (.row i ⟨ty, b, cs'⟩)) := by
  refine h.upd hk (Nat.le_refl _) (h.sc.set _ _) fun S hS hp => ?_
  exact ⟨fun j hj hjS => by rw [AH.setCells_row, if_neg (fun e => hjS (by rw [e]; exact hp.1))], fun S' hS' _ => ⟨hS' i hp.1, by rw [AH.setCells_row, if_pos rfl, hp.2]; rfl⟩⟩
/-- A slice is kept by another name. -/
theorem Ow.row_sl {B H : AH} {L : List Th} (h : Ow B H L) (k : Nat) {i z n : Nat} {ty : TypeId} {cs : List Value} (hk : L[k]? = some (.row i ⟨ty, true, cs⟩)) (hl : cs.length = n * z) :
    Ow B H (L.set k (.sl z ty (.slice (some ⟨i, 0, some z⟩) n n) n cs)) :=
  h.upd hk (Nat.le_refl _) h.sc fun S hS hp => ⟨fun _ _ _ => rfl, fun S' hS' _ => ⟨hl, .inr ⟨i, hS' i hp.1, rfl, hp.2⟩⟩⟩

theorem Ow.app {P : Program} {E : TI} {z n c : Nat} {ty : TypeId} {B H : AH} {L : List Th} {v : Value} {vs ms : List Value} {K : Value → AH → Prop} (h : Ow B H L) (k : Nat) (hk : L[k]? = some (.sl z ty v n vs)) (hz : E.size = z) (hz0 : 0 < z) (hm : ms.length = c * z) (hc : 0 < c) (hb : E.bytes ≤ 32768) (hn : n + c ≤ 4294967296)
    (hK : ∀ v' H', H'.next = H.next + 1 → Ow B H' (L.set k (.sl z ty v' (n + c) (vs ++ ms))) → K v' H') : runOut P H (appE E ty v ms c H) K := by
  subst hz
  obtain ⟨S, hS, hp⟩ := h.at hk
  have hl := hp.1
  unfold appE
  rw [if_neg (by omega)]
  rcases hp.2 with ⟨rfl, rfl⟩ | ⟨i, h1, rfl, hr⟩
  · simp only [asSl_nil, runOut_need, runOut_val]
    have hv0 : vs = [] := List.eq_nil_of_length_eq_zero (by omega)
    subst hv0
    refine ⟨⟨by omega, hb⟩, hK _ _ rfl (h.upd hk (Nat.le_succ _) (h.sc.push _) fun S hS hp => ⟨fun j hj _ => by rw [AH.push_row, if_neg (by omega)], fun S' _ hN => ⟨by simp [hm], .inr ⟨H.next, hN _ (Nat.le_refl _) (Nat.lt_succ_self _), by simp, by rw [AH.push_row, if_pos rfl]; rfl⟩⟩⟩)⟩
  · simp only [asSl_some, hr, bindO_some, runOut_need, Nat.zero_add, hl]
    refine ⟨⟨by omega, hb, Nat.le_refl _, .inl rfl⟩, ?_⟩
    rw [if_neg (by rw [Nat.add_mul]; have := Nat.mul_pos hc hz0; omega)]
    simp only [runOut_need, runOut_val]
    refine ⟨⟨trivial, trivial, hz0, trivial, trivial⟩, hK _ _ rfl (h.upd hk (Nat.le_succ _) ((h.sc.drop i).push _) fun S hS hp => ?_)⟩
    have hi := sl_mem S hp
    refine ⟨fun j hj hjS => ?_, fun S' _ hN => ⟨by simp [hm, hl, Nat.add_mul], .inr ⟨H.next, hN _ (Nat.le_refl _) (Nat.lt_succ_self _), rfl, ?_⟩⟩⟩
    · rw [AH.push_row, if_neg (by rw [AH.drop_next]; omega), AH.drop_row, if_neg (fun e => hjS (by rw [e]; exact hi))]
    · rw [AH.push_row, AH.drop_next, if_pos rfl, seg_all _ _ hl.symm]

/-! ### From and to contracts with bounds -/
theorem Ow.of_fr {z n : Nat} {ty : TypeId} {H H' : AH} {v : Value} {l : List Int} (up : Up H.next H H') (sc : Sc H') (h : Fr z ty H.next H'.next H' v n l) : Ow H H' [.sl z ty v n (ints l)] := by
  refine ⟨sc, up.next, up.row, fun _ => 0, fun k p hk => ?_⟩
  have hk0 : k = 0 := by
    have := (List.getElem?_eq_some_iff.1 hk).1
    simp at this; omega
  subst hk0
  simp at hk
  subst hk
  exact ⟨by rw [ints_length]; exact h.1, h.2.imp id fun ⟨i, h1, h2, h3, h4⟩ => ⟨i, ⟨h1, h2, rfl⟩, h3, h4⟩⟩
theorem Ow.of_up {H H' : AH} (up : Up H.next H H') (sc : Sc H') : Ow H H' [] := ⟨sc, up.next, up.row, fun _ => 0, fun k p hk => by simp at hk⟩
end Go.Abs
end

section
set_option linter.unusedSimpArgs false
set_option linter.unusedVariables false
namespace Go.Abs

/-- All orders of the numbers that begin with a list that wants so many more. -/
def ordN (nums : List Int) : Nat → List Int → List (List Int)
  | 0, y => [y]
  | f + 1, y => nums.flatMap fun x => if y.contains x = true then [] else ordN nums f (y ++ [x])
/-- Those whose next number is one of the first c. -/
def ordP (nums : List Int) (f : Nat) (y : List Int) (c : Nat) : List (List Int) := (nums.take c).flatMap fun x => if y.contains x = true then [] else ordN nums f (y ++ [x])
theorem ordP_zero (nums : List Int) (f : Nat) (y : List Int) : ordP nums f y 0 = [] := rfl
theorem ordP_all (nums : List Int) (f : Nat) (y : List Int) : ordP nums f y nums.length = ordN nums (f + 1) y := by
  unfold ordP; rw [List.take_length]; rfl
theorem ordP_succ (nums : List Int) (f : Nat) (y : List Int) (c : Nat) (hc : c < nums.length) : ordP nums f y (c + 1) = ordP nums f y c ++ (if y.contains (nums.getD c 0) = true then [] else ordN nums f (y ++ [nums.getD c 0])) := by
  unfold ordP
  rw [List.take_add_one, List.getElem?_eq_getElem hc, List.flatMap_append, List.getD_eq_getElem?_getD, List.getElem?_eq_getElem hc]
  simp
/-- The first of them are a beginning of all of them. -/
theorem ordP_pre (nums : List Int) (f : Nat) (y : List Int) (c : Nat) (hc : c < nums.length) : ∃ L, ordN nums (f + 1) y = ordP nums f y (c + 1) ++ L := by
  refine ⟨(nums.drop (c + 1)).flatMap fun x => if y.contains x = true then [] else ordN nums f (y ++ [x]), ?_⟩
  have h : ordN nums (f + 1) y = nums.flatMap fun x => if y.contains x = true then [] else ordN nums f (y ++ [x]) := rfl
  rw [h]
  unfold ordP
  rw [← List.flatMap_append, List.take_append_drop]
theorem any_contains (y : List Int) (x : Int) : ((List.range y.length).any fun i => y.getD i 0 == x) = y.contains x := by
  rw [Bool.eq_iff_iff, List.any_eq_true, List.contains_iff_mem]
  constructor
  · rintro ⟨i, hi, h⟩
    have hi' : i < y.length := by simpa using hi
    rw [List.getD_eq_getElem?_getD, List.getElem?_eq_getElem hi'] at h
    have : y[i] = x := by simpa using h
    rw [← this]; exact List.getElem_mem _
  · intro h
    obtain ⟨i, hi, rfl⟩ := List.mem_iff_getElem.1 h
    exact ⟨i, by simpa using hi, by simp [hi]⟩
/-- Numbers from a on. -/
theorem seq_len_le (nums : List Int) (f : Nat) (y : List Int) : (ordN nums f y).length ≤ nums.length ^ f := by
  induction f generalizing y with
  | zero => simp [ordN]
  | succ f ih =>
    unfold ordN
    have : ∀ l : List Int, (l.flatMap fun x => if y.contains x = true then [] else ordN nums f (y ++ [x])).length ≤ l.length * nums.length ^ f := by
      intro l
      induction l with
      | nil => simp
      | cons x l ihl =>
        rw [List.flatMap_cons, List.length_append, List.length_cons, Nat.succ_mul]
        have h1 : (if y.contains x = true then [] else ordN nums f (y ++ [x])).length ≤ nums.length ^ f := by
          split
          · simp
          · exact ih _
        omega
    have h := this nums
    rw [Nat.pow_succ, Nat.mul_comm]; exact h
end Go.Abs
end

section
set_option linter.unusedSimpArgs false
set_option linter.unusedVariables false
namespace Go.Abs

/-- a is ahead of b. -/
def ahd (p s t : List Int) (a b : Int) : Bool :=
  decide (p.getD b.toNat 0 < p.getD a.toNat 0) || (decide (p.getD a.toNat 0 = p.getD b.toNat 0) && (decide (s.getD b.toNat 0 < s.getD a.toNat 0) || (decide (s.getD a.toNat 0 = s.getD b.toNat 0) && decide (t.getD b.toNat 0 < t.getD a.toNat 0))))
def cmpI (x y : Int) : Int := if x < y then -1 else if y < x then 1 else 0
def orI (x y z : Int) : Int := if x ≠ 0 then x else if y ≠ 0 then y else z
def cmpR (p s t : List Int) (a b : Int) : Int := orI (cmpI (p.getD b.toNat 0) (p.getD a.toNat 0)) (cmpI (s.getD b.toNat 0) (s.getD a.toNat 0)) (cmpI (t.getD b.toNat 0) (t.getD a.toNat 0))
theorem cmpI_range (x y : Int) : -1 ≤ cmpI x y ∧ cmpI x y ≤ 1 := by unfold cmpI; split <;> (try split) <;> omega
theorem cmpR_range (p s t : List Int) (a b : Int) : -1 ≤ cmpR p s t a b ∧ cmpR p s t a b ≤ 1 := by
  unfold cmpR orI
  split
  · exact cmpI_range _ _
  · split <;> exact cmpI_range _ _
theorem cmpR_ahd (p s t : List Int) (a b : Int) : decide (cmpR p s t a b < 0) = ahd p s t a b := by
  unfold cmpR ahd
  generalize p.getD b.toNat 0 = p1
  generalize p.getD a.toNat 0 = p2
  generalize s.getD b.toNat 0 = s1
  generalize s.getD a.toNat 0 = s2
  generalize t.getD b.toNat 0 = t1
  generalize t.getD a.toNat 0 = t2
  rw [Bool.eq_iff_iff]
  simp only [decide_eq_true_eq, Bool.or_eq_true, Bool.and_eq_true]
  unfold orI cmpI
  repeat' split
  all_goals omega

def insAt (l : List Int) (j : Nat) (x : Int) : List Int := l.take j ++ x :: l.drop j
theorem insAt_length {l : List Int} {j : Nat} (hj : j ≤ l.length) (x : Int) : (insAt l j x).length = l.length + 1 := by
  unfold insAt; simp; omega
theorem insAt_set {l : List Int} {j : Nat} (hj : j ≤ l.length) (x y : Int) : (insAt l j y).set j x = insAt l j x := by
  unfold insAt
  have h : (l.take j).length = j := by simp; omega
  rw [List.set_append_right _ _ (by omega), h, Nat.sub_self, List.set_cons_zero]
theorem insAt_get {l : List Int} {j i : Nat} (hi : i < j) (hj : j ≤ l.length) (y : Int) : (insAt l j y).getD i 0 = l.getD i 0 := by
  unfold insAt
  have h : (l.take j).length = j := by simp; omega
  rw [List.getD_eq_getElem?_getD, List.getElem?_append_left (by omega), List.getElem?_take_of_lt hi, ← List.getD_eq_getElem?_getD]
theorem insAt_at {l : List Int} {j : Nat} (hj : j ≤ l.length) (y : Int) : (insAt l j y).getD j 0 = y := by
  unfold insAt
  have h : (l.take j).length = j := by simp; omega
  rw [List.getD_eq_getElem?_getD, List.getElem?_append_right (by omega), h, Nat.sub_self]
  rfl
theorem insAt_step {l : List Int} {j : Nat} (hj : j + 1 ≤ l.length) : insAt l (j + 1) (l.getD j 0) = insAt l j (l.getD j 0) := by
  unfold insAt
  have e1 : l.take (j + 1) = l.take j ++ [l.getD j 0] := by
    rw [List.take_add_one, List.getElem?_eq_getElem (by omega), List.getD_eq_getElem?_getD, List.getElem?_eq_getElem (by omega)]; rfl
  have e2 : l.drop j = l.getD j 0 :: l.drop (j + 1) := by
    rw [List.getD_eq_getElem?_getD, List.getElem?_eq_getElem (by omega)]
    exact List.drop_eq_getElem_cons (by omega)
  rw [e1, e2]; simp
theorem insAt_end (l : List Int) (x : Int) : insAt l l.length x = l ++ [x] := by unfold insAt; simp
/-- Where the new one comes to. -/
def bubAt (g : Int → Int → Bool) (l : List Int) (x : Int) : Nat → Nat
  | 0 => 0
  | j + 1 => if g x (l.getD j 0) = true then bubAt g l x j else j + 1
theorem bubAt_le (g : Int → Int → Bool) (l : List Int) (x : Int) : ∀ j, bubAt g l x j ≤ j
  | 0 => Nat.le_refl _
  | j + 1 => by unfold bubAt; split; exact Nat.le_succ_of_le (bubAt_le g l x j); exact Nat.le_refl _
theorem bubAt_yes {g : Int → Int → Bool} {l : List Int} {x : Int} {j : Nat} (h : g x (l.getD j 0) = true) : bubAt g l x (j + 1) = bubAt g l x j := by
  conv => lhs; unfold bubAt
  rw [if_pos h]
theorem bubAt_no {g : Int → Int → Bool} {l : List Int} {x : Int} {j : Nat} (h : g x (l.getD j 0) = false) : bubAt g l x (j + 1) = j + 1 := by
  conv => lhs; unfold bubAt
  rw [h, if_neg (by simp)]
theorem bubAt_zero (g : Int → Int → Bool) (l : List Int) (x : Int) : bubAt g l x 0 = 0 := rfl
def rankL (g : Int → Int → Bool) : Nat → List Int
  | 0 => []
  | i + 1 => insAt (rankL g i) (bubAt g (rankL g i) i i) i
theorem rankL_length (g : Int → Int → Bool) : ∀ i, (rankL g i).length = i
  | 0 => rfl
  | i + 1 => by
    show (insAt (rankL g i) (bubAt g (rankL g i) i i) i).length = i + 1
    rw [insAt_length (by rw [rankL_length g i]; exact bubAt_le _ _ _ _), rankL_length g i]
theorem rankL_succ (g : Int → Int → Bool) (i : Nat) : rankL g (i + 1) = insAt (rankL g i) (bubAt g (rankL g i) i i) i := rfl
theorem rankL_mem (g : Int → Int → Bool) : ∀ i x, x ∈ rankL g i → 0 ≤ x ∧ x < (i : Int)
  | 0, x, h => by simp [rankL] at h
  | i + 1, x, h => by
    rw [rankL_succ] at h
    unfold insAt at h
    rcases List.mem_append.1 h with h | h
    · have := rankL_mem g i x (List.mem_of_mem_take h); omega
    · rcases List.mem_cons.1 h with h | h
      · omega
      · have := rankL_mem g i x (List.mem_of_mem_drop h); omega
theorem rankL_get (g : Int → Int → Bool) (i j : Nat) (h : j < i) : 0 ≤ (rankL g i).getD j 0 ∧ (rankL g i).getD j 0 < (i : Int) :=
  rankL_mem g i _ (by rw [List.getD_eq_getElem?_getD, List.getElem?_eq_getElem (by rw [rankL_length]; exact h)]; exact List.getElem_mem _)
theorem seqL_cons (a : Int) (n : Nat) : seqL a (n + 1) = a :: seqL (a + 1) n := by
  unfold seqL
  rw [List.range_succ_eq_map, List.map_cons, List.map_map]
  congr 1
  · show a + ((0 : Nat) : Int) = a
    omega
  · apply List.map_congr_left
    intro i _
    show a + ((i + 1 : Nat) : Int) = a + 1 + (i : Int)
    omega
theorem rank_next (g : Int → Int → Bool) (i n : Nat) (h : i < n) : rankL g i ++ seqL i (n - i) = insAt (rankL g i) i i ++ seqL ((i + 1 : Nat) : Int) (n - (i + 1)) := by
  have hl := rankL_length g i
  have e : insAt (rankL g i) i i = rankL g i ++ [(i : Int)] := by
    have := insAt_end (rankL g i) (i : Int)
    rw [hl] at this
    exact this
  rw [e, show n - i = (n - (i + 1)) + 1 by omega, seqL_cons]
  rw [show ((i + 1 : Nat) : Int) = (i : Int) + 1 by omega]
  simp
theorem rank_first (g : Int → Int → Bool) (n : Nat) (h : 0 < n) : seqL 0 n = rankL g 1 ++ seqL ((1 : Nat) : Int) (n - 1) := by
  rw [show n = (n - 1) + 1 by omega, seqL_cons]
  rfl
end Go.Abs
end

section
set_option linter.unusedSimpArgs false
set_option linter.unusedVariables false
namespace Go.Abs

def meetN (now : List Int) (a b : Nat) : List Int := (now.set a (b : Int)).set b (a : Int)
/-- The first free team from a on, of d. -/
def fstF (now : List Int) : Nat → Nat → Nat
  | 0, a => a
  | d + 1, a => if now.getD a 0 = (a : Int) then a else fstF now d (a + 1)
theorem fstF_ge (now : List Int) : ∀ d a, a ≤ fstF now d a ∧ fstF now d a ≤ a + d
  | 0, a => ⟨Nat.le_refl _, Nat.le_refl _⟩
  | d + 1, a => by
    unfold fstF
    have := fstF_ge now d (a + 1)
    split <;> omega
theorem fstF_met (now : List Int) : ∀ d a j, a ≤ j → j < fstF now d a → now.getD j 0 ≠ (j : Int)
  | 0, a, j, h1, h2 => by unfold fstF at h2; omega
  | d + 1, a, j, h1, h2 => by
    unfold fstF at h2
    split at h2
    · omega
    · rename_i hn
      by_cases e : j = a
      · rw [e]; exact hn
      · exact fstF_met now d (a + 1) j (by omega) h2
theorem fstF_free (now : List Int) : ∀ d a, fstF now d a < a + d → now.getD (fstF now d a) 0 = (fstF now d a : Int)
  | 0, a, h => by unfold fstF at h; omega
  | d + 1, a, h => by
    unfold fstF at h ⊢
    split
    · rename_i hy; exact hy
    · rename_i hn
      rw [if_neg hn] at h
      exact fstF_free now d (a + 1) (by omega)
theorem fstF_step {now : List Int} {n a : Nat} (h : a < n) (hn : now.getD a 0 ≠ (a : Int)) : fstF now (n - a) a = fstF now (n - (a + 1)) (a + 1) := by
  rw [show n - a = (n - (a + 1)) + 1 by omega]
  show (if _ then _ else _) = _
  rw [if_neg hn]
theorem fstF_here {now : List Int} {n a : Nat} (h : a < n) (hy : now.getD a 0 = (a : Int)) : fstF now (n - a) a = a := by
  rw [show n - a = (n - (a + 1)) + 1 by omega]
  show (if _ then _ else _) = _
  rw [if_pos hy]
theorem fstF_end {now : List Int} {n : Nat} : fstF now (n - n) n = n := by rw [Nat.sub_self]; rfl

/-- All rounds that go on with a round, from the place a on. -/
def matB (rec : List Int → Nat → List (List Int)) (mt : Nat → Nat → Bool) (now : List Int) (a b : Nat) : List (List Int) :=
  if now.getD b 0 ≠ (b : Int) ∨ mt a b = true then [] else rec (meetN now a b) (a + 1)
def matF (n : Nat) (mt : Nat → Nat → Bool) : Nat → List Int → Nat → List (List Int)
  | 0, _, _ => []
  | f + 1, now, a => if fstF now (n - a) a = n then [now] else
    (List.range' (fstF now (n - a) a + 1) (n - (fstF now (n - a) a + 1))).flatMap fun b => matB (matF n mt f) mt now (fstF now (n - a) a) b

/-- A round on the way: 14 places, those below n hold numbers below n. -/
def NowOk (n : Nat) (now : List Int) : Prop := now.length = 14 ∧ ∀ j, j < n → 0 ≤ now.getD j 0 ∧ now.getD j 0 < (n : Int)
theorem getD_setI (l : List Int) (i : Nat) (x : Int) (j : Nat) (h : i < l.length) : (l.set i x).getD j 0 = if j = i then x else l.getD j 0 := by
  simp only [List.getD_eq_getElem?_getD, List.getElem?_set]
  by_cases e : i = j
  · subst e; rw [if_pos rfl, if_pos h, if_pos rfl]; rfl
  · rw [if_neg e, if_neg (Ne.symm e)]
theorem meetN_get {now : List Int} {a b : Nat} (hl : now.length = 14) (ha : a < 14) (hb : b < 14) (j : Nat) : (meetN now a b).getD j 0 = if j = b then (a : Int) else if j = a then (b : Int) else now.getD j 0 := by
  unfold meetN
  rw [getD_setI _ _ _ _ (by rw [List.length_set]; omega), getD_setI _ _ _ _ (by omega)]
theorem meetN_length (now : List Int) (a b : Nat) : (meetN now a b).length = now.length := by simp [meetN]
theorem NowOk.meet {n : Nat} {now : List Int} {a b : Nat} (h : NowOk n now) (hn : n ≤ 14) (ha : a < n) (hb : b < n) : NowOk n (meetN now a b) := by
  refine ⟨by rw [meetN_length]; exact h.1, fun j hj => ?_⟩
  rw [meetN_get h.1 (by omega) (by omega)]
  have := h.2 j hj
  split
  · omega
  · split <;> omega
theorem list14 {l m : List Int} (hl : l.length = 14) (hm : m.length = 14) (h : ∀ j, j < 14 → l.getD j 0 = m.getD j 0) : l = m := by
  apply List.ext_getElem (by omega)
  intro i h1 h2
  have := h i (by omega)
  rw [List.getD_eq_getElem?_getD, List.getD_eq_getElem?_getD, List.getElem?_eq_getElem h1, List.getElem?_eq_getElem h2] at this
  exact this
theorem meetN_back {now : List Int} {a b : Nat} (hl : now.length = 14) (ha : a < 14) (hb : b < 14) (h1 : now.getD a 0 = (a : Int)) (h2 : now.getD b 0 = (b : Int)) : ((meetN now a b).set a (a : Int)).set b (b : Int) = now := by
  refine list14 (by simp [meetN_length, hl]) hl fun j hj => ?_
  rw [getD_setI _ _ _ _ (by simp [meetN_length, hl]; omega), getD_setI _ _ _ _ (by simp [meetN_length, hl]; omega), meetN_get hl ha hb]
  split
  · rename_i e; rw [e, h2]
  · split
    · rename_i e; rw [e, h1]
    · rfl

/-- Calling for each in turn, till one says no. -/
def foldE {σ : Type} (step : σ → List Int → Bool × σ) : List (List Int) → σ → Bool × σ
  | [], s => (true, s)
  | r :: rs, s => if (step s r).1 = true then foldE step rs (step s r).2 else (false, (step s r).2)
theorem foldE_append {σ : Type} (step : σ → List Int → Bool × σ) : ∀ (xs ys : List (List Int)) (s : σ), foldE step (xs ++ ys) s = if (foldE step xs s).1 = true then foldE step ys (foldE step xs s).2 else (false, (foldE step xs s).2)
  | [], ys, s => by simp [foldE]
  | x :: xs, ys, s => by
    rw [List.cons_append]
    by_cases h : (step s x).1 = true
    · have h2 : foldE step (x :: xs) s = foldE step xs (step s x).2 := by
        show (if _ then _ else _) = _
        rw [if_pos h]
      have h3 : foldE step (x :: (xs ++ ys)) s = foldE step (xs ++ ys) (step s x).2 := by
        show (if _ then _ else _) = _
        rw [if_pos h]
      rw [h3, h2]; exact foldE_append step xs ys _
    · have h2 : foldE step (x :: xs) s = (false, (step s x).2) := by
        show (if _ then _ else _) = _
        rw [if_neg h]
      have h3 : foldE step (x :: (xs ++ ys)) s = (false, (step s x).2) := by
        show (if _ then _ else _) = _
        rw [if_neg h]
      rw [h3, h2]; simp
theorem foldE_one {σ : Type} (step : σ → List Int → Bool × σ) (r : List Int) (s : σ) : foldE step [r] s = step s r := by
  unfold foldE
  by_cases h : (step s r).1 = true
  · rw [if_pos h]; unfold foldE; rw [← h]
  · rw [if_neg h]
    have : (step s r).1 = false := by simpa using h
    rw [← this]

/-! ### Renumbering by a ranking -/
structure PermN (n : Nat) (R : List Int) : Prop where
  len : R.length = n
  rng : ∀ j, j < n → 0 ≤ R.getD j 0 ∧ R.getD j 0 < (n : Int)
  inj : ∀ i j, i < n → j < n → R.getD i 0 = R.getD j 0 → i = j
  sur : ∀ x, x < n → ∃ j, j < n ∧ R.getD j 0 = (x : Int)
def renF (R now : List Int) : Nat → List Int
  | 0 => List.replicate 14 0
  | c + 1 => (renF R now c).set (R.getD c 0).toNat (R.getD (now.getD c 0).toNat 0)
theorem renF_length (R now : List Int) : ∀ c, (renF R now c).length = 14
  | 0 => rfl
  | c + 1 => by show (List.set _ _ _).length = _; rw [List.length_set, renF_length R now c]
theorem renF_succ (R now : List Int) (c : Nat) : renF R now (c + 1) = (renF R now c).set (R.getD c 0).toNat (R.getD (now.getD c 0).toNat 0) := rfl
theorem renF_get {n : Nat} {R now : List Int} (hn : n ≤ 14) (h : PermN n R) : ∀ c, c ≤ n → ∀ j, j < c → (renF R now c).getD (R.getD j 0).toNat 0 = R.getD (now.getD j 0).toNat 0
  | 0, _, j, hj => by omega
  | c + 1, hc, j, hj => by
    have h1 := h.rng c (by omega)
    have h2 := h.rng j (by omega)
    rw [renF_succ, getD_setI _ _ _ _ (by rw [renF_length]; omega)]
    by_cases e : j = c
    · rw [e, if_pos rfl]
    · rw [if_neg (fun k => e (h.inj j c (by omega) (by omega) (by omega)))]
      exact renF_get hn h c (by omega) j (by omega)
theorem renF_hi {n : Nat} {R now : List Int} (hn : n ≤ 14) (h : PermN n R) : ∀ c, c ≤ n → ∀ x, n ≤ x → (renF R now c).getD x 0 = 0
  | 0, _, x, hx => by
    show (List.replicate 14 (0 : Int)).getD x 0 = 0
    rw [List.getD_eq_getElem?_getD, List.getElem?_replicate]; split <;> rfl
  | c + 1, hc, x, hx => by
    have h1 := h.rng c (by omega)
    rw [renF_succ, getD_setI _ _ _ _ (by rw [renF_length]; omega), if_neg (by omega)]
    exact renF_hi hn h c (by omega) x hx
theorem ren_ext {n : Nat} {R now l : List Int} (hn : n ≤ 14) (h : PermN n R) (hl : l.length = 14) (h1 : ∀ j, j < n → l.getD (R.getD j 0).toNat 0 = R.getD (now.getD j 0).toNat 0) (h2 : ∀ x, n ≤ x → l.getD x 0 = 0) : l = renF R now n := by
  refine list14 hl (renF_length _ _ _) fun x hx => ?_
  by_cases hxn : x < n
  · obtain ⟨j, hj, e⟩ := h.sur x hxn
    have e2 : (R.getD j 0).toNat = x := by omega
    have k1 := h1 j hj
    have k2 := renF_get hn h n (Nat.le_refl _) j hj (now := now)
    rw [e2] at k1 k2
    rw [k1, k2]
  · rw [h2 x (by omega), renF_hi hn h n (Nat.le_refl _) x (by omega)]
theorem ren_meet {n : Nat} {R now : List Int} {i k : Nat} (hn : n ≤ 14) (h : PermN n R) (hnow : NowOk n now) (hi : i < n) (hk : k < n) (hik : i ≠ k) :
    ((renF R now n).set (R.getD i 0).toNat (R.getD k 0)).set (R.getD k 0).toNat (R.getD i 0) = renF R (meetN now i k) n := by
  have ri := h.rng i hi
  have rk := h.rng k hk
  refine ren_ext hn h (by simp [renF_length]) (fun j hj => ?_) fun x hx => ?_
  · have rj := h.rng j hj
    rw [getD_setI _ _ _ _ (by rw [List.length_set, renF_length]; omega), getD_setI _ _ _ _ (by rw [renF_length]; omega), meetN_get hnow.1 (by omega) (by omega)]
    by_cases e1 : j = k
    · rw [e1, if_pos rfl, if_pos rfl, Int.toNat_natCast]
    · rw [if_neg (fun e => e1 (h.inj j k hj hk (by omega))), if_neg e1]
      by_cases e2 : j = i
      · rw [e2, if_pos rfl, if_pos rfl, Int.toNat_natCast]
      · rw [if_neg (fun e => e2 (h.inj j i hj hi (by omega))), if_neg e2, renF_get hn h n (Nat.le_refl _) j hj]
  · rw [getD_setI _ _ _ _ (by rw [List.length_set, renF_length]; omega), getD_setI _ _ _ _ (by rw [renF_length]; omega), if_neg (by omega), if_neg (by omega), renF_hi hn h n (Nat.le_refl _) x hx]
theorem ren_iff {n : Nat} {R now : List Int} {j : Nat} (hn : n ≤ 14) (h : PermN n R) (hnow : NowOk n now) (hj : j < n) : (renF R now n).getD (R.getD j 0).toNat 0 = R.getD j 0 ↔ now.getD j 0 = (j : Int) := by
  rw [renF_get hn h n (Nat.le_refl _) j hj]
  have h1 := hnow.2 j hj
  constructor
  · intro e
    have := h.inj _ _ (by omega) hj e
    omega
  · intro e; rw [e, Int.toNat_natCast]

theorem rankL_all (g : Int → Int → Bool) : ∀ (i x : Nat), x < i → (x : Int) ∈ rankL g i
  | 0, x, h => by omega
  | i + 1, x, h => by
    rw [rankL_succ]
    unfold insAt
    by_cases e : x = i
    · subst e; simp
    · have := rankL_all g i x (by omega)
      rw [← List.take_append_drop (bubAt g (rankL g i) i i) (rankL g i)] at this
      rcases List.mem_append.1 this with h | h
      · exact List.mem_append.2 (.inl h)
      · exact List.mem_append.2 (.inr (List.mem_cons_of_mem _ h))
theorem rankL_nodup (g : Int → Int → Bool) : ∀ i, (rankL g i).Nodup
  | 0 => by simp [rankL]
  | i + 1 => by
    rw [rankL_succ]
    unfold insAt
    have h1 := rankL_nodup g i
    have h2 : ¬ (i : Int) ∈ rankL g i := fun h => by have := rankL_mem g i _ h; omega
    have h3 : (rankL g i).take (bubAt g (rankL g i) i i) ++ (rankL g i).drop (bubAt g (rankL g i) i i) = rankL g i := List.take_append_drop _ _
    have : ((i : Int) :: ((rankL g i).take (bubAt g (rankL g i) i i) ++ (rankL g i).drop (bubAt g (rankL g i) i i))).Nodup := by
      rw [h3]; exact List.nodup_cons.2 ⟨h2, h1⟩
    exact (List.perm_middle.nodup_iff).2 this
theorem rankL_perm (g : Int → Int → Bool) (n : Nat) : PermN n (rankL g n) := by
  have hl := rankL_length g n
  refine ⟨hl, fun j hj => rankL_get g n j hj, fun i j hi hj e => ?_, fun x hx => ?_⟩
  · rw [List.getD_eq_getElem?_getD, List.getD_eq_getElem?_getD, List.getElem?_eq_getElem (by omega), List.getElem?_eq_getElem (by omega)] at e
    exact (List.getElem_inj (rankL_nodup g n)).1 e
  · obtain ⟨j, hj, e⟩ := List.getElem_of_mem (rankL_all g n x hx)
    refine ⟨j, by omega, ?_⟩
    rw [List.getD_eq_getElem?_getD, List.getElem?_eq_getElem hj]; exact e
end Go.Abs
end
