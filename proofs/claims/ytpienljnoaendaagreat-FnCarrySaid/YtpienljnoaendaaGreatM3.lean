/- Contracts: the pairs of a round, on both sides. And what follows. -/
import Derived.Test.YtpienljnoaendaaGreatM2
import Derived.RangeFuncBox
import Derived.RangeFuncLeaves
import Derived.Shelf.Abstract
import Derived.WalkKit
import Derived.OwnWalkIn
import Derived.TacticsInMore
import Derived.LoopNIn
import Derived.LoopIn
import Derived.Maps.AppendAt
import Derived.KernelRfl
import Derived.Test.YtpienljnoaendaaGreatProg
import Derived.Sort.OwnSortedInts
import Derived.Laws.AppendOwn
import Derived.Shelf.SortM.Plain
import Derived.Shelf.SortM.SortNone
import Derived.Lib.SlicesCompact
import Derived.Shelf.SlicesG.CompactI
set_option linter.unusedSimpArgs false
set_option linter.unusedVariables false
section
set_option maxRecDepth 100000
namespace Go.Proofs.YtpienljnoaendaaGreat.A
open Go Go.Abs Go.RowKit
end Go.Proofs.YtpienljnoaendaaGreat.A
end

section
set_option maxRecDepth 100000
namespace Go.Proofs.YtpienljnoaendaaGreat.A
open Go Go.Abs Go.RowKit
end Go.Proofs.YtpienljnoaendaaGreat.A
end

section
namespace Go.Proofs.YtpienljnoaendaaGreat.A
open Go Go.RowKit Go.Shelf
attribute [local go_sem] Oper.semAt_some
def upto (f : Nat → Int) (k : Nat) : List Int := (List.range k).map f
theorem upto_succ (f : Nat → Int) (k : Nat) : upto f (k + 1) = upto f k ++ [f k] := by simp [upto, List.range_succ]
theorem upto_length (f : Nat → Int) (k : Nat) : (upto f k).length = k := by simp [upto]
theorem upto_all (zs : List Int) : upto (fun j => zs[j]?.getD 0) zs.length = zs := by
  apply List.ext_getElem
  · simp [upto]
  · intro i h1 h2
    simp [upto, h2]
theorem upto_take (zs : List Int) {k : Nat} (hk : k ≤ zs.length) : upto (fun j => zs[j]?.getD 0) k = zs.take k := by
  apply List.ext_getElem
  · simp [upto, hk]
  · intro i h1 h2
    have : i < zs.length := by simp [upto] at h1; omega
    simp [upto, this]
set_option maxRecDepth 100000 in
set_option maxHeartbeats 2000000 in
theorem values1_in (F : Fence) (n : Nat) (h7 : F.fn 280) (hro : F.round = none) (hn : 1 ≤ n) (l Bs n₀ b off len cap : Nat) (zs : List Int) (hreach : len * 8 ≤ 140737488351232) (hb : b < n₀) (J Jx : List Int → World → Prop)
    (hY : ∀ pre x W, J pre W → pre.length < len → YieldAt F (n - 1) Tryz.prog l #[.int .i64 x] W fun e W' =>
      (e = .returned (.bool true) ∧ J (pre ++ [x]) W' ∧ Below n₀ W W') ∨ (e = .returned (.bool false) ∧ Jx (pre ++ [x]) W'))
    (W : World) (hBs : W.cell? ⟨Bs, 0, none⟩ = some (.slice (some ⟨b, off, none⟩) len cap)) (hc : ∀ j, j < len → W.cell? ⟨b, off + j, none⟩ = some (.int .i64 (zs[j]?.getD 0))) (h0 : J [] W) :
    CallsIn F n Tryz.prog 280 #[.func (.yield l) #[] #[], .pointer (some ⟨Bs, 0, none⟩)] W fun e W' => (∃ v, e = .returned v) ∧
      ((∃ ys, ys = upto (fun j => zs[j]?.getD 0) len ∧ J ys W') ∨ (∃ pre, (∃ k, k ≤ len ∧ pre = upto (fun j => zs[j]?.getD 0) k) ∧ Jx pre W')) := by
  refine callsIn_of_wp Tryz.func280 rfl h7 ?_ hro
  simp only [Tryz.ntmps280, List.size_toArray, List.length_cons, List.length_nil, Nat.reduceAdd, Nat.reduceSub, Array.replicate_succ, Array.replicate_zero, List.push_toArray, List.append_toArray, List.nil_append, List.cons_append]
  gi_wp2
  gi_loopw [7] (fun i wr => ∃ k : Nat, k ≤ len ∧ i = .int .i64 k ∧ J (upto (fun j => zs[j]?.getD 0) k) wr ∧ Below n₀ W wr)
    (fun i _ => len - (intOf i).toNat)
  case atStart => exact ⟨0, Nat.zero_le _, rfl, h0, Below.refl _ _⟩
  case round =>
    obtain ⟨k, hk, rfl, hJs, hnx⟩ := hrel
    have hcx : k < len → wr.cell? ⟨b, off + k, none⟩ = some (.int .i64 (zs[k]?.getD 0)) := fun h => (hnx.cell (p := ⟨b, off + k, none⟩) hb).trans (hc k h)
    by_cases hlt : k < len
    · obtain ⟨fn, tmps, assign, body, hy, hR⟩ := hY _ (zs[k]?.getD 0) wr hJs (by rw [upto_length]; exact hlt)
      have hcx' := hcx hlt
      gi_wp2
      refine hR.mono ?_
      rintro e W3 (⟨rfl, hJ3, hk3⟩ | ⟨rfl, hJx3⟩)
      · gi_wp2
        go_roundw
        case rel => exact ⟨k + 1, by omega, by simp, by rw [upto_succ]; exact hJ3, hnx.trans hk3⟩
        case measure => simp [intOf]; omega
      · gi_wp2
        refine bodyPost_ret (results_none rfl _ _ _) rfl ?_
        exact ⟨⟨_, rfl⟩, .inr ⟨_, ⟨k + 1, by omega, (upto_succ _ _).symm⟩, hJx3⟩⟩
    · obtain rfl : k = len := by omega
      gi_wp2
      go_end0
      exact ⟨⟨_, rfl⟩, .inl ⟨_, rfl, hJs⟩⟩
theorem values1_none_in (F : Fence) (n : Nat) (h7 : F.fn 280) (hro : F.round = none) (l Bs : Nat) (a : Option Addr) (cap : Nat) (J : List Int → World → Prop) (W : World) (hBs : W.cell? ⟨Bs, 0, none⟩ = some (.slice a 0 cap)) (h0 : J [] W) :
    CallsIn F n Tryz.prog 280 #[.func (.yield l) #[] #[], .pointer (some ⟨Bs, 0, none⟩)] W fun e W' => (∃ v, e = .returned v) ∧ J [] W' := by
  refine callsIn_of_wp Tryz.func280 rfl h7 ?_ hro
  simp only [Tryz.ntmps280, List.size_toArray, List.length_cons, List.length_nil, Nat.reduceAdd, Nat.reduceSub, Array.replicate_succ, Array.replicate_zero, List.push_toArray, List.append_toArray, List.nil_append, List.cons_append]
  gi_wp2
  gi_loopw [7] (fun i wr => i = .int .i64 0 ∧ J [] wr) (fun _ _ => 0)
  case atStart => exact ⟨rfl, h0⟩
  case round =>
    obtain ⟨rfl, hJs⟩ := hrel
    gi_wp2
    go_end0
    exact ⟨⟨_, rfl⟩, hJs⟩
def IntsAt (n₀ : Nat) (W : World) (sv : Value) (zs : List Int) : Prop :=
  (∃ a cap, sv = .slice a 0 cap ∧ zs = []) ∨ ∃ b off cap, sv = .slice (some ⟨b, off, none⟩) zs.length cap ∧ b < n₀ ∧ ∀ j, j < zs.length → W.cell? ⟨b, off + j, none⟩ = some (.int .i64 (zs[j]?.getD 0))
theorem IntsAt.below {n₀ : Nat} {A B : World} (h : Below n₀ A B) {sv : Value} {zs : List Int} : IntsAt n₀ A sv zs → IntsAt n₀ B sv zs
  | .inl e => .inl e
  | .inr ⟨b, off, cap, e, hb, hc⟩ => .inr ⟨b, off, cap, e, hb, fun j hj => (h.cell (p := ⟨b, off + j, none⟩) hb).trans (hc j hj)⟩
theorem values_stops (F : Fence) (n : Nat) (h7 : F.fn 280) (hro : F.round = none) (hn : 1 ≤ n) (Bs n₀ : Nat) (sv : Value) (zs : List Int) (hreach : zs.length * 8 ≤ 140737488351232) (w : World) (hBs : Bs < w.heap.size) (hn₀ : n₀ ≤ w.heap.size)
    (hc : w.cell? ⟨Bs, 0, none⟩ = some sv) (hI : IntsAt n₀ w sv zs) :
    SeqStopsK F n Tryz.prog 280 #[.pointer (some ⟨Bs, 0, none⟩)] (fun x : Int => #[Value.int .i64 x]) (Below n₀) (fun ys => ys = zs) (fun pre => pre <+: zs) zs.length w := fun l J Jx W hW _ _ hY h0 => by
  have hc' := (hW.cell (p := ⟨Bs, 0, none⟩) hBs).trans hc
  rcases hI.below (hW.mono hn₀) with ⟨a, cap, rfl, rfl⟩ | ⟨b, off, cap, rfl, hb, hcs⟩
  · exact (values1_none_in F n h7 hro l Bs a cap J W hc' h0).mono fun e W' ⟨he, hj⟩ => ⟨he, .inl ⟨_, rfl, hj⟩⟩
  · refine (values1_in F n h7 hro hn l Bs n₀ b off zs.length cap zs hreach hb J Jx hY W hc' hcs h0).mono ?_
    rintro e W' ⟨he, ⟨ys, rfl, hj⟩ | ⟨pre, ⟨k, hk, rfl⟩, hj⟩⟩
    · exact ⟨he, .inl ⟨_, upto_all zs, hj⟩⟩
    · exact ⟨he, .inr ⟨_, by rw [upto_take zs hk]; exact List.take_prefix _ _, hj⟩⟩
theorem info_el : (Tryz.prog.info? 2).map (fun i => (i.zero, i.size, i.bytes)) = some (some (.int .i64 0), 1, 8) := by kernel_rfl
set_option maxRecDepth 100000 in
set_option maxHeartbeats 2000000 in
/-- A new slice with what the iterator gives. -/
theorem appendSeq_in (F : Fence) (n : Nat) (h3 : F.fn 300) (h5 : F.fn 280) (hro : F.round = none) (hn : 3 ≤ n) (Bs : Nat) (sv : Value) (xs : List Int) (hlen : xs.length ≤ maxLen) (hbytes : xs.length * 8 ≤ 140737488351232) (w : World)
    (hBs : Bs < w.heap.size) (hc : w.cell? ⟨Bs, 0, none⟩ = some sv) (hI : IntsAt w.heap.size w sv xs) :
    CallsIn F n Tryz.prog 300 #[.slice none 0 0, .func (.func 280) #[] #[.pointer (some ⟨Bs, 0, none⟩)]] w fun e W' => ∃ v, e = .returned v ∧ W'.ownsRow w.heap.size 2 1 v xs.length (xs.map (Value.int .i64)) ∧ (v = .slice none 0 0 ↔ xs = []) ∧ Below w.heap.size w W' := by
  have h1 : 1 ≤ n := by omega
  obtain ⟨i0, hi, hz0, hz1, hz2⟩ := info_parts info_el
  refine callsIn_of_wp_marks Tryz.func300 rfl h3 ?_ hro
  simp only [Tryz.ntmps300, List.size_toArray, List.length_cons, List.length_nil, Nat.reduceAdd, Nat.reduceSub, Array.replicate_succ, Array.replicate_zero, List.push_toArray, List.append_toArray, List.nil_append, List.cons_append]
  gi_wp2
  have bO := Boxed.new w 33 (.slice none 0 0)
  have hB0 : Below w.heap.size w (w.alloc (.cells #[.slice none 0 0] 33)) := (Below.refl _ w).alloc (Nat.le_refl _) _
  have hc0 : (w.alloc (.cells #[.slice none 0 0] 33)).cell? ⟨Bs, 0, none⟩ = some sv := (hB0.cell (p := ⟨Bs, 0, none⟩) hBs).trans hc
  refine wpIn_rangeFunc_ownG hro h1 (gf := 280) (lb := #[.pointer (some ⟨Bs, 0, none⟩)]) rfl h5 (enters_of Tryz.func280 (by kernel_rfl) rfl)
    (values_stops F (n - 1) h5 hro (by omega) Bs w.heap.size sv xs hbytes _ (by simp; omega) (by simp) hc0 (hI.below hB0)) belowK_t (belowK_b (by simp)) (Below.refl _ _) (fun _ => rfl)
    (fun pre W => (∃ v, Boxed W w.heap.size 33 v ∧ W.ownsRow w.heap.size 2 1 v pre.length (pre.map (Value.int .i64)) ∧ (v = .slice none 0 0 ↔ pre = [])) ∧ Below w.heap.size w W)
    (fun _ _ _ => False)
    (OwnFrom.and (Own.from (holdsRow_own w.heap.size w.heap.size 33 2 1 (fun pre => pre.length) (fun pre => pre.map (Value.int .i64)) (fun pre v => v = .slice none 0 0 ↔ pre = [])) _) (ownFrom_below (Nat.le_refl _) (by simp)))
    (fun _ _ _ _ _ hs _ _ => hs)
    ⟨⟨_, bO, World.ownsRow_nil _ _ _ _, by simp⟩, hB0⟩
    (fun x => { tmps := #[.slice none 0 0, .func (.func 280) #[] #[.pointer (some ⟨Bs, 0, none⟩)], .pointer (some ⟨w.heap.size, 0, none⟩), undef, .slice none 0 0, .int .i64 x, .func (.func 280) #[] #[.pointer (some ⟨Bs, 0, none⟩)], .int .i64 x, undef, undef, undef, undef, undef], defers := [] }) ?assign ?body ?done ?stop
  case assign =>
    intro l x W K hK
    gi_wp2
    exact hK
  case body =>
    rintro l pre x W ⟨⟨v, hv, hrow, hnil⟩, hB⟩ hlt
    have hc := hv.cell
    gi_wp2_with (gi_at_builtin; refine wpListIn_append_own _ rfl _ _ 33 rfl w.heap.size 2 i0 (.int .i64 0) 1 8 Tryz.underlying33 hi hz0 hz1 hz2 rfl (by decide) _ _ _ rfl (hrow.alloc _) ⟨W.heap.size, 0, none⟩ 1 1 [.int .i64 x] rfl rfl (cell_one_new _ _ _) (by simp [Value.oneCell']) (by omega) (by omega) (by have := hB.size; simp; omega) ?_; intro v' w1 hown' hgrow _; obtain ⟨g', cap', rfl⟩ := ownsRow_succ hown'; obtain ⟨hv1, hv2, hr2, hk2, hb2⟩ := hv.appended (by decide) hrow hB.size (Nat.le_refl _) hown' hgrow; have hc1 := hv1.cell; have hf1 := hv1.frozen)
    exact ⟨hk2.from _, hb2, ⟨_, hv2, by simpa using hr2, by simp⟩, hB.trans hb2⟩
  case done =>
    rintro D ys W hD rfl ⟨⟨v, hv, hrow, hnil⟩, hB⟩ hK
    have hc := hv.cell
    gi_wp2
    refine ⟨by simp, .inl ⟨_, _, rfl, run_takeDeferred hK, ?_⟩⟩
    exact ⟨_, results_tmp rfl _ _ _, v, rfl, ownsRow_putObj hrow _ hK rfl, hnil, hB.trans (belowK_b (w := w) (Nat.le_refl _) W D _ _ (by simp at hD; omega) hK rfl rfl)⟩
  case stop =>
    rintro D c pre W _ _ h _
    exact h.elim
end Go.Proofs.YtpienljnoaendaaGreat.A
end

section
namespace Go.Abs
def ordN (nums : List Int) : Nat → List Int → List (List Int)
  | 0, y => [y]
  | f + 1, y => nums.flatMap fun x => if y.contains x = true then [] else ordN nums f (y ++ [x])
def ordP (nums : List Int) (f : Nat) (y : List Int) (c : Nat) : List (List Int) := (nums.take c).flatMap fun x => if y.contains x = true then [] else ordN nums f (y ++ [x])
theorem ordP_zero (nums : List Int) (f : Nat) (y : List Int) : ordP nums f y 0 = [] := rfl
theorem ordP_all (nums : List Int) (f : Nat) (y : List Int) : ordP nums f y nums.length = ordN nums (f + 1) y := by
  unfold ordP; rw [List.take_length]; rfl
theorem ordP_succ (nums : List Int) (f : Nat) (y : List Int) (c : Nat) (hc : c < nums.length) : ordP nums f y (c + 1) = ordP nums f y c ++ (if y.contains (nums.getD c 0) = true then [] else ordN nums f (y ++ [nums.getD c 0])) := by
  unfold ordP
  rw [List.take_add_one, List.getElem?_eq_getElem hc, List.flatMap_append, List.getD_eq_getElem?_getD, List.getElem?_eq_getElem hc]
  simp
theorem ordP_pre (nums : List Int) (f : Nat) (y : List Int) (c : Nat) (hc : c < nums.length) : ∃ L, ordN nums (f + 1) y = ordP nums f y (c + 1) ++ L := by
  refine ⟨(nums.drop (c + 1)).flatMap fun x => if y.contains x = true then [] else ordN nums f (y ++ [x]), ?_⟩
  have h : ordN nums (f + 1) y = nums.flatMap fun x => if y.contains x = true then [] else ordN nums f (y ++ [x]) := rfl
  rw [h]
  unfold ordP
  rw [← List.flatMap_append, List.take_append_drop]
theorem any_contains (y : List Int) (x : Int) : ((List.range y.length).any fun i => y.getD i 0 == x) = y.contains x := by
  rw [Bool.eq_iff_iff, List.any_eq_true, List.contains_iff_mem]
  constructor
  · rintro ⟨i, hi, h⟩
    have hi' : i < y.length := by simpa using hi
    rw [List.getD_eq_getElem?_getD, List.getElem?_eq_getElem hi'] at h
    have : y[i] = x := by simpa using h
    rw [← this]; exact List.getElem_mem _
  · intro h
    obtain ⟨i, hi, rfl⟩ := List.mem_iff_getElem.1 h
    exact ⟨i, by simpa using hi, by simp [hi]⟩
theorem seq_len_le (nums : List Int) (f : Nat) (y : List Int) : (ordN nums f y).length ≤ nums.length ^ f := by
  induction f generalizing y with
  | zero => simp [ordN]
  | succ f ih =>
    unfold ordN
    have : ∀ l : List Int, (l.flatMap fun x => if y.contains x = true then [] else ordN nums f (y ++ [x])).length ≤ l.length * nums.length ^ f := by
      intro l
      induction l with
      | nil => simp
      | cons x l ihl =>
        rw [List.flatMap_cons, List.length_append, List.length_cons, Nat.succ_mul]
        have h1 : (if y.contains x = true then [] else ordN nums f (y ++ [x])).length ≤ nums.length ^ f := by
          split
          · simp
          · exact ih _
        omega
    have h := this nums
    rw [Nat.pow_succ, Nat.mul_comm]; exact h
end Go.Abs
end

section
namespace Go.Abs
def sortedL (zs : List Int) : List Int := zs.mergeSort fun x y => decide (x ≤ y)
theorem sortedL_length (zs : List Int) : (sortedL zs).length = zs.length := by simp [sortedL]
theorem sortedL_perm (zs : List Int) : (sortedL zs).Perm zs := List.mergeSort_perm _ _
theorem sortedL_sorted (zs : List Int) : (sortedL zs).Pairwise (fun x y => x ≤ y) := by
  have h := List.pairwise_mergeSort (le := fun x y : Int => decide (x ≤ y)) (fun a b c h1 h2 => by simp at *; omega) (fun a b => by simp; omega) zs
  exact h.imp (by simp)
theorem sorted_unique : ∀ {a b : List Int}, a.Perm b → a.Pairwise (fun x y => x ≤ y) → b.Pairwise (fun x y => x ≤ y) → a = b
  | [], b, h, _, _ => by rw [List.nil_perm] at h; exact h.symm
  | x :: a, [], h, _, _ => by rw [List.perm_nil] at h; exact h
  | x :: a, y :: b, h, ha, hb => by
    have hxy : x = y := by
      have h1 : x ∈ y :: b := h.subset (List.mem_cons_self)
      have h2 : y ∈ x :: a := h.symm.subset (List.mem_cons_self)
      have ha' : ∀ z ∈ a, x ≤ z := fun z hz => List.rel_of_pairwise_cons ha hz
      have hb' : ∀ z ∈ b, y ≤ z := fun z hz => List.rel_of_pairwise_cons hb hz
      rcases List.mem_cons.1 h1 with e | e
      · exact e
      · rcases List.mem_cons.1 h2 with e2 | e2
        · exact e2.symm
        · have := ha' _ e2; have := hb' _ e; omega
    subst hxy
    rw [sorted_unique ((List.perm_cons x).1 h) ha.of_cons hb.of_cons]
theorem seqL_pair (a : Int) (n : Nat) : (seqL a n).Pairwise (fun x y => x < y) := by
  unfold seqL
  rw [List.pairwise_map]
  exact List.pairwise_lt_range.imp (by intro x y h; omega)
theorem seqL_sorted (a : Int) (n : Nat) : (seqL a n).Pairwise (fun x y => x ≤ y) := (seqL_pair a n).imp (by intro x y h; omega)
theorem seqL_nodup (a : Int) (n : Nat) : (seqL a n).Nodup := (seqL_pair a n).imp (by intro x y h; omega)
theorem mem_seqL_iff (a : Int) (n : Nat) (x : Int) : x ∈ seqL a n ↔ a ≤ x ∧ x < a + n := by
  unfold seqL
  rw [List.mem_map]
  constructor
  · rintro ⟨i, hi, rfl⟩
    have : i < n := by simpa using hi
    constructor <;> omega
  · rintro ⟨h1, h2⟩
    exact ⟨(x - a).toNat, by simp; omega, by omega⟩
theorem sortedL_eq {y z : List Int} (h : y.Perm z) (hz : z.Pairwise (fun x y => x ≤ y)) : sortedL y = z :=
  sorted_unique ((sortedL_perm y).trans h) (sortedL_sorted y) hz
theorem sortedL_seq (a : Int) (n : Nat) (y : List Int) : sortedL y = seqL a n ↔ y.Perm (seqL a n) :=
  ⟨fun h => h ▸ (sortedL_perm y).symm, fun h => sortedL_eq h (seqL_sorted a n)⟩
theorem perm_of_nodup {α : Type} [DecidableEq α] : ∀ (y z : List α), y.Nodup → (∀ x ∈ y, x ∈ z) → z.length ≤ y.length → y.Perm z
  | [], z, _, _, h => by
    have : z = [] := List.eq_nil_of_length_eq_zero (by simpa using h)
    rw [this]
  | a :: y, z, hn, hs, h => by
    have ha : a ∈ z := hs a (List.mem_cons_self)
    have hn' := List.nodup_cons.1 hn
    have hp := List.perm_cons_erase ha
    have hl := List.length_erase_of_mem ha
    have hz : 0 < z.length := List.length_pos_of_mem ha
    have ih := perm_of_nodup y (z.erase a) hn'.2 (fun x hx => (List.mem_erase_of_ne (by rintro rfl; exact hn'.1 hx)).2 (hs x (List.mem_cons_of_mem _ hx))) (by rw [hl]; simp at h; omega)
    exact (ih.cons a).trans hp.symm
def ordB (n : Nat) (y : List Int) : Bool := decide (y.length = n) && decide (sortedL y = seqL 0 n)
theorem ordB_iff (n : Nat) (y : List Int) : ordB n y = true ↔ y.length = n ∧ (∀ x ∈ y, 0 ≤ x ∧ x < n) ∧ y.Nodup := by
  unfold ordB
  rw [Bool.and_eq_true, decide_eq_true_iff, decide_eq_true_iff, sortedL_seq]
  constructor
  · rintro ⟨h1, h2⟩
    refine ⟨h1, fun x hx => ?_, (h2.nodup_iff).2 (seqL_nodup 0 n)⟩
    have := (mem_seqL_iff 0 n x).1 (h2.subset hx)
    omega
  · rintro ⟨h1, h2, h3⟩
    exact ⟨h1, perm_of_nodup y _ h3 (fun x hx => (mem_seqL_iff 0 n x).2 (by have := h2 x hx; omega)) (by rw [seqL_length]; omega)⟩
theorem take_snoc {α : Type} (y : List α) (d : α) (i : Nat) (hi : i < y.length) : y.take (i + 1) = y.take i ++ [y.getD i d] := by
  rw [List.take_add_one, List.getElem?_eq_getElem hi, List.getD_eq_getElem?_getD, List.getElem?_eq_getElem hi]
  rfl
theorem nodup_snoc {α : Type} [DecidableEq α] {y : List α} {x : α} : (y ++ [x]).Nodup ↔ y.Nodup ∧ x ∉ y := by
  rw [List.nodup_append]
  constructor
  · rintro ⟨h1, _, h2⟩
    exact ⟨h1, fun h => h2 x h x (by simp) rfl⟩
  · rintro ⟨h1, h2⟩
    refine ⟨h1, by simp, fun a ha b hb e => ?_⟩
    rw [List.mem_singleton] at hb
    subst hb; subst e; exact h2 ha
theorem nodup_take {α : Type} {y : List α} (h : y.Nodup) (i : Nat) : (y.take i).Nodup := h.sublist (List.take_sublist _ _)
def goodTo (n : Nat) (y : List Int) (i : Nat) : Prop := (∀ x ∈ y.take i, 0 ≤ x ∧ x < n) ∧ (y.take i).Nodup
theorem goodTo_zero (n : Nat) (y : List Int) : goodTo n y 0 := ⟨by simp, by simp⟩
theorem goodTo_succ {n : Nat} {y : List Int} {i : Nat} (hi : i < y.length) (h : goodTo n y i) (h1 : 0 ≤ y.getD i 0 ∧ y.getD i 0 < n) (h2 : (y.take i).contains (y.getD i 0) = false) : goodTo n y (i + 1) := by
  unfold goodTo
  rw [take_snoc y 0 i hi]
  refine ⟨fun x hx => ?_, nodup_snoc.2 ⟨h.2, fun hm => ?_⟩⟩
  · rcases List.mem_append.1 hx with hx | hx
    · exact h.1 x hx
    · rw [List.mem_singleton] at hx; rw [hx]; exact h1
  · rw [List.contains_iff_mem.2 hm] at h2; cases h2
theorem goodTo_all {n : Nat} {y : List Int} (h : goodTo n y y.length) : ordB n y = decide (y.length = n) := by
  unfold goodTo at h
  rw [List.take_length] at h
  by_cases e : y.length = n
  · rw [decide_eq_true e, ordB_iff]; exact ⟨e, h.1, h.2⟩
  · unfold ordB; rw [decide_eq_false e]; rfl
theorem ordB_bad {n : Nat} {y : List Int} {i : Nat} (hi : i < y.length) (h : ¬ (0 ≤ y.getD i 0 ∧ y.getD i 0 < n) ∨ (y.take i).contains (y.getD i 0) = true) : ordB n y = false := by
  rw [Bool.eq_false_iff]
  intro ho
  obtain ⟨_, h1, h2⟩ := (ordB_iff n y).1 ho
  rcases h with h | h
  · exact h (h1 _ (by rw [List.getD_eq_getElem?_getD, List.getElem?_eq_getElem hi]; exact List.getElem_mem _))
  · have h3 := nodup_take h2 (i + 1)
    rw [take_snoc y 0 i hi] at h3
    exact (nodup_snoc.1 h3).2 (List.contains_iff_mem.1 h)
theorem ordB_sorted_bad {n : Nat} {y : List Int} {i : Nat} (hi : i < y.length) (h : (sortedL y).getD i 0 ≠ (i : Int)) : ordB n y = false := by
  rw [Bool.eq_false_iff]
  intro ho
  unfold ordB at ho
  rw [Bool.and_eq_true, decide_eq_true_iff, decide_eq_true_iff] at ho
  rw [ho.2, seqL_getD 0 n i (by omega)] at h
  omega
theorem ordB_sorted_all {n : Nat} {y : List Int} (h : ∀ i, i < y.length → (sortedL y).getD i 0 = (i : Int)) : ordB n y = decide (y.length = n) := by
  by_cases e : y.length = n
  · unfold ordB
    rw [decide_eq_true e, Bool.true_and, decide_eq_true_iff]
    apply List.ext_getElem?
    intro i
    by_cases hi : i < y.length
    · have h1 := h i hi
      have h2 := seqL_getD 0 n i (by omega)
      rw [List.getElem?_eq_getElem (by rw [sortedL_length]; exact hi), List.getElem?_eq_getElem (by rw [seqL_length]; omega)]
      rw [List.getD_eq_getElem?_getD, List.getElem?_eq_getElem (by rw [sortedL_length]; exact hi)] at h1
      rw [List.getD_eq_getElem?_getD, List.getElem?_eq_getElem (by rw [seqL_length]; omega)] at h2
      simp only [Option.getD_some] at h1 h2
      rw [h1, h2]
      congr 1; omega
    · rw [List.getElem?_eq_none (by rw [sortedL_length]; omega), List.getElem?_eq_none (by rw [seqL_length]; omega)]
  · unfold ordB; rw [decide_eq_false e]; rfl
def metL (n : Nat) (y : List Int) : List Bool := (List.range n).map fun (j : Nat) => y.contains (j : Int)
theorem metL_length (n : Nat) (y : List Int) : (metL n y).length = n := by simp [metL]
theorem metL_nil (n : Nat) : metL n [] = List.replicate n false := by
  unfold metL
  exact List.eq_replicate_iff.2 ⟨by simp, by intro b hb; obtain ⟨a, _, rfl⟩ := List.mem_map.1 hb; rfl⟩
theorem metL_getD (n : Nat) (y : List Int) (x : Int) (h : 0 ≤ x ∧ x < n) : (metL n y).getD x.toNat false = y.contains x := by
  unfold metL
  rw [List.getD_eq_getElem?_getD, List.getElem?_map, List.getElem?_range (by omega)]
  simp only [Option.map_some, Option.getD_some]
  rw [show ((x.toNat : Nat) : Int) = x by omega]
theorem contains_snoc (y : List Int) (x z : Int) : (y ++ [x]).contains z = (y.contains z || z == x) := by
  rw [Bool.eq_iff_iff, Bool.or_eq_true, List.contains_iff_mem, List.contains_iff_mem, List.mem_append, List.mem_singleton, beq_iff_eq]
theorem metL_set (n : Nat) (y : List Int) (x : Int) (h : 0 ≤ x ∧ x < n) : (metL n y).set x.toNat true = metL n (y ++ [x]) := by
  apply List.ext_getElem?
  intro j
  rw [List.getElem?_set, metL_length]
  unfold metL
  rw [List.getElem?_map, List.getElem?_map]
  by_cases hj : j < n
  · rw [List.getElem?_range hj]
    simp only [Option.map_some]
    rw [contains_snoc]
    by_cases e : x.toNat = j
    · rw [if_pos e, if_pos (by omega)]
      have : ((j : Int) == x) = true := by rw [beq_iff_eq]; omega
      rw [this, Bool.or_true]
    · rw [if_neg e]
      have : ((j : Int) == x) = false := by rw [beq_eq_false_iff_ne]; omega
      rw [this, Bool.or_false]
  · have e : ¬ x.toNat = j := by omega
    rw [if_neg e, List.getElem?_eq_none (by simpa using hj)]
    rfl
/-! ### Steps -/
def stpI (n : Nat) (a b : Int) : Int := (b - a) % (n : Int)
def stpL (n : Nat) (y : List Int) : List Int := (List.range (y.length - 1)).map fun i => stpI n (y.getD i 0) (y.getD (i + 1) 0)
theorem stpL_length (n : Nat) (y : List Int) : (stpL n y).length = y.length - 1 := by simp [stpL]
end Go.Abs
end

section
namespace Go.Proofs.YtpienljnoaendaaGreat.A
open Go Go.RowKit Go.Shelf Go.Sort
open Go.Abs (sortedL)
attribute [local go_sem] Oper.semAt_some
def SortsAt : Prop :=
  (∀ (blk off cap : Nat) (zs : List Int) (w : World), Holds (Value.int .i64) w blk off zs.toArray → blk < w.heap.size → zs.length < 4611686018427387904 →
    Calls Tryz.prog 279 #[.slice (some ⟨blk, off, none⟩) zs.length cap] w fun e w' => e = .returned (.tuple #[]) ∧ ∃ n os, w' = grow (putRow (Value.int .i64) (Sort.ahead w n) blk off (sortedL zs).toArray) os) ∧
  (∀ (p : Option Addr) (cap : Nat) (w : World), Calls Tryz.prog 279 #[.slice p 0 cap] w fun e w' => e = .returned (.tuple #[]) ∧ w' = w)
set_option maxRecDepth 100000 in
set_option maxHeartbeats 2000000 in
theorem collect_in (F : Fence) (n : Nat) (h2 : F.fn 278) (h3 : F.fn 300) (h5 : F.fn 280) (hro : F.round = none) (hn : 4 ≤ n) (Bs : Nat) (sv : Value) (xs : List Int) (hlen : xs.length ≤ maxLen) (hbytes : xs.length * 8 ≤ 140737488351232) (w : World)
    (hBs : Bs < w.heap.size) (hc : w.cell? ⟨Bs, 0, none⟩ = some sv) (hI : IntsAt w.heap.size w sv xs) :
    CallsIn F n Tryz.prog 278 #[.func (.func 280) #[] #[.pointer (some ⟨Bs, 0, none⟩)]] w fun e W' => ∃ v, e = .returned v ∧ W'.ownsRow w.heap.size 2 1 v xs.length (xs.map (Value.int .i64)) ∧ (v = .slice none 0 0 ↔ xs = []) ∧ Below w.heap.size w W' := by
  have h1 : 1 ≤ n := by omega
  have e3 : ∀ args w, (callFunc 300 args).run Tryz.prog w = .ok (.enter 300 args) w := enters_of Tryz.func300 (by kernel_rfl) rfl
  refine callsIn_of_wp Tryz.func278 rfl h2 ?_ hro
  simp only [Tryz.ntmps278, List.size_toArray, List.length_cons, List.length_nil, Nat.reduceAdd, Nat.reduceSub, Array.replicate_succ, Array.replicate_zero, List.push_toArray, List.append_toArray, List.nil_append, List.cons_append]
  gi_wp2_with (gi_at_call 300; refine (appendSeq_in F (n - 1) h3 h5 hro (by omega) Bs sv xs hlen hbytes _ hBs hc hI).mono ?_; rintro e w' ⟨v, rfl, hrow, hnil, hb⟩)
  go_ret
  exact ⟨v, rfl, hrow, hnil, hb⟩
set_option maxRecDepth 100000 in
set_option maxHeartbeats 2000000 in
theorem sorted_in (hsort : SortsAt) (Bs : Nat) (sv : Value) (xs : List Int) (hlen : xs.length ≤ maxLen) (hbytes : xs.length * 8 ≤ 140737488351232) (w : World)
    (hBs : Bs < w.heap.size) (hc : w.cell? ⟨Bs, 0, none⟩ = some sv) (hI : IntsAt w.heap.size w sv xs) :
    Calls Tryz.prog 207 #[.func (.func 280) #[] #[.pointer (some ⟨Bs, 0, none⟩)]] w fun e W' => ∃ v, e = .returned v ∧ W'.ownsRow w.heap.size 2 1 v xs.length ((sortedL xs).map (Value.int .i64)) ∧ (v = .slice none 0 0 ↔ xs = []) ∧ Below w.heap.size w W' := by
  refine (callsIn_wide (n := 8)).1 ?_
  have h1 : 1 ≤ 8 := by omega
  have e2 : ∀ args w, (callFunc 278 args).run Tryz.prog w = .ok (.enter 278 args) w := enters_of Tryz.func278 (by kernel_rfl) rfl
  have e9 : ∀ args w, (callFunc 279 args).run Tryz.prog w = .ok (.enter 279 args) w := enters_of Tryz.func279 (by kernel_rfl) rfl
  refine callsIn_of_wp Tryz.func207 rfl trivial ?_ rfl
  simp only [Tryz.ntmps207, List.size_toArray, List.length_cons, List.length_nil, Nat.reduceAdd, Nat.reduceSub, Array.replicate_succ, Array.replicate_zero, List.push_toArray, List.append_toArray, List.nil_append, List.cons_append]
  have hfK : Fence.wide.fn 278 := trivial
  have hfS : Fence.wide.fn 279 := trivial
  gi_wp2_with (gi_at_call 278; refine (collect_in Fence.wide _ trivial trivial trivial rfl (by omega) Bs sv xs hlen hbytes _ hBs hc hI).mono ?_; rintro e W ⟨v, rfl, hrow, hnil, hb⟩)
  rcases hrow.2 with ⟨rfl, hz⟩ | ⟨gb, cap, cur, rfl, hbase, hgb, r1, r2, r3, r4⟩
  · have hss : xs = [] := List.eq_nil_of_length_eq_zero hz
    subst hss
    have cN := callsIn_wide (n := 7).2 (hsort.2 none 0 W)
    gi_wp2_with (gi_at_call 279; refine cN.mono ?_; rintro e w' ⟨rfl, rfl⟩)
    go_ret
    exact ⟨.slice none 0 0, rfl, by simpa [sortedL] using hrow, by simp, hb⟩
  · have hH : Holds (Value.int .i64) W gb 0 xs.toArray := holds_of_blockI hgb (by simpa using r4)
    have hgl : gb < W.heap.size := (Array.getElem?_eq_some_iff.1 hgb).1
    have hsz : xs.length < 4611686018427387904 := by omega
    have cS := callsIn_wide (n := 7).2 (hsort.1 gb 0 cap xs W hH hgl hsz)
    gi_wp2_with (gi_at_call 279; refine cS.mono ?_; rintro e w' ⟨rfl, nn, os, rfl⟩)
    go_ret
    exact ⟨_, rfl, ownsRow_sortedI (by simp [sortedL]) hbase hgb r1 r2 r3, hnil, hb.grown (grownBy_sortedI _) hb.size (fun j hj => by cases hj; exact hbase)⟩
end Go.Proofs.YtpienljnoaendaaGreat.A
end

section
namespace Go.Abs
open Go Go.RowKit
section
variable {base : Nat} {ρ : Nat → Nat} {H : AH} {w w' : World}
theorem bsz_lt {b k : Nat} (h : bsz w b = some k) : b < w.heap.size := by
  rcases Nat.lt_or_ge b w.heap.size with h' | h'
  · exact h'
  · simp [bsz, Array.getElem?_eq_none h'] at h
theorem bsz_below (hB : Below w.heap.size w w') {b k : Nat} (h : bsz w b = some k) : bsz w' b = some k := by
  have hb := bsz_lt h
  unfold bsz at *
  rw [hB.block b hb]; exact h
theorem Rel.below (R : Rel base ρ H w) (hB : Below w.heap.size w w') : Rel base ρ H w' ∧ Ext base ρ H.next w ρ H.next w' := by
  have E : Ext base ρ H.next w ρ H.next w' := ⟨Nat.le_refl _, fun _ _ => rfl, hB.mono R.sz, fun b k h => bsz_below hB h⟩
  refine ⟨⟨R.scope, fun i r h hb => ⟨(R.ro i r h hb).1, fun j v hv ho => ?_⟩, fun i r h hb => ?_, R.inj, Nat.le_trans R.sz hB.size⟩, E⟩
  · obtain ⟨v', a, b⟩ := (R.ro i r h hb).2 j v hv ho
    exact ⟨v', (hB.cell (p := ⟨ρ i, j, none⟩) (World.block_lt_of_cell? w _ a)).trans a, b.ext E⟩
  · obtain ⟨a, cs, b, c⟩ := R.rwr i r h hb
    exact ⟨a, cs, (hB.block _ (R.lt_heap h hb)).trans b, c.ext E⟩
theorem Rel.newRow (R : Rel base ρ H w) (hB : Below w.heap.size w w') {g : Nat} (hg : w.heap.size ≤ g) {ty : TypeId} {cs : Array Value} (hcs : w'.heap[g]? = some (.cells cs ty (0, 0))) {xs : List Value} (hx : L1 ρ H.next w xs (cs.toList.take xs.length)) :
    Rel base (ren ρ H.next g) (H.push ⟨ty, true, xs⟩) w' ∧ Ext base ρ H.next w (ren ρ H.next g) (H.push ⟨ty, true, xs⟩).next w' := by
  have old : ∀ i, i < H.next → ren ρ H.next g i = ρ i := fun i hi => by unfold ren; rw [if_neg (by omega)]
  have new : ren ρ H.next g H.next = g := by unfold ren; rw [if_pos rfl]
  have E : Ext base ρ H.next w (ren ρ H.next g) (H.next + 1) w' := ⟨Nat.le_succ _, old, hB.mono R.sz, fun b k h => bsz_below hB h⟩
  obtain ⟨R', _⟩ := R.below hB
  have hsz := R.sz
  refine ⟨⟨?_, ?_, ?_, ?_, R'.sz⟩, E⟩
  · intro i r hr
    rw [AH.push_row] at hr
    rw [AH.push_next]
    split at hr
    · omega
    · have := R.scope i r hr; omega
  · intro i r hr hb
    rw [AH.push_row] at hr
    split at hr
    · simp at hr; subst hr; simp at hb
    · have hi := R.scope i r hr
      rw [old i hi]
      obtain ⟨h1, h2⟩ := R.ro i r hr hb
      refine ⟨h1, fun j v hv ho => ?_⟩
      obtain ⟨v', a, b⟩ := h2 j v hv ho
      exact ⟨v', (hB.cell (p := ⟨ρ i, j, none⟩) (World.block_lt_of_cell? w _ a)).trans a, b.ext E⟩
  · intro i r hr hb
    rw [AH.push_row] at hr
    split at hr
    · rename_i e; subst e
      simp at hr; subst hr
      rw [new]
      exact ⟨by omega, cs, hcs, hx.ext E⟩
    · have hi := R.scope i r hr
      obtain ⟨a, cs', b, c⟩ := R.rwr i r hr hb
      rw [old i hi]
      exact ⟨a, cs', (hB.block _ (R.lt_heap hr hb)).trans b, c.ext E⟩
  · intro i j r s hr hs hb hc he
    rw [AH.push_row] at hr hs
    split at hr <;> split at hs
    · rename_i e1 e2; rw [e1, e2]
    · rename_i e1 e2
      have hj := R.scope j s hs
      rw [e1, new, old j hj] at he
      have := R.lt_heap hs hc
      omega
    · rename_i e1 e2
      have hi := R.scope i r hr
      rw [e2, new, old i hi] at he
      have := R.lt_heap hr hb
      omega
    · have hi := R.scope i r hr
      have hj := R.scope j s hs
      rw [old i hi, old j hj] at he
      exact R.inj i j r s hr hs hb hc he
theorem Rd.cellsAt (R : Rel base ρ H w) {v v' : Value} {n : Nat} {l : List Int} (h : Rd 1 H v n l) (hv : VR ρ H.next w v v') :
    (∃ a c, v' = .slice a 0 c ∧ l = []) ∨ ∃ b o c, v' = .slice (some ⟨b, o, none⟩) l.length c ∧ b < w.heap.size ∧ ∀ j, j < l.length → w.cell? ⟨b, o + j, none⟩ = some (.int .i64 (l[j]?.getD 0)) := by
  obtain ⟨hl, hc⟩ := h
  rw [Nat.mul_one] at hl
  by_cases h0 : n = 0
  · left
    have hl0 : l = [] := List.eq_nil_of_length_eq_zero (by omega)
    subst h0
    have key : ∃ a c, v = .slice a 0 c := by
      rcases hc with ⟨_, a, c, rfl, _⟩ | ⟨i, o, u, c, r, rfl, _⟩
      · exact ⟨_, _, rfl⟩
      · exact ⟨_, _, rfl⟩
    obtain ⟨a, c, rfl⟩ := key
    cases hv with
    | one h =>
      cases h with
      | scal v hs => exact ⟨_, _, rfl, hl0⟩
      | sle i o n c hi => exact ⟨_, _, rfl, hl0⟩
      | slu i o n c e a c' hi hn hr => exact ⟨_, _, rfl, hl0⟩
  · right
    rcases hc with ⟨h1, _⟩ | ⟨i, o, u, c, r, rfl, hr, hlen, hseg⟩
    · exact absurd h1 h0
    · rw [Nat.mul_one] at hlen hseg
      have hok : r.ok ((r.cells.drop o).take n) := .inr fun x hx => by
        have hs : (r.cells.drop o).take n = ints l := hseg
        rw [hs] at hx
        obtain ⟨y, _, rfl⟩ := List.mem_map.1 hx
        rfl
      obtain ⟨ys, hys, hcell, hL⟩ := R.cells hr hlen hok
      have hs : (r.cells.drop o).take n = ints l := hseg
      rw [hs] at hL
      have hcells : ∀ j, j < l.length → w.cell? ⟨ρ i, o + j, none⟩ = some (.int .i64 (l[j]?.getD 0)) := by
        intro j hj
        have hx : (ints l)[j]? = some (.int .i64 (l.getD j 0)) := ints_get? l j hj
        obtain ⟨y, hy, hv1⟩ := hL.get hx
        have e := VR.int (.one hv1)
        rw [hcell j y hy, e, List.getD_eq_getElem?_getD]
      have hlt : ρ i < w.heap.size := World.block_lt_of_cell? w _ (hcells 0 (by omega))
      rw [hl]
      cases hv with
      | one h =>
        cases h with
        | scal v hs => simp [Abs.scal] at hs
        | sle i o n c hi => exact ⟨ρ i, o, c, rfl, hlt, fun j hj => hcells j (by omega)⟩
        | slu i o n c e a c' hi hn hr =>
          rcases hr with ⟨rfl, _⟩ | ⟨h1, _⟩
          · exact ⟨ρ i, o, c', rfl, hlt, fun j hj => hcells j (by omega)⟩
          · exact absurd h1 h0
theorem Rel.newInts (R : Rel base ρ H w) (hB : Below w.heap.size w w') {ty : TypeId} {v' : Value} {l : List Int} (h : w'.ownsRow w.heap.size ty 1 v' l.length (l.map (Value.int .i64))) :
    ∃ v H' ρ', Up H.next H H' ∧ Fr 1 ty H.next H'.next H' v l.length l ∧ Rel base ρ' H' w' ∧ VR ρ' H'.next w' v v' ∧ Ext base ρ H.next w ρ' H'.next w' := by
  rcases h.2 with ⟨rfl, h0⟩ | ⟨g, cap, cur, rfl, hg, hcs, h1, h2, h3, h4⟩
  · obtain ⟨R', E⟩ := R.below hB
    exact ⟨_, H, ρ, Up.refl _ _, ⟨by omega, .inl ⟨h0, rfl⟩⟩, R', .scal rfl, E⟩
  · rw [Nat.mul_one] at h4 h3
    have hx : L1 ρ H.next w (ints l) (cur.toList.take (ints l).length) := by
      rw [ints_length, h4]
      exact L1.self fun v hv => by obtain ⟨y, _, rfl⟩ := List.mem_map.1 hv; rfl
    obtain ⟨R', E⟩ := R.newRow hB hg hcs hx
    have new : ren ρ H.next g H.next = g := by unfold ren; rw [if_pos rfl]
    have ht : VR (ren ρ H.next g) (H.push ⟨ty, true, ints l⟩).next w' (.slice (some ⟨H.next, 0, some 1⟩) l.length l.length) (.slice (some ⟨g, 0, none⟩) l.length cap) := by
      refine .one (.slu _ _ _ _ _ _ _ (Nat.lt_succ_self _) h1 (.inl ⟨by rw [new], ?_, h2⟩))
      rw [new]
      simp [bsz, hcs, h3]
    exact ⟨_, _, _, (Up.refl _ H).push (Nat.le_refl _) _, ⟨by omega, .inr ⟨H.next, Nat.le_refl _, Nat.lt_succ_self _, rfl, by rw [AH.push_row, if_pos rfl]⟩⟩, R', ht, E⟩
end
end Go.Abs
end

section
set_option maxRecDepth 100000
set_option maxHeartbeats 2000000
namespace Go.Proofs.YtpienljnoaendaaGreat.A
open Go Go.Abs Go.RowKit Go.Shelf Go.Sort
def sortRen : Go.Shelf.Ren := ⟨fun | 5 => 279 | 8 => 302 | 7 => 301 | 19 => 315 | 20 => 316 | 10 => 306 | 11 => 307 | 12 => 308 | 13 => 309 | 14 => 310 | 15 => 311 | 16 => 312 | 17 => 313 | 18 => 314 | 30 => 318 | 31 => 319 | 32 => 320 | 33 => 321 | 34 => 322 | 35 => 298 | 40 => 324 | n => n, fun | 23 => 33 | 25 => 2 | 3 => 3 | 32 => 178 | 22 => 33 | 0 => 0 | 44 => 233 | 46 => 175 | 4 => 4 | 36 => 225 | 35 => 224 | 41 => 230 | 5 => 5 | 9 => 9 | 53 => 235 | 57 => 239 | 63 => 241 | 64 => 242 | n => n, fun | n => n⟩
theorem sortLy : Go.Proofs.SlLaysM.n5 Tryz.prog sortRen := {
  mixed := by kernel_rfl
  f5 := ⟨Tryz.f279.name, by decide, Tryz.func279.trans (congrArg some (by kernel_rfl))⟩
  f7 := ⟨Tryz.f301.name, by decide, Tryz.func301.trans (congrArg some (by kernel_rfl))⟩
  f8 := Tryz.func302.trans (congrArg some (by kernel_rfl))
  f10 := ⟨Tryz.f306.name, by decide, Tryz.func306.trans (congrArg some (by kernel_rfl))⟩
  f11 := ⟨Tryz.f307.name, by decide, Tryz.func307.trans (congrArg some (by kernel_rfl))⟩
  f12 := ⟨Tryz.f308.name, by decide, Tryz.func308.trans (congrArg some (by kernel_rfl))⟩
  f13 := ⟨Tryz.f309.name, by decide, Tryz.func309.trans (congrArg some (by kernel_rfl))⟩
  f14 := ⟨Tryz.f310.name, by decide, Tryz.func310.trans (congrArg some (by kernel_rfl))⟩
  f15 := ⟨Tryz.f311.name, by decide, Tryz.func311.trans (congrArg some (by kernel_rfl))⟩
  f16 := ⟨Tryz.f312.name, by decide, Tryz.func312.trans (congrArg some (by kernel_rfl))⟩
  f17 := ⟨Tryz.f313.name, by decide, Tryz.func313.trans (congrArg some (by kernel_rfl))⟩
  f18 := ⟨Tryz.f314.name, by decide, Tryz.func314.trans (congrArg some (by kernel_rfl))⟩
  f19 := Tryz.func315.trans (congrArg some (by kernel_rfl))
  f20 := Tryz.func316.trans (congrArg some (by kernel_rfl))
  f30 := ⟨Tryz.f318.name, by decide, Tryz.func318.trans (congrArg some (by kernel_rfl))⟩
  f31 := Tryz.func319.trans (congrArg some (by kernel_rfl))
  f32 := Tryz.func320.trans (congrArg some (by kernel_rfl))
  f33 := ⟨Tryz.f321.name, by decide, Tryz.func321.trans (congrArg some (by kernel_rfl))⟩
  f34 := ⟨Tryz.f322.name, by decide, Tryz.func322.trans (congrArg some (by kernel_rfl))⟩
  f35 := ⟨Tryz.f298.name, by decide, Tryz.func298.trans (congrArg some (by kernel_rfl))⟩
  f40 := ⟨Tryz.f324.name, by decide, Tryz.func324.trans (congrArg some (by kernel_rfl))⟩
  t0 := Tryz.underlying0
  a0 := Tryz.isAgg0
  z0 := Tryz.sizeOf0
  v0 := Tryz.zeroValue0
  t3 := Tryz.underlying3
  a3 := Tryz.isAgg3
  z3 := Tryz.sizeOf3
  v3 := Tryz.zeroValue3
  t4 := Tryz.underlying4
  a4 := Tryz.isAgg4
  z4 := Tryz.sizeOf4
  v4 := Tryz.zeroValue4
  t5 := Tryz.underlying5
  a5 := Tryz.isAgg5
  z5 := Tryz.sizeOf5
  v5 := Tryz.zeroValue5
  t9 := Tryz.underlying9
  a9 := Tryz.isAgg9
  z9 := Tryz.sizeOf9
  v9 := Tryz.zeroValue9
  t22 := Tryz.underlying33
  a22 := Tryz.isAgg33
  z22 := Tryz.sizeOf33
  v22 := Tryz.zeroValue33
  t23 := Tryz.underlying33
  a23 := Tryz.isAgg33
  z23 := Tryz.sizeOf33
  v23 := Tryz.zeroValue33
  t25 := Tryz.underlying2
  a25 := Tryz.isAgg2
  z25 := Tryz.sizeOf2
  v25 := Tryz.zeroValue2
  t32 := Tryz.underlying178
  a32 := Tryz.isAgg178
  z32 := Tryz.sizeOf178
  v32 := Tryz.zeroValue178
  t35 := Tryz.underlying224
  a35 := Tryz.isAgg224
  z35 := Tryz.sizeOf224
  v35 := Tryz.zeroValue224
  t36 := Tryz.underlying225
  a36 := Tryz.isAgg225
  z36 := Tryz.sizeOf225
  v36 := Tryz.zeroValue225
  t41 := Tryz.underlying230
  a41 := Tryz.isAgg230
  z41 := Tryz.sizeOf230
  v41 := Tryz.zeroValue230
  t44 := Tryz.underlying233
  a44 := Tryz.isAgg233
  z44 := Tryz.sizeOf233
  v44 := Tryz.zeroValue233
  t46 := Tryz.underlying175
  a46 := Tryz.isAgg175
  z46 := Tryz.sizeOf175
  v46 := Tryz.zeroValue175
  t53 := Tryz.underlying235
  a53 := Tryz.isAgg235
  z53 := Tryz.sizeOf235
  v53 := Tryz.zeroValue235
  t57 := Tryz.underlying239
  a57 := Tryz.isAgg239
  z57 := Tryz.sizeOf239
  v57 := Tryz.zeroValue239
  t63 := Tryz.underlying241
  a63 := Tryz.isAgg241
  z63 := Tryz.sizeOf241
  v63 := Tryz.zeroValue241
  t64 := Tryz.underlying242
  a64 := Tryz.isAgg242
  z64 := Tryz.sizeOf242
  v64 := Tryz.zeroValue242 }
theorem sortsAt : SortsAt := ⟨fun blk off cap zs w hH hb hs => AnyM.slices_Sort_int sortLy blk off cap zs w hH hb hs, fun p cap w => AnyM.slices_Sort_int_none sortLy p cap w⟩
theorem sorted_c (b : Nat) (v : Value) (y : List Int) (H : AH) (hb : H.row b = some ⟨33, true, [v]⟩) (hv : Rd 1 H v y.length y) (hy : y.length ≤ 4294967296) :
    ACalls Tryz.prog 207 [.func (.func 280) #[] #[.pointer (some ⟨b, 0, none⟩)]] H (fun u H' => Up H.next H H' ∧ Fr 1 2 H.next H'.next H' u y.length (sortedL y)) := by
  refine ⟨by kernel_rfl, fun base ρ w args' R hL => ?_⟩
  obtain ⟨hl, hx⟩ := hL
  match args', hl, hx with
  | [a], _, hx =>
    obtain ⟨_, ys, e1, e2, e3⟩ := VR.func (hx 0 _ _ rfl rfl)
    have hp : ys = #[.pointer (some ⟨ρ b, 0, none⟩)] := by
      rcases ys with ⟨zs⟩
      match zs, e2, e3 with
      | [z], _, e3 =>
        have := VR.ptr (.one (e3 0 _ _ rfl rfl))
        have h : z = .pointer (some ⟨ρ b, 0, none⟩) := this.2.2
        subst h; rfl
    rw [e1, hp]
    obtain ⟨sv, hc, hsv⟩ := R.cell (i := b) (j := 0) hb rfl (.inl rfl)
    have hI : IntsAt w.heap.size w sv y := by
      rcases Rd.cellsAt R hv (.one hsv) with ⟨a, c, h1, h2⟩ | ⟨b', o, c, h1, h2, h3⟩
      · exact .inl ⟨a, c, h1, h2⟩
      · exact .inr ⟨b', o, c, h1, h2, h3⟩
    have hsl : (sortedL y).length = y.length := by simp [sortedL]
    refine (sorted_in sortsAt (ρ b) sv y (Nat.le_trans hy (by decide)) (by omega) w (World.block_lt_of_cell? w _ hc) hc hI).mono ?_
    rintro e w' ⟨v', rfl, hrow, _, hB⟩
    rw [← hsl] at hrow ⊢
    obtain ⟨u, H', ρ', h1, h2, h3, h4, h5⟩ := R.newInts hB hrow
    exact ⟨v', u, H', ρ', rfl, ⟨h1, h2⟩, h3, h4, h5⟩
end Go.Proofs.YtpienljnoaendaaGreat.A
end

section
namespace Go.Abs
def sqE (n i : Nat) (y : List Int) (j : Nat) : Int := Int.tmod ((i : Int) + y.getD j 0) n
def sqR (n : Nat) (y : List Int) (i c : Nat) : List Int := (List.range n).map fun j => if j < c then sqE n i y j else 0
def sqM (n : Nat) (y : List Int) (i c : Nat) : List (List Int) := (List.range n).map fun a => if a < i then sqR n y a n else if a = i then sqR n y a c else List.replicate n 0
theorem sqR_length (n : Nat) (y : List Int) (i c : Nat) : (sqR n y i c).length = n := by simp [sqR]
theorem sqM_length (n : Nat) (y : List Int) (i c : Nat) : (sqM n y i c).length = n := by simp [sqM]
def sqA (n : Nat) (y : List Int) (a : Nat) : List (List Int) := (List.range a).map fun i => sqR n y i n
def sqP (n : Nat) (y : List Int) (i c : Nat) : List Int := (List.range c).map fun j => sqE n i y j
theorem sqA_length (n : Nat) (y : List Int) (a : Nat) : (sqA n y a).length = a := by simp [sqA]
theorem sqP_length (n : Nat) (y : List Int) (i c : Nat) : (sqP n y i c).length = c := by simp [sqP]
end Go.Abs
end

section
namespace Go.Abs
open Go Go.RowKit
def bools (l : List Bool) : List Value := l.map .bool
theorem bools_length (l : List Bool) : (bools l).length = l.length := by simp [bools]
theorem bools_get? (l : List Bool) (i : Nat) (h : i < l.length) : (bools l)[i]? = some (.bool (l.getD i false)) := by simp [bools, h]
theorem bools_set (l : List Bool) (i : Nat) (x : Bool) : (bools l).set i (.bool x) = bools (l.set i x) := by simp [bools, List.map_set]
theorem zeros_bools (n : Nat) : zeros n [.bool false] = bools (List.replicate n false) := by
  unfold zeros bools
  induction n with
  | zero => rfl
  | succ n ih => rw [List.replicate_succ, List.flatten_cons, ih, List.replicate_succ]; rfl
theorem metL_get? (n : Nat) (y : List Int) (x : Int) (h : 0 ≤ x ∧ x < n) : (bools (metL n y))[x.toNat]? = some (.bool (y.contains x)) := by
  rw [bools_get? _ _ (by rw [metL_length]; omega), metL_getD n y x h]
theorem metL_put (n : Nat) (y : List Int) (x : Int) (h : 0 ≤ x ∧ x < n) : (bools (metL n y)).set x.toNat (.bool true) = bools (metL n (y ++ [x])) := by
  rw [bools_set, metL_set n y x h]
end Go.Abs
end

section
set_option maxRecDepth 100000
set_option maxHeartbeats 2000000
namespace Go.Proofs.YtpienljnoaendaaGreat.A
open Go Go.Abs Go.RowKit
theorem size_c (v : Value) (y : List Int) (H : AH) (hv : Rd 1 H v y.length y) (hy : y.length ≤ 4294967296) : ACalls Tryz.prog 126 [v] H (is (.int .i64 y.length) H) := by
  refine acalls_of_awp [.tmp 2] Tryz.func126 (by kernel_rfl) rfl rfl (Nat.le_of_ble_eq_true rfl) (by kernel_rfl) ?_
  try simp (disch := first | omega | (simp only [ints_length, List.length_replicate, List.length_set, sortedL_length, bools_length, metL_length] <;> omega)) only [Sall,evalOp,init,binA_s,binE,binI,unE,convE,okNil,builtE,gv,TD.isAgg,resV,↓reduceIte,Nat.reduceEqDiff,reduceCtorEq,Nat.reduceAdd,Nat.reduceMul,Nat.reduceLeDiff,quietOp,blindOp,Int.reduceEq,Int.reduceLT,Int.reduceLE,Nat.reduceLT,tiA, builtE, hv.len, is]
theorem evo_nilF (t : T) : evo t (.const .nilFunc) = some .nilFunc := (rfl)
theorem values_c (v : Value) (H : AH) (ho : v.oneCell' = true) :
    ACalls Tryz.prog 208 [v] H (is (.func (.func 280) #[] #[.pointer (some ⟨H.next, 0, none⟩)]) (H.push ⟨33, true, [v]⟩)) := by
  refine acalls_of_awp [.tmp 2] Tryz.func208 (by kernel_rfl) rfl rfl (Nat.le_of_ble_eq_true rfl) (by kernel_rfl) ?_
  try simp (disch := first | omega | (simp only [ints_length, List.length_replicate, List.length_set, sortedL_length, bools_length, metL_length] <;> omega)) only [Sall,evalOp,init,binA_s,binE,binI,unE,convE,okNil,builtE,gv,TD.isAgg,resV,↓reduceIte,Nat.reduceEqDiff,reduceCtorEq,Nat.reduceAdd,Nat.reduceMul,Nat.reduceLeDiff,quietOp,blindOp,Int.reduceEq,Int.reduceLT,Int.reduceLE,Nat.reduceLT,tiA, ho, asCells_one ho, evo_nilF, List.mem_cons, List.not_mem_nil, or_false, forall_eq_or_imp, forall_eq, Array.size_empty, is]
theorem isOrder_c (n : Nat) (v : Value) (y : List Int) (H : AH) (hv : Rd 1 H v y.length y) (hy : y.length ≤ 4294967296) :
    ACalls Tryz.prog 159 [v, .int .i64 n] H (is (.bool (ordB n y)) H) := by
  refine acalls_up rfl (ACalls.wf (by kernel_rfl) fun hs => acalls_of_awp [.tmp 4] Tryz.func159 (by kernel_rfl) rfl rfl (Nat.le_of_ble_eq_true rfl) (by kernel_rfl) ?_)
  try simp (disch := first | omega | (simp only [ints_length, List.length_replicate, List.length_set, sortedL_length, bools_length, metL_length] <;> omega)) only [Sall,evalOp,init,binA_s,binE,binI,unE,convE,okNil,builtE,gv,TD.isAgg,resV,↓reduceIte,Nat.reduceEqDiff,reduceCtorEq,Nat.reduceAdd,Nat.reduceMul,Nat.reduceLeDiff,quietOp,blindOp,Int.reduceEq,Int.reduceLT,Int.reduceLE,Nat.reduceLT,tiA, true_and]
  refine (values_c v H hv.one).to ?_
  try simp (disch := first | omega | (simp only [ints_length, List.length_replicate, List.length_set, sortedL_length, bools_length, metL_length] <;> omega)) only [Sall,evalOp,init,binA_s,binE,binI,unE,convE,okNil,builtE,gv,TD.isAgg,resV,↓reduceIte,Nat.reduceEqDiff,reduceCtorEq,Nat.reduceAdd,Nat.reduceMul,Nat.reduceLeDiff,quietOp,blindOp,Int.reduceEq,Int.reduceLT,Int.reduceLE,Nat.reduceLT,tiA, true_and]
  have up : Up H.next H (H.push ⟨33, true, [v]⟩) := (Up.refl _ H).push (Nat.le_refl _) _
  have e1 : (H.push ⟨33, true, [v]⟩).row H.next = some ⟨33, true, [v]⟩ := by rw [AH.push_row, if_pos rfl]
  have n1 : (H.push ⟨33, true, [v]⟩).next = H.next + 1 := rfl
  revert up e1 n1
  generalize H.push ⟨33, true, [v]⟩ = H1
  intro up e1 n1
  refine (sorted_c H.next v y H1 e1 (hv.same (up.le hs).row) hy).mono ?_
  rintro u H2 ⟨up2, hf⟩
  have hl2 := sortedL_length y
  have u2 : Up H.next H H2 := up.trans up2 (by omega)
  refine Holds.mp ?_
  try simp (disch := first | omega | (simp only [ints_length, List.length_replicate, List.length_set, sortedL_length, bools_length, metL_length] <;> omega)) only [Sall,evalOp,init,binA_s,binE,binI,unE,convE,okNil,builtE,gv,TD.isAgg,resV,↓reduceIte,Nat.reduceEqDiff,reduceCtorEq,Nat.reduceAdd,Nat.reduceMul,Nat.reduceLeDiff,quietOp,blindOp,Int.reduceEq,Int.reduceLT,Int.reduceLE,Nat.reduceLT,tiA, builtE, hf.rd.len]
  refine awp_loop (fun m t H' => ∃ a : Nat, m = y.length - a ∧ a ≤ y.length ∧ t 13 = .int .i64 a ∧ t 12 = .int .i64 y.length ∧ t 11 = u ∧ t 0 = v ∧ t 1 = .int .i64 n ∧ H' = H2 ∧ (∀ i, i < a → (sortedL y).getD i 0 = (i : Int))) y.length ?_ ?_
  · refine ⟨0, by omega, by omega, ?_⟩
    try simp (disch := first | omega | (simp only [ints_length, List.length_replicate, List.length_set, sortedL_length, bools_length, metL_length] <;> omega)) only [Sall,evalOp,init,binA_s,binE,binI,unE,convE,okNil,builtE,gv,TD.isAgg,resV,↓reduceIte,Nat.reduceEqDiff,reduceCtorEq,Nat.reduceAdd,Nat.reduceMul,Nat.reduceLeDiff,quietOp,blindOp,Int.reduceEq,Int.reduceLT,Int.reduceLE,Nat.reduceLT,tiA, Int.natCast_zero, Nat.not_lt_zero, false_implies]
  · rintro m t H' ⟨a, hm, han, h13, h12, h11, h0, h1, rfl, hall⟩
    try simp (disch := first | omega | (simp only [ints_length, List.length_replicate, List.length_set, sortedL_length, bools_length, metL_length] <;> omega)) only [Sall,evalOp,init,binA_s,binE,binI,unE,convE,okNil,builtE,gv,TD.isAgg,resV,↓reduceIte,Nat.reduceEqDiff,reduceCtorEq,Nat.reduceAdd,Nat.reduceMul,Nat.reduceLeDiff,quietOp,blindOp,Int.reduceEq,Int.reduceLT,Int.reduceLE,Nat.reduceLT,tiA, h13, h12]
    refine condC_dec (fun h => ?_) (fun h => ?_)
    · obtain ⟨i, o, uu, cc, r, rfl, hr, _, hg, _⟩ := hf.rd.get (by omega)
      have g1 := hg a (by omega)
      by_cases hx : (sortedL y).getD a 0 = (a : Int)
      · have e2 : ((sortedL y).getD a 0 != (a : Int)) = false := by rw [hx]; exact bne_self_eq_false _
        try simp (disch := first | omega | (simp only [ints_length, List.length_replicate, List.length_set, sortedL_length, bools_length, metL_length] <;> omega)) only [Sall,evalOp,init,binA_s,binE,binI,unE,convE,okNil,builtE,gv,TD.isAgg,resV,↓reduceIte,Nat.reduceEqDiff,reduceCtorEq,Nat.reduceAdd,Nat.reduceMul,Nat.reduceLeDiff,quietOp,blindOp,Int.reduceEq,Int.reduceLT,Int.reduceLE,Nat.reduceLT,tiA, h13, h12, h11, h0, h1, hr, g1, e2, w64]
        (repeat refine And.intro (by omega) ?_)
        refine ⟨y.length - (a + 1), by omega, a + 1, rfl, by omega, rfl, fun i hi => ?_⟩
        by_cases e : i = a
        · rw [e]; exact hx
        · exact hall i (by omega)
      · have e2 : ((sortedL y).getD a 0 != (a : Int)) = true := bne_iff_ne.2 hx
        try simp (disch := first | omega | (simp only [ints_length, List.length_replicate, List.length_set, sortedL_length, bools_length, metL_length] <;> omega)) only [Sall,evalOp,init,binA_s,binE,binI,unE,convE,okNil,builtE,gv,TD.isAgg,resV,↓reduceIte,Nat.reduceEqDiff,reduceCtorEq,Nat.reduceAdd,Nat.reduceMul,Nat.reduceLeDiff,quietOp,blindOp,Int.reduceEq,Int.reduceLT,Int.reduceLE,Nat.reduceLT,tiA, h13, h12, h11, h0, h1, hr, g1, e2, w64]
        (repeat refine And.intro (by omega) ?_)
        rw [ordB_sorted_bad (by omega) hx]
        exact ⟨rfl, u2⟩
    · try simp (disch := first | omega | (simp only [ints_length, List.length_replicate, List.length_set, sortedL_length, bools_length, metL_length] <;> omega)) only [Sall,evalOp,init,binA_s,binE,binI,unE,convE,okNil,builtE,gv,TD.isAgg,resV,↓reduceIte,Nat.reduceEqDiff,reduceCtorEq,Nat.reduceAdd,Nat.reduceMul,Nat.reduceLeDiff,quietOp,blindOp,Int.reduceEq,Int.reduceLT,Int.reduceLE,Nat.reduceLT,tiA, h0, h1]
      have ha : a = y.length := by omega
      subst ha
      refine (size_c v y H' (hv.same (u2.le hs).row) hy).to ?_
      try simp (disch := first | omega | (simp only [ints_length, List.length_replicate, List.length_set, sortedL_length, bools_length, metL_length] <;> omega)) only [Sall,evalOp,init,binA_s,binE,binI,unE,convE,okNil,builtE,gv,TD.isAgg,resV,↓reduceIte,Nat.reduceEqDiff,reduceCtorEq,Nat.reduceAdd,Nat.reduceMul,Nat.reduceLeDiff,quietOp,blindOp,Int.reduceEq,Int.reduceLT,Int.reduceLE,Nat.reduceLT,tiA, h1]
      rw [ordB_sorted_all hall]
      refine ⟨?_, u2⟩
      by_cases e : y.length = n
      · rw [decide_eq_true e, e]; simp
      · rw [decide_eq_false e]; simp; omega
theorem l01Order_c (n : Nat) (hn : n ≤ 1024) (v : Value) (y : List Int) (H : AH) (hv : Rd 1 H v y.length y) (hy : y.length ≤ 4294967296) :
    ACalls Tryz.prog 160 [v, .int .i64 n] H (is (.bool (ordB n y)) H) := by
  refine acalls_up rfl (ACalls.wf (by kernel_rfl) fun hs => acalls_of_awp [.tmp 4] Tryz.func160 (by kernel_rfl) rfl rfl (Nat.le_of_ble_eq_true rfl) (by kernel_rfl) ?_)
  try simp (disch := first | omega | (simp only [ints_length, List.length_replicate, List.length_set, sortedL_length, bools_length, metL_length] <;> omega)) only [Sall,evalOp,init,binA_s,binE,binI,unE,convE,okNil,builtE,gv,TD.isAgg,resV,↓reduceIte,Nat.reduceEqDiff,reduceCtorEq,Nat.reduceAdd,Nat.reduceMul,Nat.reduceLeDiff,quietOp,blindOp,Int.reduceEq,Int.reduceLT,Int.reduceLE,Nat.reduceLT,tiA, zeros_bools, ← metL_nil]
  (repeat refine And.intro (by omega) ?_)
  have hml := metL_length n []
  refine awp_loop (fun m t H' => ∃ a : Nat, m = y.length - a ∧ a ≤ y.length ∧ t 6 = .int .i64 a ∧ t 5 = .slice (some ⟨H.next, 0, some 1⟩) n n ∧ t 0 = v ∧ t 1 = .int .i64 n ∧ H.next < H'.next ∧ (∀ i, i < H.next → H'.row i = H.row i) ∧ H'.row H.next = some ⟨4, true, bools (metL n (y.take a))⟩ ∧ goodTo n y a) y.length ?_ ?_
  · refine ⟨0, by omega, by omega, ?_⟩
    try simp (disch := first | omega | (simp only [ints_length, List.length_replicate, List.length_set, sortedL_length, bools_length, metL_length] <;> omega)) only [Sall,evalOp,init,binA_s,binE,binI,unE,convE,okNil,builtE,gv,TD.isAgg,resV,↓reduceIte,Nat.reduceEqDiff,reduceCtorEq,Nat.reduceAdd,Nat.reduceMul,Nat.reduceLeDiff,quietOp,blindOp,Int.reduceEq,Int.reduceLT,Int.reduceLE,Nat.reduceLT,tiA, Int.natCast_zero, List.take_zero]
    refine ⟨by omega, fun i hi => by rw [if_neg (by omega)], goodTo_zero n y⟩
  · rintro m t H' ⟨a, hm, han, h6, h5, h0, h1, hnx, hrows, hrow, hgood⟩
    have hv' : Rd 1 H' v y.length y := hv.same fun i r hr => by rw [hrows i (hs _ _ hr)]; exact hr
    have up : Up H.next H H' := ⟨by omega, hrows⟩
    try simp (disch := first | omega | (simp only [ints_length, List.length_replicate, List.length_set, sortedL_length, bools_length, metL_length] <;> omega)) only [Sall,evalOp,init,binA_s,binE,binI,unE,convE,okNil,builtE,gv,TD.isAgg,resV,↓reduceIte,Nat.reduceEqDiff,reduceCtorEq,Nat.reduceAdd,Nat.reduceMul,Nat.reduceLeDiff,quietOp,blindOp,Int.reduceEq,Int.reduceLT,Int.reduceLE,Nat.reduceLT,tiA, h6, h0, builtE, hv'.len]
    refine condC_dec (fun h => ?_) (fun h => ?_)
    · obtain ⟨i, o, uu, cc, r, rfl, hr, hc, hg, _⟩ := hv'.get (by omega)
      have g1 := hg a (by omega)
      obtain ⟨x, hx⟩ : ∃ x, x = y.getD a 0 := ⟨_, rfl⟩
      rw [← hx] at g1
      by_cases hin : 0 ≤ x ∧ x ≤ (n : Int) - 1
      · have hin' : 0 ≤ x ∧ x < (n : Int) := by omega
        have g2 := metL_get? n (y.take a) x hin'
        have g3 := metL_put n (y.take a) x hin'
        try simp (disch := first | omega | (simp only [ints_length, List.length_replicate, List.length_set, sortedL_length, bools_length, metL_length] <;> omega)) only [Sall,evalOp,init,binA_s,binE,binI,unE,convE,okNil,builtE,gv,TD.isAgg,resV,↓reduceIte,Nat.reduceEqDiff,reduceCtorEq,Nat.reduceAdd,Nat.reduceMul,Nat.reduceLeDiff,quietOp,blindOp,Int.reduceEq,Int.reduceLT,Int.reduceLE,Nat.reduceLT,tiA, h6, h0, h1, hr, g1, w64]
        (repeat refine And.intro (by omega) ?_)
        refine (l01In_c _ _ _ _).to ?_
        rw [decide_eq_true hin]
        cases hct : (y.take a).contains x with
        | true =>
          rw [hct] at g2
          try simp (disch := first | omega | (simp only [ints_length, List.length_replicate, List.length_set, sortedL_length, bools_length, metL_length] <;> omega)) only [Sall,evalOp,init,binA_s,binE,binI,unE,convE,okNil,builtE,gv,TD.isAgg,resV,↓reduceIte,Nat.reduceEqDiff,reduceCtorEq,Nat.reduceAdd,Nat.reduceMul,Nat.reduceLeDiff,quietOp,blindOp,Int.reduceEq,Int.reduceLT,Int.reduceLE,Nat.reduceLT,tiA, Bool.not_true, h6, h5, h0, h1, hr, g1, hrow, g2, w64]
          (repeat refine And.intro (by omega) ?_)
          rw [ordB_bad (i := a) (by omega) (.inr (by rw [← hx]; exact hct))]
          exact ⟨rfl, up⟩
        | false =>
          rw [hct] at g2
          have ne : ¬ i = H.next := by
            rintro rfl
            rw [hrow] at hr
            cases hr
            rcases hv.2 with ⟨h9, _⟩ | ⟨i9, o9, u9, c9, r9, e9, hr9, _⟩
            · omega
            · cases e9
              have := hs _ _ hr9
              omega
          try simp (disch := first | omega | (simp only [ints_length, List.length_replicate, List.length_set, sortedL_length, bools_length, metL_length] <;> omega)) only [Sall,evalOp,init,binA_s,binE,binI,unE,convE,okNil,builtE,gv,TD.isAgg,resV,↓reduceIte,Nat.reduceEqDiff,reduceCtorEq,Nat.reduceAdd,Nat.reduceMul,Nat.reduceLeDiff,quietOp,blindOp,Int.reduceEq,Int.reduceLT,Int.reduceLE,Nat.reduceLT,tiA, Bool.not_true, h6, h5, h0, h1, hr, g1, hrow, g2, g3, ne, w64]
          (repeat refine And.intro (by omega) ?_)
          refine ⟨by rw [bools_length, metL_length]; omega, y.length - (a + 1), by omega, a + 1, rfl, by omega, rfl, hnx, fun i hi => by rw [if_neg (by omega)]; exact hrows i hi, by rw [take_snoc y 0 a (by omega), ← hx], goodTo_succ (by omega) hgood (by rw [← hx]; exact hin') (by rw [← hx]; exact hct)⟩
      · try simp (disch := first | omega | (simp only [ints_length, List.length_replicate, List.length_set, sortedL_length, bools_length, metL_length] <;> omega)) only [Sall,evalOp,init,binA_s,binE,binI,unE,convE,okNil,builtE,gv,TD.isAgg,resV,↓reduceIte,Nat.reduceEqDiff,reduceCtorEq,Nat.reduceAdd,Nat.reduceMul,Nat.reduceLeDiff,quietOp,blindOp,Int.reduceEq,Int.reduceLT,Int.reduceLE,Nat.reduceLT,tiA, h6, h0, h1, hr, g1, w64]
        (repeat refine And.intro (by omega) ?_)
        refine (l01In_c _ _ _ _).to ?_
        rw [decide_eq_false hin]
        try simp (disch := first | omega | (simp only [ints_length, List.length_replicate, List.length_set, sortedL_length, bools_length, metL_length] <;> omega)) only [Sall,evalOp,init,binA_s,binE,binI,unE,convE,okNil,builtE,gv,TD.isAgg,resV,↓reduceIte,Nat.reduceEqDiff,reduceCtorEq,Nat.reduceAdd,Nat.reduceMul,Nat.reduceLeDiff,quietOp,blindOp,Int.reduceEq,Int.reduceLT,Int.reduceLE,Nat.reduceLT,tiA, Bool.not_false]
        rw [ordB_bad (i := a) (by omega) (.inl (by rw [← hx]; omega))]
        exact ⟨rfl, up⟩
    · have ha : a = y.length := by omega
      subst ha
      try simp (disch := first | omega | (simp only [ints_length, List.length_replicate, List.length_set, sortedL_length, bools_length, metL_length] <;> omega)) only [Sall,evalOp,init,binA_s,binE,binI,unE,convE,okNil,builtE,gv,TD.isAgg,resV,↓reduceIte,Nat.reduceEqDiff,reduceCtorEq,Nat.reduceAdd,Nat.reduceMul,Nat.reduceLeDiff,quietOp,blindOp,Int.reduceEq,Int.reduceLT,Int.reduceLE,Nat.reduceLT,tiA, h0, h1, builtE, hv'.len]
      rw [goodTo_all hgood]
      refine ⟨?_, up⟩
      by_cases e : y.length = n
      · rw [decide_eq_true e, e]; simp
      · rw [decide_eq_false e]; simp; omega
end Go.Proofs.YtpienljnoaendaaGreat.A
end

section
namespace Go.Abs
def colL (ll : List (List Int)) (i c : Nat) : List Int := (List.range c).map fun k => (ll.getD k []).getD i 0
theorem colL_length (ll : List (List Int)) (i c : Nat) : (colL ll i c).length = c := by simp [colL]
end Go.Abs
end

section
set_option maxRecDepth 100000
set_option maxHeartbeats 2000000
namespace Go.Proofs.YtpienljnoaendaaGreat.A
open Go Go.Abs Go.RowKit
end Go.Proofs.YtpienljnoaendaaGreat.A
end

section
namespace Go.Abs
open Go Go.RowKit
def Pt (lo hi i : Nat) (H : AH) (x : Value) (y : List Int) : Prop := ∀ H', (∀ z r, lo ≤ z → z < hi → ¬ z = i → H.row z = some r → H'.row z = some r) → Rd 1 H' x y.length y
def FrV (ty lo hi : Nat) (H : AH) (v : Value) (ll : List (List Int)) : Prop :=
  (ll = [] ∧ v = .slice none 0 0) ∨ ∃ i vs, lo ≤ i ∧ i < hi ∧ v = .slice (some ⟨i, 0, some 1⟩) ll.length ll.length ∧ H.row i = some ⟨ty, true, vs⟩ ∧ vs.length = ll.length ∧ ∀ j, j < ll.length → ∃ x, vs[j]? = some x ∧ Pt lo hi i H x (ll.getD j [])
theorem FrV.same {ty lo hi : Nat} {H H' : AH} {v : Value} {ll : List (List Int)} (h : FrV ty lo hi H v ll) (hs : ∀ i, lo ≤ i → i < hi → H'.row i = H.row i) : FrV ty lo hi H' v ll := by
  rcases h with h | ⟨i, vs, h1, h2, hv, hr, hl, hj⟩
  · exact .inl h
  · refine .inr ⟨i, vs, h1, h2, hv, by rw [hs i h1 h2]; exact hr, hl, fun j hjl => ?_⟩
    obtain ⟨x, hx, hp⟩ := hj j hjl
    exact ⟨x, hx, fun H2 h2 => hp H2 fun z r z1 z2 z3 hz => h2 z r z1 z2 z3 (by rw [hs z z1 z2]; exact hz)⟩
theorem FrV.wide {ty lo hi lo' hi' : Nat} {H : AH} {v : Value} {ll : List (List Int)} (h : FrV ty lo hi H v ll) (a : lo' ≤ lo) (c : hi ≤ hi') : FrV ty lo' hi' H v ll := by
  rcases h with h | ⟨i, vs, h1, h2, hv, hr, hl, hj⟩
  · exact .inl h
  · refine .inr ⟨i, vs, by omega, by omega, hv, hr, hl, fun j hjl => ?_⟩
    obtain ⟨x, hx, hp⟩ := hj j hjl
    exact ⟨x, hx, fun H2 h2 => hp H2 fun z r z1 z2 z3 hz => h2 z r (by omega) (by omega) z3 hz⟩
theorem FrV.rd {ty lo hi : Nat} {H : AH} {v : Value} {ll : List (List Int)} (h : FrV ty lo hi H v ll) : Rd2 1 H v ll := by
  rcases h with ⟨h1, h2⟩ | ⟨i, vs, h1, h2, rfl, hr, hl, hj⟩
  · exact .inl ⟨h1, none, 0, h2, fun _ => rfl⟩
  · refine .inr ⟨i, 0, some 1, _, _, rfl, hr, fun j hjl => ?_⟩
    obtain ⟨x, hx, hp⟩ := hj j hjl
    exact ⟨x, _, by simpa using hx, hp H fun _ _ _ _ _ h => h⟩
theorem seg_whole (l : List Value) (n : Nat) (h : l.length = n) : seg l 0 n = l := seg_all _ _ h.symm
theorem appE_frV {P : Program} {E : TI} {ty lo hi lo' hi' : Nat} {H : AH} {v x : Value} {ll ll' : List (List Int)} {K : Value → AH → Prop} (h : FrV ty lo hi H v ll) (hx : FrV ty lo' hi' H x ll') (hE : E.size = 1) (hb : E.bytes ≤ 32768) (hn : ll.length + ll'.length ≤ 4294967296) (hlo : lo ≤ hi) (hhi : hi ≤ lo') (hhi' : hi' ≤ H.next) (hhN : hi ≤ H.next)
    (hK : ∀ v' H', H.next ≤ H'.next → (∀ i, ¬(lo ≤ i ∧ i < hi) → i < H.next → H'.row i = H.row i) → FrV ty lo H'.next H' v' (ll ++ ll') → K v' H') :
    runOut P H (slCells H E.size x fun xs m => appE E ty v xs m H) K := by
  have none0 : ll' = [] → runOut P H (appE E ty v [] 0 H) K := by
    intro e0
    rw [e0] at hK
    clear hx
    unfold appE
    rw [if_pos rfl]
    refine Holds.mp ?_
    rcases h with ⟨rfl, rfl⟩ | ⟨i, vs, h1, h2, rfl, hr, hl, hj⟩ <;> rw [holds_def]
    · simp only [asSl_nil, runOut_val]
      exact hK _ _ (Nat.le_refl _) (fun _ _ _ => rfl) (.inl ⟨rfl, rfl⟩)
    · simp only [asSl_some, runOut_need, runOut_val]
      refine ⟨(fun h => by cases h), hK _ _ (Nat.le_refl _) (fun _ _ _ => rfl) ?_⟩
      rw [List.append_nil]
      exact FrV.wide (lo := lo) (hi := hi) (.inr ⟨i, vs, h1, h2, rfl, hr, hl, hj⟩) (Nat.le_refl _) hhN
  refine Holds.mp ?_
  rcases hx with ⟨e0, rfl⟩ | ⟨i', vs', q1, q2, rfl, qr, ql, qj⟩ <;> rw [holds_def]
  · unfold slCells
    simp only [asSl_nil]
    exact none0 e0
  · unfold slCells
    simp only [asSl_some, qr, bindO_some, runOut_need, hE, Nat.mul_one, Nat.zero_add]
    refine ⟨⟨by omega, .inl rfl⟩, ?_⟩
    rw [seg_whole _ _ ql]
    by_cases h0 : ll'.length = 0
    · have e0 : ll' = [] := List.eq_nil_of_length_eq_zero h0
      have ev : vs' = [] := List.eq_nil_of_length_eq_zero (by omega)
      rw [ev, h0]
      exact none0 e0
    · have inner : ∀ (H2 : AH), H.next < H2.next → (∀ z r, lo' ≤ z → z < hi' → ¬ z = i' → H.row z = some r → H2.row z = some r) → ∀ j, j < ll'.length → ∃ y, vs'[j]? = some y ∧ Pt lo H2.next H.next H2 y (ll'.getD j []) := by
        intro H2 hn2 hs2 j hj
        obtain ⟨y, hy, hp⟩ := qj j hj
        exact ⟨y, hy, fun H3 h3 => hp H3 fun z r z1 z2 z3 hz => h3 z r (by omega) (by omega) (by omega) (hs2 z r z1 z2 z3 hz)⟩
      unfold appE
      rw [if_neg h0]
      refine Holds.mp ?_
      rcases h with ⟨rfl, rfl⟩ | ⟨i, vs, h1, h2, rfl, hr, hl, hj⟩ <;> rw [holds_def]
      · simp only [asSl_nil, runOut_need, runOut_val, hE]
        simp only [List.length_nil, Nat.zero_add] at hn
        refine ⟨⟨hn, hb⟩, hK _ _ (Nat.le_succ _) (fun i _ hi => by rw [AH.push_row, if_neg (by omega)]) ?_⟩
        refine .inr ⟨H.next, vs', by omega, by rw [AH.push_next]; omega, rfl, by rw [AH.push_row, if_pos rfl], ql, ?_⟩
        exact inner _ (by rw [AH.push_next]; omega) fun z r z1 z2 _ hz => by rw [AH.push_row, if_neg (by omega)]; exact hz
      · simp only [asSl_some, hr, bindO_some, runOut_need, Nat.zero_add, hE, Nat.mul_one]
        refine ⟨⟨hn, hb, by omega, .inl rfl⟩, ?_⟩
        rw [if_neg (by omega)]
        simp only [runOut_need, runOut_val]
        rw [seg_whole _ _ hl]
        refine ⟨by simp, hK _ _ (by rw [AH.push_next, AH.drop_next]; omega) (fun z hz hz2 => ?_) (.inr ⟨H.next, vs ++ vs', by omega, by rw [AH.push_next, AH.drop_next]; omega, ?_, ?_, ?_, fun j hjl => ?_⟩)⟩
        · rw [AH.push_row, if_neg (by rw [AH.drop_next]; omega), AH.drop_row, if_neg (by omega)]
        · rw [List.length_append]
        · rw [AH.push_row, AH.drop_next, if_pos rfl]
        · rw [List.length_append, List.length_append, hl, ql]
        · rw [List.length_append] at hjl
          have old : ∀ z r, z < H.next → ¬ z = i → H.row z = some r → ((H.drop i).push ⟨ty, true, vs ++ vs'⟩).row z = some r := fun z r z1 z2 hz => by
            rw [AH.push_row, if_neg (by rw [AH.drop_next]; omega), AH.drop_row, if_neg z2]; exact hz
          by_cases c : j < ll.length
          · obtain ⟨y, hy, hp⟩ := hj j c
            refine ⟨y, by rw [List.getElem?_append_left (by omega), hy], ?_⟩
            have e1 : (ll ++ ll').getD j [] = ll.getD j [] := by simp [List.getD_eq_getElem?_getD, List.getElem?_append_left c]
            rw [e1]
            exact fun H3 h3 => hp H3 fun z r z1 z2 z3 hz => h3 z r z1 (by rw [AH.push_next, AH.drop_next]; omega) (by omega) (old z r (by omega) z3 hz)
          · obtain ⟨y, hy, hp⟩ := inner ((H.drop i).push ⟨ty, true, vs ++ vs'⟩) (by rw [AH.push_next, AH.drop_next]; omega) (fun z r z1 z2 z3 hz => old z r (by omega) (by omega) hz) (j - ll.length) (by omega)
            refine ⟨y, by rw [List.getElem?_append_right (by omega), hl]; exact hy, ?_⟩
            have e1 : (ll ++ ll').getD j [] = ll'.getD (j - ll.length) [] := by simp [List.getD_eq_getElem?_getD, List.getElem?_append_right (show ll.length ≤ j by omega)]
            rw [e1]
            exact hp
theorem cells_of_one {v : Value} (h : v.oneCell' = true) : v.cells = #[v] := by
  cases v <;> first | rfl | (simp [Value.oneCell'] at h)
theorem noTuple_of_one {v : Value} (h : v.oneCell' = true) : noTuple v = true := by
  cases v <;> first | rfl | (simp [Value.oneCell'] at h)
end Go.Abs
end

section
set_option maxRecDepth 100000
set_option maxHeartbeats 2000000
namespace Go.Proofs.YtpienljnoaendaaGreat.A
open Go Go.Abs Go.RowKit
end Go.Proofs.YtpienljnoaendaaGreat.A
end

section
namespace Go.Abs
end Go.Abs
end

section
namespace Go.Abs
def ixN (m a b : Nat) : Int := ((a * m + b : Nat) : Int)
def cntMx (m : Nat) (I : List Int) : List (List Int) := (List.range m).map fun a => (List.range m).map fun b => ((I.count (ixN m a b) : Nat) : Int)
/-! ### Neighbours -/
end Go.Abs
end

section
namespace Go.Abs
/-! ### Tables -/
def qd (l : List Int) (t j : Nat) : Nat := (l.getD (4 * t + j) 0).toNat
def evW (n : Nat) (q : Nat → Nat) (ws : List (Nat × Nat)) : List Int := ws.flatMap fun w => [ixN n (q w.1) (q w.2), ixN n (q w.2) (q w.1)]
def evR (n : Nat) (ws : List (Nat × Nat)) (l : List Int) (c : Nat) : List Int := (List.range c).flatMap fun t => evW n (qd l t) ws
def evA (n : Nat) (ws : List (Nat × Nat)) (R : List (List Int)) (k : Nat) : List Int := (List.range k).flatMap fun i => evR n ws (R.getD i []) ((R.getD i []).length / 4)
def tabM (n : Nat) (ws : List (Nat × Nat)) (R : List (List Int)) : List (List Int) := cntMx n (evA n ws R R.length)
/-! ### Evenings made from a base round -/
def mdX (m i : Nat) (x : Int) : Int := if x < m then (x + i) % m else x
def mdL (m i : Nat) (y : List Int) : List Int := y.map (mdX m i)
def madeL (m : Nat) (y : List Int) (k : Nat) : List (List Int) := (List.range k).map fun i => mdL m i y
theorem mdL_length (m i : Nat) (y : List Int) : (mdL m i y).length = y.length := by simp [mdL]
theorem madeL_length (m : Nat) (y : List Int) (k : Nat) : (madeL m y k).length = k := by simp [madeL]
def wP : List (Nat × Nat) := [(0, 1), (2, 3)]
end Go.Abs
end

section
namespace Go.Abs
open Go Go.RowKit
end Go.Abs
end

section
set_option maxRecDepth 100000
set_option maxHeartbeats 2000000
namespace Go.Proofs.YtpienljnoaendaaGreat.A
open Go Go.Abs Go.RowKit
end Go.Proofs.YtpienljnoaendaaGreat.A
end

section
set_option maxRecDepth 100000
set_option maxHeartbeats 2000000
namespace Go.Proofs.YtpienljnoaendaaGreat.A
open Go Go.Abs Go.RowKit
end Go.Proofs.YtpienljnoaendaaGreat.A
end

section
set_option maxRecDepth 100000
set_option maxHeartbeats 2000000
namespace Go.Proofs.YtpienljnoaendaaGreat.A
open Go Go.Abs Go.RowKit
end Go.Proofs.YtpienljnoaendaaGreat.A
end

section
set_option maxRecDepth 100000
set_option maxHeartbeats 2000000
namespace Go.Proofs.YtpienljnoaendaaGreat.A
open Go Go.Abs Go.RowKit
end Go.Proofs.YtpienljnoaendaaGreat.A
end

section
namespace Go.Abs
open Go Go.RowKit
structure PoolJ (P : Program) (ops : Array Oper) (Q : T → AH → Prop) (post : OT) (J : List Nat → List Nat → T → AH → Prop) : Prop where
  call : ∀ c cs fs t H, J (c :: cs) fs t H → stepI P ops (J cs fs) c (ops.toList[c]?) t H
  free : ∀ a cs fs t H, a ∈ fs → J cs fs t H → stepI P ops (J cs (fs.erase a)) a (ops.toList[a]?) t H
  done : ∀ t H, J [] [] t H → awpT P ops Q post t H
end Go.Abs
end

section
set_option maxRecDepth 100000
set_option maxHeartbeats 2000000
namespace Go.Proofs.YtpienljnoaendaaGreat.A
open Go Go.Abs Go.RowKit
structure FtJ (A : AH) (n : Nat) (R : List (List Int)) (sv : Value) (cs fs : List Nat) (t : T) (H : AH) : Prop where
  hcs : cs = [1, 2] ∨ cs = [2] ∨ cs = []
  hfs : fs = [4] ∨ fs = []
  t13 : t 13 = sv
  t16 : t 16 = sv
  up : Up A.next A H
  sc : Sc H
  p1 : 1 ∉ cs → ∃ i, t 14 = .slice (some ⟨i, 0, some 1⟩) 1 1 ∧ i < H.next ∧ H.row i = some ⟨3, true, [.int .i64 1]⟩
  s2 : 2 ∉ cs → Fr2 1 33 2 A.next H.next H (t 15) (tabM n wP R)
  p4 : 4 ∉ fs → ∃ i, t 17 = .slice (some ⟨i, 0, some 1⟩) 2 2 ∧ i < H.next ∧ H.row i = some ⟨3, true, [.int .i64 2, .int .i64 3]⟩
end Go.Proofs.YtpienljnoaendaaGreat.A
end

section
set_option maxRecDepth 100000
set_option maxHeartbeats 2000000
namespace Go.Proofs.YtpienljnoaendaaGreat.A
open Go Go.Abs Go.RowKit
theorem indexI_c (v : Value) (y : List Int) (x : Int) (H : AH) (hv : Rd 1 H v y.length y) (hy : y.length ≤ 4294967296) :
    ACalls Tryz.prog 255 [v, .int .i64 x] H (is (.int .i64 (firstI (fun i => y.getD i 0 == x) y.length)) H) := by
  refine acalls_up rfl (acalls_of_awp [.tmp 4] Tryz.func255 (by kernel_rfl) rfl rfl (Nat.le_of_ble_eq_true rfl) (by kernel_rfl) ?_)
  try simp (disch := first | omega | (simp only [L3] <;> omega)) only [Sall,evalOp,init,binA_s,binE,binI,unE,convE,okNil,builtE,gv,TD.isAgg,resV,↓reduceIte,Nat.reduceEqDiff,reduceCtorEq,Nat.reduceAdd,Nat.reduceMul,Nat.reduceLeDiff,quietOp,blindOp,Int.reduceEq,Int.reduceLT,Int.reduceLE,Nat.reduceLT,tiA, builtE, hv.len]
  refine awp_loop (fun m t H' => ∃ a : Nat, m = y.length - a ∧ a ≤ y.length ∧ t 8 = .int .i64 a ∧ t 7 = .int .i64 y.length ∧ t 0 = v ∧ t 1 = .int .i64 x ∧ H' = H ∧ (∀ i, i < a → (y.getD i 0 == x) = false)) y.length ?_ ?_
  · refine ⟨0, by omega, by omega, ?_⟩
    try simp (disch := first | omega | (simp only [L3] <;> omega)) only [Sall,evalOp,init,binA_s,binE,binI,unE,convE,okNil,builtE,gv,TD.isAgg,resV,↓reduceIte,Nat.reduceEqDiff,reduceCtorEq,Nat.reduceAdd,Nat.reduceMul,Nat.reduceLeDiff,quietOp,blindOp,Int.reduceEq,Int.reduceLT,Int.reduceLE,Nat.reduceLT,tiA, Int.natCast_zero, Nat.not_lt_zero, false_implies]
  · rintro m t H' ⟨a, hm, han, h8, h7, h0, h1, rfl, hall⟩
    try simp (disch := first | omega | (simp only [L3] <;> omega)) only [Sall,evalOp,init,binA_s,binE,binI,unE,convE,okNil,builtE,gv,TD.isAgg,resV,↓reduceIte,Nat.reduceEqDiff,reduceCtorEq,Nat.reduceAdd,Nat.reduceMul,Nat.reduceLeDiff,quietOp,blindOp,Int.reduceEq,Int.reduceLT,Int.reduceLE,Nat.reduceLT,tiA, h8, h7]
    refine condC_dec (fun h => ?_) (fun h => ?_)
    · obtain ⟨i, o, u, c, r, rfl, hr, hc, hs, _⟩ := hv.get (by omega)
      have g1 := hs a (by omega)
      by_cases hx : y.getD a 0 = x
      · have e1 : (x == y.getD a 0) = true := by rw [hx]; exact beq_self_eq_true _
        try simp (disch := first | omega | (simp only [L3] <;> omega)) only [Sall,evalOp,init,binA_s,binE,binI,unE,convE,okNil,builtE,gv,TD.isAgg,resV,↓reduceIte,Nat.reduceEqDiff,reduceCtorEq,Nat.reduceAdd,Nat.reduceMul,Nat.reduceLeDiff,quietOp,blindOp,Int.reduceEq,Int.reduceLT,Int.reduceLE,Nat.reduceLT,tiA, h8, h0, h1, hr, g1, e1]
        (repeat refine And.intro (by omega) ?_)
        rw [firstI_at (by omega) (by rw [hx]; exact beq_self_eq_true _) hall]
        exact ⟨rfl, Up.refl _ _⟩
      · have e1 : (x == y.getD a 0) = false := beq_eq_false_iff_ne.2 (Ne.symm hx)
        try simp (disch := first | omega | (simp only [L3] <;> omega)) only [Sall,evalOp,init,binA_s,binE,binI,unE,convE,okNil,builtE,gv,TD.isAgg,resV,↓reduceIte,Nat.reduceEqDiff,reduceCtorEq,Nat.reduceAdd,Nat.reduceMul,Nat.reduceLeDiff,quietOp,blindOp,Int.reduceEq,Int.reduceLT,Int.reduceLE,Nat.reduceLT,tiA, h8, h7, h0, h1, hr, g1, e1, w64]
        (repeat refine And.intro (by omega) ?_)
        refine ⟨y.length - (a + 1), by omega, a + 1, rfl, by omega, rfl, fun i hi => ?_⟩
        by_cases e : i = a
        · rw [e]; exact beq_eq_false_iff_ne.2 hx
        · exact hall i (by omega)
    · try simp (disch := first | omega | (simp only [L3] <;> omega)) only [Sall,evalOp,init,binA_s,binE,binI,unE,convE,okNil,builtE,gv,TD.isAgg,resV,↓reduceIte,Nat.reduceEqDiff,reduceCtorEq,Nat.reduceAdd,Nat.reduceMul,Nat.reduceLeDiff,quietOp,blindOp,Int.reduceEq,Int.reduceLT,Int.reduceLE,Nat.reduceLT,tiA, true_and]
      rw [firstI_none (fun i hi => hall i (by omega))]
      exact ⟨rfl, Up.refl _ _⟩
theorem containsI_c (v : Value) (y : List Int) (x : Int) (H : AH) (hv : Rd 1 H v y.length y) (hy : y.length ≤ 4294967296) :
    ACalls Tryz.prog 161 [v, .int .i64 x] H (is (.bool (y.contains x)) H) := by
  refine acalls_of_awp [.tmp 4] Tryz.func161 (by kernel_rfl) rfl rfl (Nat.le_of_ble_eq_true rfl) (by kernel_rfl) ?_
  try simp (disch := first | omega | (simp only [L3] <;> omega)) only [Sall,evalOp,init,binA_s,binE,binI,unE,convE,okNil,builtE,gv,TD.isAgg,resV,↓reduceIte,Nat.reduceEqDiff,reduceCtorEq,Nat.reduceAdd,Nat.reduceMul,Nat.reduceLeDiff,quietOp,blindOp,Int.reduceEq,Int.reduceLT,Int.reduceLE,Nat.reduceLT,tiA, true_and]
  refine (indexI_c v y x H hv hy).to ?_
  try simp (disch := first | omega | (simp only [L3] <;> omega)) only [Sall,evalOp,init,binA_s,binE,binI,unE,convE,okNil,builtE,gv,TD.isAgg,resV,↓reduceIte,Nat.reduceEqDiff,reduceCtorEq,Nat.reduceAdd,Nat.reduceMul,Nat.reduceLeDiff,quietOp,blindOp,Int.reduceEq,Int.reduceLT,Int.reduceLE,Nat.reduceLT,tiA, is, firstI_any]
  exact any_contains y x
theorem rd_seg {k n i o c : Nat} {u : Option Nat} {H : AH} {l : List Int} (h : Rd k H (.slice (some ⟨i, o, u⟩) n c) n l) (hn : 0 < n) : ∃ r, H.row i = some r ∧ o + n * k ≤ r.cells.length ∧ seg r.cells o (n * k) = ints l := by
  rcases h.2 with ⟨h0, _⟩ | ⟨i', o', u', c', r, e, hr, h3, h4⟩
  · omega
  · cases e; exact ⟨r, hr, h3, h4⟩
def Cp (H : AH) (v : Value) (y : List Int) : Prop := Rd 1 H v y.length y ∧ (y.length = 0 → v = .slice none 0 0 ∨ ∃ i c r, v = .slice (some ⟨i, 0, some 1⟩) 0 c ∧ H.row i = some r ∧ r.rw = true)
theorem Cp.of_fr {ty lo hi : Nat} {H : AH} {v : Value} {y : List Int} (h : Fr 1 ty lo hi H v y.length y) : Cp H v y := by
  refine ⟨h.rd, fun h0 => ?_⟩
  rcases h.2 with ⟨_, rfl⟩ | ⟨i, h1, h2, rfl, hr⟩
  · exact .inl rfl
  · rw [h0]; exact .inr ⟨i, 0, _, rfl, hr, rfl⟩
theorem cloneI_c (v : Value) (y : List Int) (H : AH) (hv : Cp H v y) (hy : y.length ≤ 4194304) :
    ACalls Tryz.prog 196 [v] H (fun u H' => Up H.next H H' ∧ Fr 1 2 H.next H'.next H' u y.length y) := by
  refine ACalls.wf (by kernel_rfl) fun hs => acalls_of_awp [.tmp 2] Tryz.func196 (by kernel_rfl) rfl rfl (Nat.le_of_ble_eq_true rfl) (by kernel_rfl) ?_
  obtain ⟨hrd, hz⟩ := hv
  by_cases h0 : y.length = 0
  · have hy0 : y = [] := List.eq_nil_of_length_eq_zero h0
    subst hy0
    rcases hz h0 with rfl | ⟨i, c, r, rfl, hr, hw⟩
    · try simp (disch := first | omega | (simp only [L3] <;> omega)) only [Sall,evalOp,init,binA_s,binE,binI,unE,convE,okNil,builtE,gv,TD.isAgg,resV,↓reduceIte,Nat.reduceEqDiff,reduceCtorEq,Nat.reduceAdd,Nat.reduceMul,Nat.reduceLeDiff,quietOp,blindOp,Int.reduceEq,Int.reduceLT,Int.reduceLE,Nat.reduceLT,tiA, binE, Option.isNone_none]
      exact ⟨Up.refl _ _, ⟨rfl, .inl ⟨rfl, rfl⟩⟩⟩
    · have hi := hs _ _ hr
      have ne : ¬ i = H.next := by omega
      have hok : Go.Abs.Row.ok r [] = True := eq_true (.inl hw)
      try simp (disch := first | omega | (simp only [L3] <;> omega)) only [Sall,evalOp,init,binA_s,binE,binI,unE,convE,okNil,builtE,gv,TD.isAgg,resV,↓reduceIte,Nat.reduceEqDiff,reduceCtorEq,Nat.reduceAdd,Nat.reduceMul,Nat.reduceLeDiff,quietOp,blindOp,Int.reduceEq,Int.reduceLT,Int.reduceLE,Nat.reduceLT,tiA, binE, zeros_zero, slCells, hr, ne, hok, appE]
      (repeat refine And.intro (by omega) ?_)
      refine ⟨(Up.refl _ H).push (Nat.le_refl _) _, ⟨rfl, .inr ⟨H.next, Nat.le_refl _, Nat.lt_succ_self _, rfl, by rw [AH.push_row, if_pos rfl]; rfl⟩⟩⟩
  · obtain ⟨i, o, u, c, r, rfl, hr, hc, _, _⟩ := hrd.get (by omega)
    obtain ⟨r', hr', hc', hseg⟩ := rd_seg hrd (by omega)
    rw [hr] at hr'
    cases hr'
    rw [Nat.mul_one] at hseg hc
    have hi := hs _ _ hr
    have ne : ¬ i = H.next := by omega
    try simp (disch := first | omega | (simp only [L3] <;> omega)) only [Sall,evalOp,init,binA_s,binE,binI,unE,convE,okNil,builtE,gv,TD.isAgg,resV,↓reduceIte,Nat.reduceEqDiff,reduceCtorEq,Nat.reduceAdd,Nat.reduceMul,Nat.reduceLeDiff,quietOp,blindOp,Int.reduceEq,Int.reduceLT,Int.reduceLE,Nat.reduceLT,tiA, binE, zeros_zero, slCells, hr, ne, hseg]
    (repeat refine And.intro (by omega) ?_)
    have h3 : Fr 1 2 H.next (H.next + 1) (H.push ⟨2, true, []⟩) (.slice (some ⟨H.next, 0, some 1⟩) 0 0) 0 [] := ⟨rfl, .inr ⟨H.next, Nat.le_refl _, Nat.lt_succ_self _, rfl, by rw [AH.push_row, if_pos rfl]; rfl⟩⟩
    refine appE_fr h3 rfl (by omega) (by omega) (by omega) (by decide) (by omega) (by rw [AH.push_next]; omega) ?_
    intro v' H4 k1 k2 k3
    rw [AH.push_next] at k1 k2 k3
    rw [Nat.zero_add, List.nil_append] at k3
    have k5 := k3.rd.one
    try simp (disch := first | omega | (simp only [L3] <;> omega)) only [Sall,evalOp,init,binA_s,binE,binI,unE,convE,okNil,builtE,gv,TD.isAgg,resV,↓reduceIte,Nat.reduceEqDiff,reduceCtorEq,Nat.reduceAdd,Nat.reduceMul,Nat.reduceLeDiff,quietOp,blindOp,Int.reduceEq,Int.reduceLT,Int.reduceLE,Nat.reduceLT,tiA, true_and]
    exact ⟨⟨by omega, fun i hi => by rw [k2 i (by omega) (by omega), AH.push_row, if_neg (by omega)]⟩, k3.wide (by omega) (by omega)⟩
theorem l01Own_c (v : Value) (y : List Int) (H : AH) (hv : Cp H v y) (hy : y.length ≤ 4194304) :
    ACalls Tryz.prog 201 [v] H (fun u H' => Up H.next H H' ∧ Fr 1 2 H.next H'.next H' u y.length y) := by
  refine ACalls.wf (by kernel_rfl) fun hs => acalls_of_awp [.tmp 2] Tryz.func201 (by kernel_rfl) rfl rfl (Nat.le_of_ble_eq_true rfl) (by kernel_rfl) ?_
  obtain ⟨hrd, hz⟩ := hv
  by_cases h0 : y.length = 0
  · have hy0 : y = [] := List.eq_nil_of_length_eq_zero h0
    subst hy0
    rcases hz h0 with rfl | ⟨i, c, r, rfl, hr, hw⟩
    · try simp (disch := first | omega | (simp only [L3] <;> omega)) only [Sall,evalOp,init,binA_s,binE,binI,unE,convE,okNil,builtE,gv,TD.isAgg,resV,↓reduceIte,Nat.reduceEqDiff,reduceCtorEq,Nat.reduceAdd,Nat.reduceMul,Nat.reduceLeDiff,quietOp,blindOp,Int.reduceEq,Int.reduceLT,Int.reduceLE,Nat.reduceLT,tiA, zeros_zero, slCells, appE]
      refine ⟨(Up.refl _ H).push (Nat.le_refl _) _, ⟨rfl, .inr ⟨H.next, Nat.le_refl _, Nat.lt_succ_self _, rfl, by rw [AH.push_row, if_pos rfl]; rfl⟩⟩⟩
    · have hi := hs _ _ hr
      have ne : ¬ i = H.next := by omega
      have hok : Go.Abs.Row.ok r [] = True := eq_true (.inl hw)
      try simp (disch := first | omega | (simp only [L3] <;> omega)) only [Sall,evalOp,init,binA_s,binE,binI,unE,convE,okNil,builtE,gv,TD.isAgg,resV,↓reduceIte,Nat.reduceEqDiff,reduceCtorEq,Nat.reduceAdd,Nat.reduceMul,Nat.reduceLeDiff,quietOp,blindOp,Int.reduceEq,Int.reduceLT,Int.reduceLE,Nat.reduceLT,tiA, zeros_zero, slCells, hr, ne, hok, appE]
      (repeat refine And.intro (by omega) ?_)
      refine ⟨(Up.refl _ H).push (Nat.le_refl _) _, ⟨rfl, .inr ⟨H.next, Nat.le_refl _, Nat.lt_succ_self _, rfl, by rw [AH.push_row, if_pos rfl]; rfl⟩⟩⟩
  · obtain ⟨i, o, u, c, r, rfl, hr, hc, _, _⟩ := hrd.get (by omega)
    obtain ⟨r', hr', hc', hseg⟩ := rd_seg hrd (by omega)
    rw [hr] at hr'
    cases hr'
    rw [Nat.mul_one] at hseg hc
    have hi := hs _ _ hr
    have ne : ¬ i = H.next := by omega
    try simp (disch := first | omega | (simp only [L3] <;> omega)) only [Sall,evalOp,init,binA_s,binE,binI,unE,convE,okNil,builtE,gv,TD.isAgg,resV,↓reduceIte,Nat.reduceEqDiff,reduceCtorEq,Nat.reduceAdd,Nat.reduceMul,Nat.reduceLeDiff,quietOp,blindOp,Int.reduceEq,Int.reduceLT,Int.reduceLE,Nat.reduceLT,tiA, zeros_zero, slCells, hr, ne, hseg]
    (repeat refine And.intro (by omega) ?_)
    have h3 : Fr 1 2 H.next (H.next + 1) (H.push ⟨2, true, []⟩) (.slice (some ⟨H.next, 0, some 1⟩) 0 0) 0 [] := ⟨rfl, .inr ⟨H.next, Nat.le_refl _, Nat.lt_succ_self _, rfl, by rw [AH.push_row, if_pos rfl]; rfl⟩⟩
    refine appE_fr h3 rfl (by omega) (by omega) (by omega) (by decide) (by omega) (by rw [AH.push_next]; omega) ?_
    intro v' H4 k1 k2 k3
    rw [AH.push_next] at k1 k2 k3
    rw [Nat.zero_add, List.nil_append] at k3
    have k5 := k3.rd.one
    try simp (disch := first | omega | (simp only [L3] <;> omega)) only [Sall,evalOp,init,binA_s,binE,binI,unE,convE,okNil,builtE,gv,TD.isAgg,resV,↓reduceIte,Nat.reduceEqDiff,reduceCtorEq,Nat.reduceAdd,Nat.reduceMul,Nat.reduceLeDiff,quietOp,blindOp,Int.reduceEq,Int.reduceLT,Int.reduceLE,Nat.reduceLT,tiA, true_and]
    exact ⟨⟨by omega, fun i hi => by rw [k2 i (by omega) (by omega), AH.push_row, if_neg (by omega)]⟩, k3.wide (by omega) (by omega)⟩
theorem seqL_succ (a : Int) (m : Nat) : seqL a (m + 1) = seqL a m ++ [a + m] := by simp [seqL, List.range_succ]
theorem numbersFrom_c (a b : Int) (m : Nat) (ha : 0 ≤ a ∧ a ≤ 1024) (hm : m ≤ 1024) (hb : b = a + m - 1) (H : AH) :
    ACalls Tryz.prog 191 [.int .i64 a, .int .i64 b] H (fun u H' => Up H.next H H' ∧ Fr 1 2 H.next H'.next H' u m (seqL a m)) := by
  refine acalls_of_awp [.tmp 4] Tryz.func191 (by kernel_rfl) rfl rfl (Nat.le_of_ble_eq_true rfl) (by kernel_rfl) ?_
  try simp (disch := first | omega | (simp only [L3] <;> omega)) only [Sall,evalOp,init,binA_s,binE,binI,unE,convE,okNil,builtE,gv,TD.isAgg,resV,↓reduceIte,Nat.reduceEqDiff,reduceCtorEq,Nat.reduceAdd,Nat.reduceMul,Nat.reduceLeDiff,quietOp,blindOp,Int.reduceEq,Int.reduceLT,Int.reduceLE,Nat.reduceLT,tiA, zeros_zero]
  refine awp_loop (fun z t H' => ∃ (c : Nat) (u : Value) (lo hi : Nat), z = m - c ∧ c ≤ m ∧ t 6 = .int .i64 (a + c) ∧ t 5 = u ∧ t 1 = .int .i64 b ∧ Up H.next H H' ∧ H.next ≤ lo ∧ lo ≤ hi ∧ hi ≤ H'.next ∧ Fr 1 2 lo hi H' u c (seqL a c)) m ?_ ?_
  · refine ⟨0, .slice (some ⟨H.next, 0, some 1⟩) 0 0, H.next, H.next + 1, by omega, by omega, ?_⟩
    try simp (disch := first | omega | (simp only [L3] <;> omega)) only [Sall,evalOp,init,binA_s,binE,binI,unE,convE,okNil,builtE,gv,TD.isAgg,resV,↓reduceIte,Nat.reduceEqDiff,reduceCtorEq,Nat.reduceAdd,Nat.reduceMul,Nat.reduceLeDiff,quietOp,blindOp,Int.reduceEq,Int.reduceLT,Int.reduceLE,Nat.reduceLT,tiA, Int.natCast_zero, Int.add_zero]
    refine ⟨(Up.refl _ H).push (Nat.le_refl _) _, ?_⟩
    (repeat refine And.intro (by omega) ?_)
    exact ⟨rfl, .inr ⟨H.next, Nat.le_refl _, Nat.lt_succ_self _, rfl, by rw [AH.push_row, if_pos rfl]; rfl⟩⟩
  · rintro z t H' ⟨c, u, lo, hi, hz, hcm, h6, h5, h1, hup, hlo, hlh, hhi, hfr⟩
    try simp (disch := first | omega | (simp only [L3] <;> omega)) only [Sall,evalOp,init,binA_s,binE,binI,unE,convE,okNil,builtE,gv,TD.isAgg,resV,↓reduceIte,Nat.reduceEqDiff,reduceCtorEq,Nat.reduceAdd,Nat.reduceMul,Nat.reduceLeDiff,quietOp,blindOp,Int.reduceEq,Int.reduceLT,Int.reduceLE,Nat.reduceLT,tiA, h6, h1]
    refine condC_dec (fun h => ?_) (fun h => ?_)
    · have zz : zeros 1 [.int .i64 0] = [.int .i64 0] := rfl
      have hup1 := hup.next
      try simp (disch := first | omega | (simp only [L3] <;> omega)) only [Sall,evalOp,init,binA_s,binE,binI,unE,convE,okNil,builtE,gv,TD.isAgg,resV,↓reduceIte,Nat.reduceEqDiff,reduceCtorEq,Nat.reduceAdd,Nat.reduceMul,Nat.reduceLeDiff,quietOp,blindOp,Int.reduceEq,Int.reduceLT,Int.reduceLE,Nat.reduceLT,tiA, h6, h5, zz, slCells]
      obtain ⟨H2, e2⟩ : ∃ H2, H2 = H'.push ⟨2, true, [.int .i64 (a + c)]⟩ := ⟨_, rfl⟩
      have n2 : H2.next = H'.next + 1 := by rw [e2]; rfl
      have s2 : ∀ i, i < H'.next → H2.row i = H'.row i := fun i hi => by rw [e2, AH.push_row, if_neg (by omega)]
      rw [← e2]
      clear e2
      refine appE_fr (k := 1) (lo := lo) (hi := hi) (l := seqL a c) (m := [a + (c : Int)]) (hfr.same fun i _ hi => s2 i (by omega)) rfl (by omega) rfl (by omega) (by decide) (by omega) (by omega) ?_
      intro v' H3 n3 s3 f3
      try simp (disch := first | omega | (simp only [L3] <;> omega)) only [Sall,evalOp,init,binA_s,binE,binI,unE,convE,okNil,builtE,gv,TD.isAgg,resV,↓reduceIte,Nat.reduceEqDiff,reduceCtorEq,Nat.reduceAdd,Nat.reduceMul,Nat.reduceLeDiff,quietOp,blindOp,Int.reduceEq,Int.reduceLT,Int.reduceLE,Nat.reduceLT,tiA, h6, h1, w64]
      refine ⟨m - (c + 1), by omega, c + 1, v', H2.next, H2.next + 1, rfl, by omega, by omega, rfl, ⟨by omega, fun i hi => ?_⟩, by omega, by omega, by omega, ?_⟩
      · rw [s3 i (by omega) (by omega), s2 i (by omega), hup.row i hi]
      · rw [seqL_succ]; exact f3
    · try simp (disch := first | omega | (simp only [L3] <;> omega)) only [Sall,evalOp,init,binA_s,binE,binI,unE,convE,okNil,builtE,gv,TD.isAgg,resV,↓reduceIte,Nat.reduceEqDiff,reduceCtorEq,Nat.reduceAdd,Nat.reduceMul,Nat.reduceLeDiff,quietOp,blindOp,Int.reduceEq,Int.reduceLT,Int.reduceLE,Nat.reduceLT,tiA, h5]
      have hc : c = m := by omega
      subst hc
      exact ⟨hup, hfr.wide hlo hhi⟩
/-! ### All orders -/
def Per (b0 : Nat) (H : AH) (v : Value) (y : List Int) : Prop := ∀ H', (∀ i, b0 ≤ i → i < H.next → H'.row i = H.row i) → Cp H' v y
theorem Per.nil (b0 : Nat) (H : AH) : Per b0 H (.slice none 0 0) [] := fun H' _ => ⟨⟨rfl, .inl ⟨rfl, none, 0, rfl, fun _ => rfl⟩⟩, fun _ => .inl rfl⟩
theorem Per.fr {b0 ty lo hi : Nat} {H : AH} {v : Value} {y : List Int} (h : Fr 1 ty lo hi H v y.length y) (hb : b0 ≤ lo) (hn : hi ≤ H.next) : Per b0 H v y := by
  intro H' hr
  refine Cp.of_fr (ty := ty) (lo := lo) (hi := hi) ⟨h.1, ?_⟩
  rcases h.2 with h2 | ⟨i, h1, h2, hv, hri⟩
  · exact .inl h2
  · exact .inr ⟨i, h1, h2, hv, by rw [hr i (by omega) (by omega)]; exact hri⟩
def OrdR (b0 : Nat) (cont : List Int → Bool) (S : List (List Int) → AH → Prop) (es L : List (List Int)) (H : AH) (r : Value) (H' : AH) : Prop :=
  H.next ≤ H'.next ∧ (∀ i, b0 ≤ i → i < H.next → H'.row i = H.row i) ∧
  ((r = .bool true ∧ (∀ z ∈ L, cont z = true) ∧ S (es ++ L) H') ∨ (r = .bool false ∧ ∃ L1 z L2, L = L1 ++ z :: L2 ∧ (∀ w ∈ L1, cont w = true) ∧ cont z = false ∧ S (es ++ L1 ++ [z]) H'))
theorem orders_c (g : FuncId) (cap : List Value) (cont : List Int → Bool) (ok : List Int → Prop) (S : List (List Int) → AH → Prop) (b0 : Nat) (nv : Value) (nums : List Int) (B : AH) (hnv : Rd 1 B nv nums.length nums) (hnl : nums.length ≤ 64)
    (hSr : ∀ es H', S es H' → ∀ i r, B.row i = some r → H'.row i = some r)
    (hSt : ∀ es H1 H2, S es H1 → H1.next ≤ H2.next → (∀ i, i < H1.next → H2.row i = H1.row i) → S es H2)
    (hok : ∀ y x, ok y → x ∈ nums → y.contains x = false → ok (y ++ [x]))
    (hstep : ∀ es y v H1, S es H1 → (∀ z ∈ es, cont z = true) → b0 ≤ H1.next → y.length = nums.length → ok y → Cp H1 v y →
      ACalls Tryz.prog g (v :: cap) H1 (fun r H2 => r = .bool (cont y) ∧ S (es ++ [y]) H2 ∧ H1.next ≤ H2.next ∧ ∀ i, b0 ≤ i → i < H1.next → H2.row i = H1.row i)) :
    ∀ (fuel : Nat) (y : List Int) (es : List (List Int)) (v : Value) (H : AH), fuel + y.length = nums.length → S es H → (∀ z ∈ es, cont z = true) → b0 ≤ H.next → Per b0 H v y → ok y →
      ACalls Tryz.prog 190 [v, nv, .func (.func g) #[] cap.toArray] H (OrdR b0 cont S es (ordN nums fuel y) H) := by
  intro fuel
  induction fuel with
  | zero =>
    intro y es v H hlen hS hall hb hp hy
    refine acalls_of_awp [.tmp 6] Tryz.func190 (by kernel_rfl) rfl rfl (Nat.le_of_ble_eq_true rfl) (by kernel_rfl) ?_
    have hcp := hp H (fun i _ _ => rfl)
    have hn := hnv.same (hSr _ _ hS)
    have e1 : ((y.length : Int) == (nums.length : Int)) = true := by rw [show y.length = nums.length by omega]; exact beq_self_eq_true _
    try simp (disch := first | omega | (simp only [L3] <;> omega)) only [Sall,evalOp,init,binA_s,binE,binI,unE,convE,okNil,builtE,gv,TD.isAgg,resV,↓reduceIte,Nat.reduceEqDiff,reduceCtorEq,Nat.reduceAdd,Nat.reduceMul,Nat.reduceLeDiff,quietOp,blindOp,Int.reduceEq,Int.reduceLT,Int.reduceLE,Nat.reduceLT,tiA, builtE, hcp.1.len, hn.len, e1]
    refine (hstep es y v H hS hall hb (by omega) hy hcp).fin ?_
    rintro H2 ⟨hS2, hn2, hr2⟩
    try simp (disch := first | omega | (simp only [L3] <;> omega)) only [Sall,evalOp,init,binA_s,binE,binI,unE,convE,okNil,builtE,gv,TD.isAgg,resV,↓reduceIte,Nat.reduceEqDiff,reduceCtorEq,Nat.reduceAdd,Nat.reduceMul,Nat.reduceLeDiff,quietOp,blindOp,Int.reduceEq,Int.reduceLT,Int.reduceLE,Nat.reduceLT,tiA, true_and]
    refine ⟨hn2, hr2, ?_⟩
    cases hc : cont y with
    | true => exact .inl ⟨rfl, fun z hz => by simp only [ordN, List.mem_singleton] at hz; rw [hz, hc], hS2⟩
    | false => exact .inr ⟨rfl, [], y, [], rfl, by simp, hc, by simpa using hS2⟩
  | succ f ih =>
    intro y es v H hlen hS hall hb hp hy
    refine ACalls.wf (by kernel_rfl) fun hs => acalls_of_awp [.tmp 6] Tryz.func190 (by kernel_rfl) rfl rfl (Nat.le_of_ble_eq_true rfl) (by kernel_rfl) ?_
    have hcp := hp H (fun i _ _ => rfl)
    have hn := hnv.same (hSr _ _ hS)
    have e1 : ((y.length : Int) == (nums.length : Int)) = false := by rw [beq_eq_false_iff_ne]; omega
    try simp (disch := first | omega | (simp only [L3] <;> omega)) only [Sall,evalOp,init,binA_s,binE,binI,unE,convE,okNil,builtE,gv,TD.isAgg,resV,↓reduceIte,Nat.reduceEqDiff,reduceCtorEq,Nat.reduceAdd,Nat.reduceMul,Nat.reduceLeDiff,quietOp,blindOp,Int.reduceEq,Int.reduceLT,Int.reduceLE,Nat.reduceLT,tiA, builtE, hcp.1.len, hn.len, e1]
    refine awp_loop (fun m t H' => ∃ c : Nat, m = nums.length - c ∧ c ≤ nums.length ∧ t 19 = .int .i64 c ∧ t 18 = .int .i64 nums.length ∧ t 17 = nv ∧ t 0 = v ∧ t 1 = nv ∧ t 2 = .func (.func g) #[] cap.toArray ∧ H.next ≤ H'.next ∧ (∀ i, b0 ≤ i → i < H.next → H'.row i = H.row i) ∧ (∀ z ∈ ordP nums f y c, cont z = true) ∧ S (es ++ ordP nums f y c) H') nums.length ?_ ?_
    · refine ⟨0, by omega, by omega, ?_⟩
      try simp (disch := first | omega | (simp only [L3] <;> omega)) only [Sall,evalOp,init,binA_s,binE,binI,unE,convE,okNil,builtE,gv,TD.isAgg,resV,↓reduceIte,Nat.reduceEqDiff,reduceCtorEq,Nat.reduceAdd,Nat.reduceMul,Nat.reduceLeDiff,quietOp,blindOp,Int.reduceEq,Int.reduceLT,Int.reduceLE,Nat.reduceLT,tiA, Int.natCast_zero, ordP_zero, List.append_nil]
      exact ⟨by simp, hS⟩
    · rintro m t H' ⟨c, hm, hcn, h19, h18, h17, h0, h1, h2, hnx, hrows, hpc, hS'⟩
      try simp (disch := first | omega | (simp only [L3] <;> omega)) only [Sall,evalOp,init,binA_s,binE,binI,unE,convE,okNil,builtE,gv,TD.isAgg,resV,↓reduceIte,Nat.reduceEqDiff,reduceCtorEq,Nat.reduceAdd,Nat.reduceMul,Nat.reduceLeDiff,quietOp,blindOp,Int.reduceEq,Int.reduceLT,Int.reduceLE,Nat.reduceLT,tiA, h19, h18]
      refine condC_dec (fun h => ?_) (fun h => ?_)
      · have hn' := hnv.same (hSr _ _ hS')
        have hcp' := hp H' hrows
        obtain ⟨i, o, u, cc, r, rfl, hr, hc', hg, _⟩ := hn'.get (by omega)
        have g1 := hg c (by omega)
        have hpre := ordP_pre nums f y c (by omega)
        have hsucc := ordP_succ nums f y c (by omega)
        have hxm : nums.getD c 0 ∈ nums := by rw [List.getD_eq_getElem?_getD, List.getElem?_eq_getElem (by omega)]; exact List.getElem_mem _
        revert g1 hsucc hxm
        generalize nums.getD c 0 = x
        intro g1 hsucc hxm
        try simp (disch := first | omega | (simp only [L3] <;> omega)) only [Sall,evalOp,init,binA_s,binE,binI,unE,convE,okNil,builtE,gv,TD.isAgg,resV,↓reduceIte,Nat.reduceEqDiff,reduceCtorEq,Nat.reduceAdd,Nat.reduceMul,Nat.reduceLeDiff,quietOp,blindOp,Int.reduceEq,Int.reduceLT,Int.reduceLE,Nat.reduceLT,tiA, h19, h17, h0, hr, g1]
        (repeat refine And.intro (by omega) ?_)
        refine (containsI_c v y x H' hcp'.1 (by omega)).to ?_
        cases hct : y.contains x with
        | true =>
          rw [hct, if_pos rfl, List.append_nil] at hsucc
          try simp (disch := first | omega | (simp only [L3] <;> omega)) only [Sall,evalOp,init,binA_s,binE,binI,unE,convE,okNil,builtE,gv,TD.isAgg,resV,↓reduceIte,Nat.reduceEqDiff,reduceCtorEq,Nat.reduceAdd,Nat.reduceMul,Nat.reduceLeDiff,quietOp,blindOp,Int.reduceEq,Int.reduceLT,Int.reduceLE,Nat.reduceLT,tiA, Bool.not_true, h19, h18, h17, h0, h1, h2, w64]
          refine ⟨nums.length - (c + 1), by omega, c + 1, rfl, by omega, rfl, hnx, hrows, ?_⟩
          rw [hsucc]; exact ⟨hpc, hS'⟩
        | false =>
          rw [hct, if_neg (by simp)] at hsucc
          have zz : zeros 1 [.int .i64 0] = [.int .i64 0] := rfl
          try simp (disch := first | omega | (simp only [L3] <;> omega)) only [Sall,evalOp,init,binA_s,binE,binI,unE,convE,okNil,builtE,gv,TD.isAgg,resV,↓reduceIte,Nat.reduceEqDiff,reduceCtorEq,Nat.reduceAdd,Nat.reduceMul,Nat.reduceLeDiff,quietOp,blindOp,Int.reduceEq,Int.reduceLT,Int.reduceLE,Nat.reduceLT,tiA, Bool.not_false, h19, h18, h17, h0, h1, h2]
          refine (cloneI_c v y H' hcp' (by omega)).mono ?_
          rintro w H2 ⟨up2, hf⟩
          have n2 := up2.next
          refine Holds.mp ?_
          try simp (disch := first | omega | (simp only [L3] <;> omega)) only [Sall,evalOp,init,binA_s,binE,binI,unE,convE,okNil,builtE,gv,TD.isAgg,resV,↓reduceIte,Nat.reduceEqDiff,reduceCtorEq,Nat.reduceAdd,Nat.reduceMul,Nat.reduceLeDiff,quietOp,blindOp,Int.reduceEq,Int.reduceLT,Int.reduceLE,Nat.reduceLT,tiA, h19, h18, h17, h0, h1, h2, zz, slCells]
          obtain ⟨H3, e3⟩ : ∃ H3, H3 = H2.push ⟨2, true, [.int .i64 x]⟩ := ⟨_, rfl⟩
          have n3 : H3.next = H2.next + 1 := by rw [e3]; rfl
          have s3 : ∀ i, i < H2.next → H3.row i = H2.row i := fun i hi => by rw [e3, AH.push_row, if_neg (by omega)]
          rw [← e3]
          clear e3
          refine appE_fr (k := 1) (lo := H'.next) (hi := H2.next) (l := y) (m := [x]) (hf.same fun i _ hi => s3 i (by omega)) rfl (by omega) rfl (by omega) (by decide) (by omega) (by omega) ?_
          intro v' H4 n4 s4 f4
          have old : ∀ i, i < H'.next → H4.row i = H'.row i := fun i hi => by rw [s4 i (by omega) (by omega), s3 i (by omega), up2.row i hi]
          have hl1 : (y ++ [x]).length = y.length + 1 := by simp
          rw [← hl1] at f4
          try simp (disch := first | omega | (simp only [L3] <;> omega)) only [Sall,evalOp,init,binA_s,binE,binI,unE,convE,okNil,builtE,gv,TD.isAgg,resV,↓reduceIte,Nat.reduceEqDiff,reduceCtorEq,Nat.reduceAdd,Nat.reduceMul,Nat.reduceLeDiff,quietOp,blindOp,Int.reduceEq,Int.reduceLT,Int.reduceLE,Nat.reduceLT,tiA, h19, h18, h17, h0, h1, h2]
          refine (ih (y ++ [x]) (es ++ ordP nums f y c) v' H4 (by omega) (hSt _ _ _ hS' (by omega) old) (fun z hz => (List.mem_append.1 hz).elim (hall z) (hpc z)) (by omega) (Per.fr f4 (by omega) (by omega)) (hok y x hy hxm hct)).mono ?_
          rintro rr H5 ⟨n5, r5, hcase⟩
          have rows5 : ∀ i, b0 ≤ i → i < H.next → H5.row i = H.row i := fun i hb1 hr1 => by rw [r5 i hb1 (by omega), old i (by omega), hrows i hb1 hr1]
          refine Holds.mp ?_
          rcases hcase with ⟨rfl, q1, q2⟩ | ⟨rfl, L1, z, L2, q1, q2, q3, q4⟩ <;> rw [holds_def]
          · try simp (disch := first | omega | (simp only [L3] <;> omega)) only [Sall,evalOp,init,binA_s,binE,binI,unE,convE,okNil,builtE,gv,TD.isAgg,resV,↓reduceIte,Nat.reduceEqDiff,reduceCtorEq,Nat.reduceAdd,Nat.reduceMul,Nat.reduceLeDiff,quietOp,blindOp,Int.reduceEq,Int.reduceLT,Int.reduceLE,Nat.reduceLT,tiA, Bool.not_true, h19, h18, h17, h0, h1, h2, w64]
            refine ⟨nums.length - (c + 1), by omega, c + 1, rfl, by omega, rfl, by omega, rows5, ?_⟩
            rw [hsucc]
            refine ⟨fun z hz => (List.mem_append.1 hz).elim (hpc z) (q1 z), ?_⟩
            rw [← List.append_assoc]; exact q2
          · try simp (disch := first | omega | (simp only [L3] <;> omega)) only [Sall,evalOp,init,binA_s,binE,binI,unE,convE,okNil,builtE,gv,TD.isAgg,resV,↓reduceIte,Nat.reduceEqDiff,reduceCtorEq,Nat.reduceAdd,Nat.reduceMul,Nat.reduceLeDiff,quietOp,blindOp,Int.reduceEq,Int.reduceLT,Int.reduceLE,Nat.reduceLT,tiA, Bool.not_false]
            refine ⟨by omega, rows5, .inr ⟨rfl, ordP nums f y c ++ L1, z, ?_⟩⟩
            obtain ⟨L3, hL3⟩ := hpre
            refine ⟨L2 ++ L3, ?_, fun w hw => (List.mem_append.1 hw).elim (hpc w) (q2 w), q3, ?_⟩
            · rw [hL3, hsucc, q1]; simp
            · rw [← List.append_assoc]; exact q4
      · have hc : c = nums.length := by omega
        subst hc
        rw [ordP_all] at hpc hS'
        try simp (disch := first | omega | (simp only [L3] <;> omega)) only [Sall,evalOp,init,binA_s,binE,binI,unE,convE,okNil,builtE,gv,TD.isAgg,resV,↓reduceIte,Nat.reduceEqDiff,reduceCtorEq,Nat.reduceAdd,Nat.reduceMul,Nat.reduceLeDiff,quietOp,blindOp,Int.reduceEq,Int.reduceLT,Int.reduceLE,Nat.reduceLT,tiA, true_and]
        exact ⟨hnx, hrows, .inl ⟨rfl, hpc, hS'⟩⟩
end Go.Proofs.YtpienljnoaendaaGreat.A
end

section
set_option maxRecDepth 100000
set_option maxHeartbeats 2000000
namespace Go.Proofs.YtpienljnoaendaaGreat.A
open Go Go.Abs Go.RowKit Go.Shelf Go.Sort
end Go.Proofs.YtpienljnoaendaaGreat.A
end

section
set_option maxRecDepth 100000
set_option maxHeartbeats 2000000
namespace Go.Proofs.YtpienljnoaendaaGreat.A
open Go Go.Abs Go.RowKit
end Go.Proofs.YtpienljnoaendaaGreat.A
end

section
namespace Go.Abs
end Go.Abs
end

section
set_option maxRecDepth 100000
set_option maxHeartbeats 2000000
namespace Go.Proofs.YtpienljnoaendaaGreat.A
open Go Go.Abs Go.RowKit
end Go.Proofs.YtpienljnoaendaaGreat.A
end

section
set_option maxRecDepth 100000
set_option maxHeartbeats 2000000
namespace Go.Proofs.YtpienljnoaendaaGreat.A
open Go Go.Abs Go.RowKit
end Go.Proofs.YtpienljnoaendaaGreat.A
end

section
namespace Go.Abs
open Go Go.RowKit
theorem Sc.drop {H : AH} (h : Sc H) (i : Nat) : Sc (H.drop i) := by
  intro j x hx
  rw [AH.drop_row] at hx
  rw [AH.drop_next]
  split at hx
  · cases hx
  · exact h j x hx
theorem appE_frS {P : Program} {E : TI} {k ty lo hi n c : Nat} {H : AH} {v : Value} {l m : List Int} {K : Value → AH → Prop} (h : Fr k ty lo hi H v n l) (hk : E.size = k) (hk0 : 0 < k) (hm : m.length = c * k) (hc : 0 < c) (hb : E.bytes ≤ 32768) (hn : n + c ≤ 4294967296) (hhi : hi ≤ H.next) (hS : Sc H)
    (hK : ∀ v' H', H'.next = H.next + 1 → (∀ i, ¬(lo ≤ i ∧ i < hi) → i < H.next → H'.row i = H.row i) → Sc H' → Fr k ty H.next (H.next + 1) H' v' (n + c) (l ++ m) → K v' H') :
    runOut P H (appE E ty v (ints m) c H) K := by
  subst hk
  have hl := h.1
  unfold appE
  rw [if_neg (by omega)]
  rcases h.2 with ⟨rfl, rfl⟩ | ⟨i, h1, h2, rfl, hr⟩
  · simp only [asSl_nil, runOut_need, runOut_val]
    have : l = [] := List.eq_nil_of_length_eq_zero (by omega)
    subst this
    refine ⟨⟨by omega, hb⟩, hK _ _ rfl (fun i _ hi => by rw [AH.push_row, if_neg (by omega)]) (hS.push _) ⟨by simp [hm], .inr ⟨H.next, by omega, by omega, by simp, by rw [AH.push_row, if_pos rfl]; rfl⟩⟩⟩
  · simp only [asSl_some, hr, bindO_some, runOut_need, Nat.zero_add, ints_length, hl]
    refine ⟨⟨by omega, hb, Nat.le_refl _, .inl rfl⟩, ?_⟩
    rw [if_neg (by rw [Nat.add_mul]; have := Nat.mul_pos hc hk0; omega)]
    simp only [runOut_need, runOut_val]
    refine ⟨⟨trivial, trivial, hk0, trivial, trivial⟩, hK _ _ rfl (fun j hj hj2 => ?_) ((hS.drop i).push _) ⟨by simp [hm, hl, Nat.add_mul], .inr ⟨H.next, by omega, by omega, rfl, ?_⟩⟩⟩
    · rw [AH.push_row, if_neg (by rw [AH.drop_next]; omega), AH.drop_row, if_neg (by omega)]
    · rw [AH.push_row, AH.drop_next, if_pos rfl, seg_all _ _ (by rw [ints_length, hl]), ints_append]
end Go.Abs
end

section
namespace Go.Abs
open Go Go.RowKit
def Sld (k : Nat) (v : Value) (n : Nat) : Prop := v = .slice none 0 0 ∨ (∃ i o c, v = .slice (some ⟨i, o, some k⟩) n c) ∨ ∃ i o c, v = .slice (some ⟨i, o, none⟩) n c ∧ n ≤ c
structure Rs (k : Nat) (H : AH) (v : Value) (n : Nat) (l : List Int) : Prop where
  rd : Rd k H v n l
  sl : Sld k v n
theorem Rs.same {k n : Nat} {H H' : AH} {v : Value} {l : List Int} (h : Rs k H v n l) (hs : ∀ i r, H.row i = some r → H'.row i = some r) : Rs k H' v n l := ⟨h.rd.same hs, h.sl⟩
theorem Fr.rs {k ty lo hi n : Nat} {H : AH} {v : Value} {l : List Int} (h : Fr k ty lo hi H v n l) : Rs k H v n l := by
  refine ⟨h.rd, ?_⟩
  rcases h.2 with ⟨_, h2⟩ | ⟨i, _, _, hv, _⟩
  · exact .inl h2
  · exact .inr (.inl ⟨i, 0, n, hv⟩)
theorem Rs.cut {k n a b : Nat} {H : AH} {v : Value} {l : List Int} (h : Rs k H v n l) {lo hi : Option Int} (ha : lo.getD 0 = (a : Int)) (hb : hi.getD (n : Int) = (b : Int)) (hab : a ≤ b) (hbn : b ≤ n) :
    ∃ w, (∀ (P : Program) (E : TI) (K : Value → AH → Prop) (H' : AH), E.size = k → K w H' → runOut P H' (sliceE E v lo hi none H') K) ∧ Rs k H w (b - a) ((l.drop (a * k)).take ((b - a) * k)) := by
  obtain ⟨hl, hr⟩ := h.rd
  have hlen : ((l.drop (a * k)).take ((b - a) * k)).length = (b - a) * k := by
    rw [List.length_take, List.length_drop, hl, ← Nat.sub_mul]
    exact Nat.min_eq_left (Nat.mul_le_mul_right k (by omega))
  have hmul : a * k + (b - a) * k ≤ n * k := by rw [← Nat.add_mul]; exact Nat.mul_le_mul_right k (by omega)
  have key : ∀ (i o : Nat) (u : Option Nat) (c o' c' : Nat) (r : Row), (b - a = 0 ∨ o' = o + a * k) → H.row i = some r → o + n * k ≤ r.cells.length → seg r.cells o (n * k) = ints l →
      Rd k H (.slice (some ⟨i, o', u⟩) (b - a) c') (b - a) ((l.drop (a * k)).take ((b - a) * k)) := by
    intro i o u c o' c' r ho hrow hle hseg
    refine ⟨hlen, ?_⟩
    rcases Nat.eq_zero_or_pos (b - a) with h0 | h0
    · refine .inl ⟨h0, _, _, by rw [h0], fun h => by cases h⟩
    · obtain rfl : o' = o + a * k := by rcases ho with ho | ho <;> omega
      refine .inr ⟨i, _, u, c', r, rfl, hrow, by omega, ?_⟩
      rw [← ints_seg, ← hseg]
      apply List.ext_getElem?
      intro x
      simp only [seg, List.getElem?_take, List.getElem?_drop]
      by_cases hx : x < (b - a) * k
      · rw [if_pos hx, if_pos hx, if_pos (by omega), Nat.add_assoc]
      · rw [if_neg hx, if_neg hx]
  rcases h.sl with rfl | ⟨i, o, c, rfl⟩ | ⟨i, o, c, rfl, hc⟩
  · have hn : n = 0 := by
      rcases hr with ⟨h0, _⟩ | ⟨_, _, _, _, _, hv, _⟩
      · exact h0
      · cases hv
    subst hn
    obtain rfl : b = 0 := by omega
    obtain rfl : a = 0 := by omega
    refine ⟨.slice none 0 0, fun P E K H' hE hK => ?_, ⟨⟨hlen, .inl ⟨rfl, none, 0, rfl, fun _ => rfl⟩⟩, .inl rfl⟩⟩
    unfold sliceE
    rw [if_neg (by simp)]
    simp only [asSl_nil, runOut_need, runOut_val]
    refine ⟨⟨ha, ?_, rfl⟩, hK⟩
    cases hi with
    | none => rfl
    | some x => simpa using hb
  · refine ⟨.slice (some ⟨i, o + a * k, some k⟩) (b - a) (b - a), fun P E K H' hE hK => ?_, ⟨?_, .inr (.inl ⟨i, _, _, rfl⟩)⟩⟩
    · unfold sliceE
      rw [if_neg (by simp)]
      simp only [asSl_some, runOut_need, runOut_val, ha, hb, Int.toNat_natCast, hE]
      exact ⟨⟨by omega, by omega, by omega, trivial⟩, hK⟩
    · rcases hr with ⟨h0, a', c', hv, _⟩ | ⟨i', o', u', c', r, hv, hrow, hle, hseg⟩
      · obtain rfl : b = 0 := by omega
        obtain rfl : a = 0 := by omega
        exact ⟨hlen, .inl ⟨rfl, _, _, rfl, fun h => by cases h⟩⟩
      · simp only [Value.slice.injEq, Option.some.injEq, Addr.mk.injEq] at hv
        obtain ⟨⟨rfl, rfl, rfl⟩, _, rfl⟩ := hv
        exact key i o (some k) c _ _ r (.inr rfl) hrow hle hseg
  · refine ⟨.slice (some ⟨i, if (c : Int) = (a : Int) then o else o + a * k, none⟩) (b - a) (c - a), fun P E K H' hE hK => ?_, ⟨?_, .inr (.inr ⟨i, _, _, rfl, by omega⟩)⟩⟩
    · unfold sliceE
      rw [if_neg (by simp)]
      have e0 : ((none : Option Int).getD (c : Int)) = (c : Int) := rfl
      simp only [asSl_some, runOut_need, runOut_val, ha, hb, e0, Int.toNat_natCast, hE]
      exact ⟨⟨by omega, by omega, by omega, Int.le_refl _⟩, hK⟩
    · rcases hr with ⟨h0, a', c', hv, _⟩ | ⟨i', o', u', c', r, hv, hrow, hle, hseg⟩
      · obtain rfl : b = 0 := by omega
        obtain rfl : a = 0 := by omega
        exact ⟨hlen, .inl ⟨rfl, _, _, rfl, fun h => by cases h⟩⟩
      · simp only [Value.slice.injEq, Option.some.injEq, Addr.mk.injEq] at hv
        obtain ⟨⟨rfl, rfl, rfl⟩, _, rfl⟩ := hv
        refine key i o none c _ _ r ?_ hrow hle hseg
        split
        · left; omega
        · right; rfl
end Go.Abs
end

section
namespace Go.Abs
open Go Go.RowKit
structure Th where
  p : AH → (Nat → Prop) → Prop
  loc : ∀ (H H' : AH) (S S' : Nat → Prop), (∀ i, S i → S' i) → (∀ i r, S i → H.row i = some r → H'.row i = some r) → p H S → p H' S'
def Th.sl (k : Nat) (ty : TypeId) (v : Value) (n : Nat) (vs : List Value) : Th where
  p := fun H S => vs.length = n * k ∧ ((n = 0 ∧ v = .slice none 0 0) ∨ ∃ i, S i ∧ v = .slice (some ⟨i, 0, some k⟩) n n ∧ H.row i = some ⟨ty, true, vs⟩)
  loc := fun H H' S S' hS hr h => ⟨h.1, h.2.imp id fun ⟨i, h1, h2, h3⟩ => ⟨i, hS i h1, h2, hr i _ h1 h3⟩⟩
def Th.row (i : Nat) (r : Row) : Th where
  p := fun H S => S i ∧ H.row i = some r
  loc := fun H H' S S' hS hr h => ⟨hS i h.1, hr i r h.1 h.2⟩
def Th.no : Th where
  p := fun _ _ => True
  loc := fun _ _ _ _ _ _ _ => trivial
def Th.sl2 {α : Type} (f : α → Value) (ty ty' : TypeId) (v : Value) (ll : List (List α)) : Th where
  p := fun H S => (ll = [] ∧ v = .slice none 0 0) ∨ ∃ (i : Nat) (vs : List Value) (o : Nat → Nat), S i ∧ o i = 0 ∧ v = .slice (some ⟨i, 0, some 1⟩) ll.length ll.length ∧ H.row i = some ⟨ty, true, vs⟩ ∧ vs.length = ll.length ∧
    ∀ j, j < ll.length → ∃ x, vs[j]? = some x ∧ (Th.sl 1 ty' x (ll.getD j []).length ((ll.getD j []).map f)).p H (fun z => S z ∧ o z = j + 1)
  loc := fun H H' S S' hS hr h => h.imp id fun ⟨i, vs, o, h1, h2, h3, h4, h5, h6⟩ => ⟨i, vs, o, hS i h1, h2, h3, hr i _ h1 h4, h5, fun j hj => by
    obtain ⟨x, hx, hp⟩ := h6 j hj
    exact ⟨x, hx, (Th.sl 1 ty' x _ _).loc H H' _ _ (fun z hz => ⟨hS z hz.1, hz.2⟩) (fun z r hz => hr z r hz.1) hp⟩⟩
structure Ow (B H : AH) (L : List Th) : Prop where
  sc : Sc H
  next : B.next ≤ H.next
  low : ∀ i, i < B.next → H.row i = B.row i
  own : ∃ o : Nat → Nat, ∀ (k : Nat) (p : Th), L[k]? = some p → p.p H (fun i => B.next ≤ i ∧ i < H.next ∧ o i = k)
theorem Ow.refl {H : AH} (h : Sc H) : Ow H H [] := ⟨h, Nat.le_refl _, fun _ _ => rfl, fun _ => 0, fun k p hk => by simp at hk⟩
theorem Ow.up {B H : AH} {L : List Th} (h : Ow B H L) : Up B.next B H := ⟨h.next, h.low⟩
theorem Ow.old {B H : AH} {L : List Th} (h : Ow B H L) (hs : ∀ i r, B.row i = some r → i < B.next) : ∀ i r, B.row i = some r → H.row i = some r := fun i r hr => by rw [h.low i (hs i r hr)]; exact hr
theorem set_get {L : List Th} {k j : Nat} {p p' q : Th} (hk : L[k]? = some p) (h : (L.set k p')[j]? = some q) : (j = k ∧ q = p') ∨ (j ≠ k ∧ L[j]? = some q) := by
  rw [List.getElem?_set] at h
  by_cases e : k = j
  · subst e
    rw [if_pos rfl, if_pos (List.getElem?_eq_some_iff.1 hk).1] at h
    exact .inl ⟨rfl, (Option.some.inj h).symm⟩
  · rw [if_neg e] at h
    exact .inr ⟨fun h => e h.symm, h⟩
def ownF (N : Nat) (a b : Nat → Nat) (i : Nat) : Nat := if N ≤ i then a i else b i
theorem ownF_ge {N i : Nat} (a b : Nat → Nat) (h : N ≤ i) : ownF N a b i = a i := by unfold ownF; rw [if_pos h]
theorem ownF_lt {N i : Nat} (a b : Nat → Nat) (h : i < N) : ownF N a b i = b i := by unfold ownF; rw [if_neg (by omega)]
theorem Ow.upd {B H H' : AH} {L : List Th} (h : Ow B H L) {k : Nat} {p p' : Th} (hk : L[k]? = some p) (hn : H.next ≤ H'.next) (hs : Sc H')
    (hp : ∀ S, (∀ i, S i → B.next ≤ i ∧ i < H.next) → p.p H S → (∀ i, i < H.next → ¬ S i → H'.row i = H.row i) ∧ ∀ S' : Nat → Prop, (∀ i, S i → S' i) → (∀ i, H.next ≤ i → i < H'.next → S' i) → p'.p H' S') :
    Ow B H' (L.set k p') := by
  obtain ⟨o, ho⟩ := h.own
  obtain ⟨h1, h2⟩ := hp _ (fun i hi => ⟨hi.1, hi.2.1⟩) (ho k p hk)
  have hb := h.next
  refine ⟨hs, Nat.le_trans hb hn, fun i hi => by rw [h1 i (by omega) (fun hh => by omega), h.low i hi], ownF H.next (fun _ => k) o, fun j q hj => ?_⟩
  rcases set_get hk hj with ⟨rfl, rfl⟩ | ⟨hne, hq⟩
  · refine h2 _ (fun i hi => ⟨hi.1, by omega, ?_⟩) fun i i1 i2 => ⟨by omega, i2, ?_⟩
    · rw [ownF_lt _ _ hi.2.1]; exact hi.2.2
    · rw [ownF_ge _ _ i1]
  · refine q.loc H H' _ _ (fun i hi => ⟨hi.1, by omega, ?_⟩) (fun i r hi hr => ?_) (ho j q hq)
    · rw [ownF_lt _ _ hi.2.1]; exact hi.2.2
    · rw [h1 i (by omega) (fun hh => hne (hi.2.2.symm.trans hh.2.2)), hr]
theorem Ow.add {B H H' : AH} {L : List Th} (h : Ow B H L) (p' : Th) (hn : H.next ≤ H'.next) (hs : Sc H') (hr : ∀ i, i < H.next → H'.row i = H.row i)
    (hp : ∀ S : Nat → Prop, (∀ i, H.next ≤ i → i < H'.next → S i) → p'.p H' S) : Ow B H' (L ++ [p']) := by
  obtain ⟨o, ho⟩ := h.own
  have hb := h.next
  refine ⟨hs, Nat.le_trans hb hn, fun i hi => by rw [hr i (by omega), h.low i hi], ownF H.next (fun _ => L.length) o, fun j q hj => ?_⟩
  by_cases hjl : j < L.length
  · rw [List.getElem?_append_left hjl] at hj
    refine q.loc H H' _ _ (fun i hi => ⟨hi.1, by omega, ?_⟩) (fun i r hi hrr => by rw [hr i hi.2.1, hrr]) (ho j q hj)
    rw [ownF_lt _ _ hi.2.1]; exact hi.2.2
  · rw [List.getElem?_append_right (by omega)] at hj
    have hj0 : j = L.length := by
      have := (List.getElem?_eq_some_iff.1 hj).1
      simp at this; omega
    subst hj0
    simp at hj
    subst hj
    refine hp _ fun i i1 i2 => ⟨by omega, i2, ?_⟩
    rw [ownF_ge _ _ i1]
theorem Ow.call {B H H' : AH} {L M : List Th} (h : Ow B H L) (k : Ow H H' M) : Ow B H' (L ++ M) := by
  obtain ⟨o, ho⟩ := h.own
  obtain ⟨u, hu⟩ := k.own
  have hb := h.next
  have hn := k.next
  refine ⟨k.sc, Nat.le_trans hb hn, fun i hi => by rw [k.low i (by omega), h.low i hi], ownF H.next (fun i => L.length + u i) o, fun j q hj => ?_⟩
  by_cases hjl : j < L.length
  · rw [List.getElem?_append_left hjl] at hj
    refine q.loc H H' _ _ (fun i hi => ⟨hi.1, by omega, ?_⟩) (fun i r hi hrr => by rw [k.low i hi.2.1, hrr]) (ho j q hj)
    rw [ownF_lt _ _ hi.2.1]; exact hi.2.2
  · rw [List.getElem?_append_right (by omega)] at hj
    refine q.loc H' H' _ _ (fun i hi => ⟨by omega, hi.2.1, ?_⟩) (fun i r _ hr => hr) (hu _ q hj)
    rw [ownF_ge _ _ hi.1, hi.2.2]; omega
theorem Ow.keep {B H H' : AH} {L : List Th} (h : Ow B H L) (hn : H.next ≤ H'.next) (hs : Sc H') (hr : ∀ i, i < H.next → H'.row i = H.row i) : Ow B H' L := by
  obtain ⟨o, ho⟩ := h.own
  have hb := h.next
  exact ⟨hs, Nat.le_trans hb hn, fun i hi => by rw [hr i (by omega), h.low i hi], o, fun j q hj => q.loc H H' _ _ (fun i hi => ⟨hi.1, by omega, hi.2.2⟩) (fun i r hi hrr => by rw [hr i hi.2.1, hrr]) (ho j q hj)⟩
theorem Ow.sub {B H : AH} {L M : List Th} (h : Ow B H L) (f : Nat → Nat) (hf : ∀ j, j < M.length → L[f j]? = M[j]?) (hi : ∀ i j, i < M.length → j < M.length → f i = f j → i = j) : Ow B H M := by
  obtain ⟨o, ho⟩ := h.own
  classical
  refine ⟨h.sc, h.next, h.low, fun i => if hh : ∃ j, j < M.length ∧ f j = o i then Classical.choose hh else M.length, fun j q hj => ?_⟩
  have hjl := (List.getElem?_eq_some_iff.1 hj).1
  refine q.loc H H _ _ (fun i hh => ⟨hh.1, hh.2.1, ?_⟩) (fun i r _ hr => hr) (ho (f j) q (by rw [hf j hjl]; exact hj))
  have hex : ∃ z, z < M.length ∧ f z = o i := ⟨j, hjl, hh.2.2.symm⟩
  show (if hh : ∃ j, j < M.length ∧ f j = o i then Classical.choose hh else M.length) = j
  rw [dif_pos hex]
  obtain ⟨c1, c2⟩ := Classical.choose_spec hex
  exact hi _ _ c1 hjl (by rw [c2, ← hh.2.2])
theorem Ow.left {B H : AH} {L M : List Th} (h : Ow B H (L ++ M)) : Ow B H L :=
  h.sub (fun j => j) (fun j hj => by rw [List.getElem?_append_left hj]) fun _ _ _ _ h => h
/-! ### Reading -/
theorem Ow.at {B H : AH} {L : List Th} (h : Ow B H L) {k : Nat} {p : Th} (hk : L[k]? = some p) : ∃ S, (∀ i, S i → B.next ≤ i ∧ i < H.next) ∧ p.p H S := by
  obtain ⟨o, ho⟩ := h.own
  exact ⟨_, fun i hi => ⟨hi.1, hi.2.1⟩, ho k p hk⟩
theorem Ow.ne {B H : AH} {L : List Th} (h : Ow B H L) {j k a b : Nat} {p q : Th} (hj : L[j]? = some p) (hk : L[k]? = some q) (hjk : j ≠ k) (ha : ∀ S, p.p H S → S a) (hb : ∀ S, q.p H S → S b) : a ≠ b := by
  obtain ⟨o, ho⟩ := h.own
  have h1 := (ha _ (ho j p hj)).2.2
  have h2 := (hb _ (ho k q hk)).2.2
  intro e
  subst e
  omega
theorem Ow.len {B H : AH} {L : List Th} (h : Ow B H L) (k : Nat) {z n : Nat} {ty : TypeId} {v : Value} {vs : List Value} (hk : L[k]? = some (.sl z ty v n vs)) : vs.length = n * z := by
  obtain ⟨S, _, hp⟩ := h.at hk
  exact hp.1
theorem Ow.get {B H : AH} {L : List Th} (h : Ow B H L) (k : Nat) {z n : Nat} {ty : TypeId} {v : Value} {vs : List Value} (hk : L[k]? = some (.sl z ty v n vs)) (hn : 0 < n) :
    ∃ i, B.next ≤ i ∧ i < H.next ∧ v = .slice (some ⟨i, 0, some z⟩) n n ∧ H.row i = some ⟨ty, true, vs⟩ := by
  obtain ⟨S, hS, hp⟩ := h.at hk
  rcases hp.2 with ⟨h0, _⟩ | ⟨i, h1, h2, h3⟩
  · omega
  · exact ⟨i, (hS i h1).1, (hS i h1).2, h2, h3⟩
theorem Ow.getV {B H : AH} {L : List Th} (h : Ow B H L) (k : Nat) {z n i m c o : Nat} {u : Option Nat} {ty : TypeId} {vs : List Value} (hk : L[k]? = some (.sl z ty (.slice (some ⟨i, o, u⟩) m c) n vs)) :
    B.next ≤ i ∧ i < H.next ∧ H.row i = some ⟨ty, true, vs⟩ := by
  obtain ⟨S, hS, hp⟩ := h.at hk
  rcases hp.2 with ⟨h0, h1⟩ | ⟨i', h1, h2, h3⟩
  · cases h1
  · cases h2
    exact ⟨(hS i h1).1, (hS i h1).2, h3⟩
theorem Ow.rowAt {B H : AH} {L : List Th} (h : Ow B H L) (k : Nat) {i : Nat} {r : Row} (hk : L[k]? = some (.row i r)) : H.row i = some r ∧ B.next ≤ i ∧ i < H.next := by
  obtain ⟨S, hS, hp⟩ := h.at hk
  exact ⟨hp.2, hS i hp.1⟩
theorem Ow.one {B H : AH} {L : List Th} (h : Ow B H L) (k : Nat) {z n : Nat} {ty : TypeId} {v : Value} {vs : List Value} (hk : L[k]? = some (.sl z ty v n vs)) : v.oneCell' = true := by
  obtain ⟨S, _, hp⟩ := h.at hk
  rcases hp.2 with ⟨_, rfl⟩ | ⟨i, _, rfl, _⟩ <;> rfl
theorem Ow.fr {B H : AH} {L : List Th} (h : Ow B H L) (k : Nat) {z n : Nat} {ty : TypeId} {v : Value} {l : List Int} (hk : L[k]? = some (.sl z ty v n (ints l))) : Fr z ty B.next H.next H v n l := by
  obtain ⟨S, hS, hp⟩ := h.at hk
  refine ⟨by have := hp.1; rwa [ints_length] at this, hp.2.imp id fun ⟨i, h1, h2, h3⟩ => ⟨i, (hS i h1).1, (hS i h1).2, h2, h3⟩⟩
theorem Ow.rd {B H : AH} {L : List Th} (h : Ow B H L) (k : Nat) {z n : Nat} {ty : TypeId} {v : Value} {l : List Int} (hk : L[k]? = some (.sl z ty v n (ints l))) : Rd z H v n l := (h.fr k hk).rd
theorem sl_mem {z n i m c o : Nat} {u : Option Nat} {ty : TypeId} {vs : List Value} {H : AH} (S : Nat → Prop) (h : (Th.sl z ty (.slice (some ⟨i, o, u⟩) m c) n vs).p H S) : S i := by
  rcases h.2 with ⟨h0, h1⟩ | ⟨i', h1, h2, h3⟩
  · cases h1
  · cases h2; exact h1
/-! ### New things, writing -/
theorem Ow.push {B H : AH} {L : List Th} (h : Ow B H L) (r : Row) : Ow B (H.push r) (L ++ [.row H.next r]) :=
  h.add _ (Nat.le_succ _) (h.sc.push r) (fun i hi => by rw [AH.push_row, if_neg (by omega)]) fun S hS => ⟨hS _ (Nat.le_refl _) (Nat.lt_succ_self _), by rw [AH.push_row, if_pos rfl]⟩
theorem Ow.tmp {B H : AH} {L : List Th} (h : Ow B H L) (r : Row) : Ow B (H.push r) L :=
  h.keep (Nat.le_succ _) (h.sc.push r) fun i hi => by rw [AH.push_row, if_neg (by omega)]
theorem Ow.pushSl {B H : AH} {L : List Th} (h : Ow B H L) {k n : Nat} {ty : TypeId} {vs : List Value} (hl : vs.length = n * k) : Ow B (H.push ⟨ty, true, vs⟩) (L ++ [.sl k ty (.slice (some ⟨H.next, 0, some k⟩) n n) n vs]) :=
  h.add _ (Nat.le_succ _) (h.sc.push _) (fun i hi => by rw [AH.push_row, if_neg (by omega)]) fun S hS => ⟨hl, .inr ⟨H.next, hS _ (Nat.le_refl _) (Nat.lt_succ_self _), rfl, by rw [AH.push_row, if_pos rfl]⟩⟩
theorem Ow.addNil {B H : AH} {L : List Th} (h : Ow B H L) (k : Nat) (ty : TypeId) : Ow B H (L ++ [.sl k ty (.slice none 0 0) 0 []]) :=
  h.add _ (Nat.le_refl _) h.sc (fun _ _ => rfl) fun S hS => ⟨by simp, .inl ⟨rfl, rfl⟩⟩
theorem Ow.put {B H : AH} {L : List Th} (h : Ow B H L) (k : Nat) {z n i m c o : Nat} {u : Option Nat} {ty : TypeId} {vs vs' : List Value} (hk : L[k]? = some (.sl z ty (.slice (some ⟨i, o, u⟩) m c) n vs)) (hl : vs'.length = vs.length) :
    Ow B (H.setCells i vs') (L.set k (.sl z ty (.slice (some ⟨i, o, u⟩) m c) n vs')) := by
  refine h.upd hk (Nat.le_refl _) (h.sc.set _ _) fun S hS hp => ?_
  have hi := sl_mem S hp
  refine ⟨fun j hj hjS => by rw [AH.setCells_row, if_neg (fun e => hjS (by rw [e]; exact hi))], fun S' hS' _ => ?_⟩
  rcases hp.2 with ⟨_, h1⟩ | ⟨i', h1, h2, h3⟩
  · cases h1
  · cases h2
    exact ⟨by rw [hl]; exact hp.1, .inr ⟨i, hS' i h1, rfl, by rw [AH.setCells_row, if_pos rfl, h3]; rfl⟩⟩
theorem Ow.putRow {B H : AH} {L : List Th} (h : Ow B H L) (k : Nat) {i : Nat} {ty : TypeId} {b : Bool} {cs cs' : List Value} (hk : L[k]? = some (.row i ⟨ty, b, cs⟩)) :
    Ow B (H.setCells i cs') (L.set k (.row i ⟨ty, b, cs'⟩)) := by
  refine h.upd hk (Nat.le_refl _) (h.sc.set _ _) fun S hS hp => ?_
  exact ⟨fun j hj hjS => by rw [AH.setCells_row, if_neg (fun e => hjS (by rw [e]; exact hp.1))], fun S' hS' _ => ⟨hS' i hp.1, by rw [AH.setCells_row, if_pos rfl, hp.2]; rfl⟩⟩
theorem Ow.app {P : Program} {E : TI} {z n c : Nat} {ty : TypeId} {B H : AH} {L : List Th} {v : Value} {vs ms : List Value} {K : Value → AH → Prop} (h : Ow B H L) (k : Nat) (hk : L[k]? = some (.sl z ty v n vs)) (hz : E.size = z) (hz0 : 0 < z) (hm : ms.length = c * z) (hc : 0 < c) (hb : E.bytes ≤ 32768) (hn : n + c ≤ 4294967296)
    (hK : ∀ v' H', H'.next = H.next + 1 → Ow B H' (L.set k (.sl z ty v' (n + c) (vs ++ ms))) → K v' H') : runOut P H (appE E ty v ms c H) K := by
  subst hz
  obtain ⟨S, hS, hp⟩ := h.at hk
  have hl := hp.1
  unfold appE
  rw [if_neg (by omega)]
  rcases hp.2 with ⟨rfl, rfl⟩ | ⟨i, h1, rfl, hr⟩
  · simp only [asSl_nil, runOut_need, runOut_val]
    have hv0 : vs = [] := List.eq_nil_of_length_eq_zero (by omega)
    subst hv0
    refine ⟨⟨by omega, hb⟩, hK _ _ rfl (h.upd hk (Nat.le_succ _) (h.sc.push _) fun S hS hp => ⟨fun j hj _ => by rw [AH.push_row, if_neg (by omega)], fun S' _ hN => ⟨by simp [hm], .inr ⟨H.next, hN _ (Nat.le_refl _) (Nat.lt_succ_self _), by simp, by rw [AH.push_row, if_pos rfl]; rfl⟩⟩⟩)⟩
  · simp only [asSl_some, hr, bindO_some, runOut_need, Nat.zero_add, hl]
    refine ⟨⟨by omega, hb, Nat.le_refl _, .inl rfl⟩, ?_⟩
    rw [if_neg (by rw [Nat.add_mul]; have := Nat.mul_pos hc hz0; omega)]
    simp only [runOut_need, runOut_val]
    refine ⟨⟨trivial, trivial, hz0, trivial, trivial⟩, hK _ _ rfl (h.upd hk (Nat.le_succ _) ((h.sc.drop i).push _) fun S hS hp => ?_)⟩
    have hi := sl_mem S hp
    refine ⟨fun j hj hjS => ?_, fun S' _ hN => ⟨by simp [hm, hl, Nat.add_mul], .inr ⟨H.next, hN _ (Nat.le_refl _) (Nat.lt_succ_self _), rfl, ?_⟩⟩⟩
    · rw [AH.push_row, if_neg (by rw [AH.drop_next]; omega), AH.drop_row, if_neg (fun e => hjS (by rw [e]; exact hi))]
    · rw [AH.push_row, AH.drop_next, if_pos rfl, seg_all _ _ hl.symm]
/-! ### From and to contracts with bounds -/
theorem Ow.of_fr {z n : Nat} {ty : TypeId} {H H' : AH} {v : Value} {l : List Int} (up : Up H.next H H') (sc : Sc H') (h : Fr z ty H.next H'.next H' v n l) : Ow H H' [.sl z ty v n (ints l)] := by
  refine ⟨sc, up.next, up.row, fun _ => 0, fun k p hk => ?_⟩
  have hk0 : k = 0 := by
    have := (List.getElem?_eq_some_iff.1 hk).1
    simp at this; omega
  subst hk0
  simp at hk
  subst hk
  exact ⟨by rw [ints_length]; exact h.1, h.2.imp id fun ⟨i, h1, h2, h3, h4⟩ => ⟨i, ⟨h1, h2, rfl⟩, h3, h4⟩⟩
theorem Ow.of_up {H H' : AH} (up : Up H.next H H') (sc : Sc H') : Ow H H' [] := ⟨sc, up.next, up.row, fun _ => 0, fun k p hk => by simp at hk⟩
end Go.Abs
end

section
namespace Go.Abs
open Go Go.RowKit
theorem sl_at {z n : Nat} {ty : TypeId} {v : Value} {vs : List Value} {H H' : AH} {S S' : Nat → Prop} (h : (Th.sl z ty v n vs).p H S) (hS : ∀ i, S i → S' i) (hr : ∀ i r, S i → H.row i = some r → H'.row i = some r) : (Th.sl z ty v n vs).p H' S' :=
  (Th.sl z ty v n vs).loc H H' S S' hS hr h
def Th.both (p q : Th) : Th where
  p := fun H S => ∃ o : Nat → Bool, p.p H (fun i => S i ∧ o i = true) ∧ q.p H (fun i => S i ∧ o i = false)
  loc := fun H H' S S' hS hr ⟨o, h1, h2⟩ => ⟨o, p.loc H H' _ _ (fun i hi => ⟨hS i hi.1, hi.2⟩) (fun i r hi => hr i r hi.1) h1, q.loc H H' _ _ (fun i hi => ⟨hS i hi.1, hi.2⟩) (fun i r hi => hr i r hi.1) h2⟩
theorem Ow.merge {B H : AH} {L : List Th} (h : Ow B H L) (k m : Nat) {p q : Th} (hk : L[k]? = some p) (hm : L[m]? = some q) (hkm : k ≠ m) : Ow B H ((L.set k (p.both q)).set m .no) := by
  obtain ⟨o, ho⟩ := h.own
  refine ⟨h.sc, h.next, h.low, fun i => if o i = m then k else o i, fun j r hj => ?_⟩
  have hm' : (L.set k (p.both q))[m]? = some q := by rw [List.getElem?_set, if_neg hkm]; exact hm
  rcases set_get hm' hj with ⟨rfl, rfl⟩ | ⟨hjm, hj⟩
  · trivial
  · rcases set_get hk hj with ⟨rfl, rfl⟩ | ⟨hjk, hj⟩
    · refine ⟨fun i => decide (o i = j), p.loc H H _ _ (fun i hi => ⟨⟨hi.1, hi.2.1, ?_⟩, decide_eq_true hi.2.2⟩) (fun i r _ hr => hr) (ho j p hk), q.loc H H _ _ (fun i hi => ⟨⟨hi.1, hi.2.1, ?_⟩, decide_eq_false fun e => hjm (e.symm.trans hi.2.2)⟩) (fun i r _ hr => hr) (ho m q hm)⟩
      · show (if o i = m then j else o i) = j
        split
        · rfl
        · exact hi.2.2
      · show (if o i = m then j else o i) = j
        rw [if_pos hi.2.2]
    · refine r.loc H H _ _ (fun i hi => ⟨hi.1, hi.2.1, ?_⟩) (fun i r _ hr => hr) (ho j r hj)
      show (if o i = m then k else o i) = j
      rw [if_neg (fun e => hjm (hi.2.2.symm.trans e))]
      exact hi.2.2
theorem Ow.app2 {α : Type} {f : α → Value} {P : Program} {E : TI} {n : Nat} {ty ty' : TypeId} {B H : AH} {L : List Th} {v x : Value} {ll : List (List α)} {l : List α} {K : Value → AH → Prop} (h : Ow B H L) (k m : Nat) (hk : L[k]? = some (.sl2 f ty ty' v ll)) (hm : L[m]? = some (.sl 1 ty' x n (l.map f))) (hkm : k ≠ m) (hz : E.size = 1) (hb : E.bytes ≤ 32768) (hn : ll.length + 1 ≤ 4294967296)
    (hK : ∀ v' H', H'.next = H.next + 1 → Ow B H' ((L.set k (.sl2 f ty ty' v' (ll ++ [l]))).set m .no) → K v' H') : runOut P H (appE E ty v [x] 1 H) K := by
  have hln : n = l.length := by have := h.len m hm; simp at this; omega
  subst hln
  have hM := h.merge k m hk hm hkm
  have hkl := (List.getElem?_eq_some_iff.1 hk).1
  have hk' : ((L.set k ((Th.sl2 f ty ty' v ll).both (.sl 1 ty' x l.length (l.map f)))).set m .no)[k]? = some ((Th.sl2 f ty ty' v ll).both (.sl 1 ty' x l.length (l.map f))) := by
    rw [List.getElem?_set, if_neg (Ne.symm hkm), List.getElem?_set, if_pos rfl, if_pos hkl]
  have eL : ∀ v', ((L.set k ((Th.sl2 f ty ty' v ll).both (.sl 1 ty' x l.length (l.map f)))).set m .no).set k (.sl2 f ty ty' v' (ll ++ [l])) = (L.set k (.sl2 f ty ty' v' (ll ++ [l]))).set m .no := fun v' => by
    rw [List.set_comm _ _ (Ne.symm hkm), List.set_set]
  obtain ⟨S, hS, hp⟩ := h.at hk
  have lst : (ll ++ [l]).getD ll.length [] = l := by simp [List.getD_eq_getElem?_getD]
  have lld : ∀ j, j < ll.length → (ll ++ [l]).getD j [] = ll.getD j [] := fun j hj => by simp [List.getD_eq_getElem?_getD, List.getElem?_append_left hj]
  unfold appE
  rw [if_neg (by omega)]
  rcases hp with ⟨hll, rfl⟩ | ⟨i, vs, o, h1, h2, rfl, hr, h5, h6⟩
  · simp only [asSl_nil, runOut_need, runOut_val, hz]
    refine ⟨⟨by omega, hb⟩, hK _ _ rfl ?_⟩
    rw [← eL]
    refine hM.upd hk' (Nat.le_succ _) (h.sc.push _) fun S hS hp => ⟨fun j hj _ => by rw [AH.push_row, if_neg (by omega)], fun S' hS' hN => ?_⟩
    obtain ⟨b, _, hq⟩ := hp
    subst hll
    refine .inr ⟨H.next, [x], fun z => if z = H.next then 0 else 1, hN _ (Nat.le_refl _) (Nat.lt_succ_self _), if_pos rfl, rfl, by rw [AH.push_row, if_pos rfl], rfl, fun j hj => ?_⟩
    have hj0 : j = 0 := by simp at hj; omega
    subst hj0
    refine ⟨x, rfl, sl_at hq (fun w hw => ⟨hS' w hw.1, ?_⟩) fun w r hw hwr => by rw [AH.push_row, if_neg (by have := (hS w hw.1).2; omega)]; exact hwr⟩
    show (if w = H.next then 0 else 1) = 1
    rw [if_neg (by have := (hS w hw.1).2; omega)]
  · simp only [asSl_some, hr, bindO_some, runOut_need, Nat.zero_add, hz, Nat.mul_one]
    refine ⟨⟨hn, hb, by omega, .inl rfl⟩, ?_⟩
    rw [if_neg (by omega)]
    simp only [runOut_need, runOut_val]
    refine ⟨by simp, hK _ _ rfl ?_⟩
    rw [← eL]
    refine hM.upd hk' (Nat.le_succ _) ((h.sc.drop i).push _) fun T hT hp => ?_
    obtain ⟨b, hp1, hq⟩ := hp
    rcases hp1 with ⟨_, h7⟩ | ⟨i', vs', u, g1, g2, g3, g4, g5, g6⟩
    · cases h7
    simp only [Value.slice.injEq, Option.some.injEq, Addr.mk.injEq] at g3
    obtain ⟨⟨rfl, _⟩, _⟩ := g3
    rw [hr] at g4
    simp only [Option.some.injEq, Row.mk.injEq, true_and] at g4
    subst g4
    have old : ∀ z, z < H.next → z ≠ i → ((H.drop i).push ⟨ty, true, seg vs 0 ll.length ++ [x]⟩).row z = H.row z := fun z z2 z3 => by
      rw [AH.push_row, if_neg (by rw [AH.drop_next]; omega), AH.drop_row, if_neg z3]
    refine ⟨fun j hj hjT => old j hj (fun e => hjT (by rw [e]; exact g1.1)), fun S' hS' hN => .inr ⟨H.next, vs ++ [x], fun z => if z = H.next then 0 else if b z = false then ll.length + 1 else u z, hN _ (Nat.le_refl _) (Nat.lt_succ_self _), if_pos rfl, by rw [List.length_append]; rfl, ?_, by rw [List.length_append, List.length_append, h5]; rfl, fun j hj => ?_⟩⟩
    · rw [AH.push_row, AH.drop_next, if_pos rfl, seg_all _ _ h5.symm]
    · rw [List.length_append, List.length_singleton] at hj
      by_cases c : j < ll.length
      · obtain ⟨y, hy, hz2⟩ := g6 j c
        rw [lld j c]
        refine ⟨y, by rw [List.getElem?_append_left (by omega)]; exact hy, sl_at hz2 (fun w hw => ⟨hS' w hw.1.1, ?_⟩) fun w r hw hwr => ?_⟩
        · show (if w = H.next then 0 else if b w = false then ll.length + 1 else u w) = j + 1
          have := (hT w hw.1.1).2
          rw [if_neg (by omega), if_neg (by rw [hw.1.2]; simp)]; exact hw.2
        · have := (hT w hw.1.1).2
          rw [old w this (fun e => by rw [e] at hw; omega)]; exact hwr
      · have c4 : j = ll.length := by omega
        subst c4
        rw [lst]
        refine ⟨x, by rw [← h5, List.getElem?_append_right (Nat.le_refl _)]; simp, sl_at hq (fun w hw => ⟨hS' w hw.1, ?_⟩) fun w r hw hwr => ?_⟩
        · show (if w = H.next then 0 else if b w = false then ll.length + 1 else u w) = ll.length + 1
          have := (hT w hw.1).2
          rw [if_neg (by omega), if_pos hw.2]
        · have := (hT w hw.1).2
          rw [old w this (fun e => by rw [e] at hw; rw [g1.2] at hw; cases hw.2)]; exact hwr
theorem Ow.pushSl2 {α : Type} (f : α → Value) {B H : AH} {L : List Th} (h : Ow B H L) (ty ty' : TypeId) : Ow B (H.push ⟨ty, true, []⟩) (L ++ [.sl2 f ty ty' (.slice (some ⟨H.next, 0, some 1⟩) 0 0) ([] : List (List α))]) :=
  h.add _ (Nat.le_succ _) (h.sc.push _) (fun i hi => by rw [AH.push_row, if_neg (by omega)]) fun S hS => .inr ⟨H.next, [], fun _ => 0, hS _ (Nat.le_refl _) (Nat.lt_succ_self _), rfl, rfl, by rw [AH.push_row, if_pos rfl], rfl, fun j hj => by simp at hj⟩
theorem Ow.rd2 {B H : AH} {L : List Th} (h : Ow B H L) (k : Nat) {ty ty' : TypeId} {v : Value} {ll : List (List Int)} (hk : L[k]? = some (.sl2 (Value.int .i64) ty ty' v ll)) : Rd2 1 H v ll := by
  obtain ⟨S, hS, hp⟩ := h.at hk
  rcases hp with ⟨h1, h2⟩ | ⟨i, vs, o, h1, h2, rfl, h4, h5, h6⟩
  · exact .inl ⟨h1, none, 0, h2, fun _ => rfl⟩
  · refine .inr ⟨i, 0, some 1, _, _, rfl, h4, fun j hj => ?_⟩
    obtain ⟨x, hx, hq⟩ := h6 j hj
    refine ⟨x, _, by rw [Nat.zero_add]; exact hx, (Fr.rd (ty := ty') (lo := 0) (hi := H.next) ⟨by simp, ?_⟩ : Rd 1 H x (ll.getD j []).length (ll.getD j []))⟩
    rcases hq.2 with h7 | ⟨q, q1, q2, q3⟩
    · exact .inl h7
    · exact .inr ⟨q, Nat.zero_le _, (hS q q1.1).2, q2, q3⟩
theorem Ow.of_fr2 {ty ty' : TypeId} {H H' : AH} {v : Value} {ll : List (List Int)} (up : Up H.next H H') (sc : Sc H') (h : Fr2 1 ty ty' H.next H'.next H' v ll) : Ow H H' [.sl2 (Value.int .i64) ty ty' v ll] := by
  refine ⟨sc, up.next, up.row, fun _ => 0, fun k p hk => ?_⟩
  have hk0 : k = 0 := by
    have := (List.getElem?_eq_some_iff.1 hk).1
    simp at this; omega
  subst hk0
  simp at hk
  subst hk
  rcases h with h | ⟨i, vs, b, h1, h2, rfl, hr, hl, g0, gn, gi, gm, hh⟩
  · exact .inl h
  · classical
    refine .inr ⟨i, vs, fun z => if z = i then 0 else if hz : ∃ j, j < ll.length ∧ b j ≤ z ∧ z < b (j + 1) then Classical.choose hz + 1 else 0, ⟨h1, h2, rfl⟩, if_pos rfl, rfl, hr, hl, fun j hj => ?_⟩
    obtain ⟨x, m, hx, hf⟩ := hh j hj
    have m1 := mono_of_step gm (Nat.zero_le j)
    have m2 := mono_of_step gm (show j + 1 ≤ ll.length from hj)
    have hm := hf.lenK1
    refine ⟨x, hx, ⟨by simp, ?_⟩⟩
    rcases hf.2 with ⟨h3, h4⟩ | ⟨q, q1, q2, q3, q4⟩
    · exact .inl ⟨by omega, h4⟩
    · refine .inr ⟨q, ⟨⟨by omega, by omega, rfl⟩, ?_⟩, by rw [← hm]; exact q3, q4⟩
      show (if q = i then 0 else if hz : ∃ j, j < ll.length ∧ b j ≤ q ∧ q < b (j + 1) then Classical.choose hz + 1 else 0) = j + 1
      have hex : ∃ j, j < ll.length ∧ b j ≤ q ∧ q < b (j + 1) := ⟨j, hj, q1, q2⟩
      rw [if_neg (by rcases gi with g | g <;> omega), dif_pos hex]
      obtain ⟨c1, c2, c3⟩ := Classical.choose_spec hex
      have : Classical.choose hex = j := by
        apply Classical.byContradiction
        intro hne
        rcases Nat.lt_or_gt_of_ne hne with hl | hl
        · have := mono_of_step gm (show Classical.choose hex + 1 ≤ j from hl); omega
        · have := mono_of_step gm (show j + 1 ≤ Classical.choose hex from hl); omega
      rw [this]
end Go.Abs
end

section
namespace Go.Abs
open Go Go.RowKit
def Th.cap (k : Nat) (ty : TypeId) (v : Value) (n : Nat) (vs : List Value) : Th where
  p := fun H S => vs.length = n * k ∧ ((n = 0 ∧ v = .slice none 0 0) ∨ ∃ i rest, S i ∧ v = .slice (some ⟨i, 0, some k⟩) n n ∧ H.row i = some ⟨ty, true, vs ++ rest⟩)
  loc := fun H H' S S' hS hr h => ⟨h.1, h.2.imp id fun ⟨i, z, h1, h2, h3⟩ => ⟨i, z, hS i h1, h2, hr i _ h1 h3⟩⟩
theorem cap_of_sl {k n : Nat} {ty : TypeId} {v : Value} {vs : List Value} {H : AH} {S : Nat → Prop} (h : (Th.sl k ty v n vs).p H S) : (Th.cap k ty v n vs).p H S :=
  ⟨h.1, h.2.imp id fun ⟨i, h1, h2, h3⟩ => ⟨i, [], h1, h2, by rw [List.append_nil]; exact h3⟩⟩
theorem Ow.tell {B H : AH} {L : List Th} (h : Ow B H L) (k : Nat) {p p' : Th} (hk : L[k]? = some p) (hp : ∀ S, p.p H S → p'.p H S) : Ow B H (L.set k p') :=
  h.upd hk (Nat.le_refl _) h.sc fun S hS q => ⟨fun _ _ _ => rfl, fun S' hS' _ => p'.loc H H _ _ hS' (fun i r _ hr => hr) (hp S q)⟩
theorem Ow.toCap {B H : AH} {L : List Th} (h : Ow B H L) (k : Nat) {z n : Nat} {ty : TypeId} {v : Value} {vs : List Value} (hk : L[k]? = some (.sl z ty v n vs)) : Ow B H (L.set k (.cap z ty v n vs)) :=
  h.tell k hk fun S q => cap_of_sl q
theorem Ow.capLen {B H : AH} {L : List Th} (h : Ow B H L) (k : Nat) {z n : Nat} {ty : TypeId} {v : Value} {vs : List Value} (hk : L[k]? = some (.cap z ty v n vs)) : vs.length = n * z := by
  obtain ⟨S, _, hp⟩ := h.at hk
  exact hp.1
theorem Ow.capOne {B H : AH} {L : List Th} (h : Ow B H L) (k : Nat) {z n : Nat} {ty : TypeId} {v : Value} {vs : List Value} (hk : L[k]? = some (.cap z ty v n vs)) : v.oneCell' = true := by
  obtain ⟨S, _, hp⟩ := h.at hk
  rcases hp.2 with ⟨_, rfl⟩ | ⟨i, _, _, rfl, _⟩ <;> rfl
theorem Ow.capGet {B H : AH} {L : List Th} (h : Ow B H L) (k : Nat) {z n : Nat} {ty : TypeId} {v : Value} {vs : List Value} (hk : L[k]? = some (.cap z ty v n vs)) (hn : 0 < n) :
    ∃ i rest, B.next ≤ i ∧ i < H.next ∧ v = .slice (some ⟨i, 0, some z⟩) n n ∧ H.row i = some ⟨ty, true, vs ++ rest⟩ := by
  obtain ⟨S, hS, hp⟩ := h.at hk
  rcases hp.2 with ⟨h0, _⟩ | ⟨i, rest, h1, h2, h3⟩
  · omega
  · exact ⟨i, rest, (hS i h1).1, (hS i h1).2, h2, h3⟩
theorem cap_rs {z n : Nat} {ty : TypeId} {v : Value} {l : List Int} {H : AH} {S : Nat → Prop} (hp : (Th.cap z ty v n (ints l)).p H S) : Rs z H v n l := by
  have hl := hp.1
  rw [ints_length] at hl
  rcases hp.2 with ⟨rfl, rfl⟩ | ⟨i, rest, h1, rfl, h3⟩
  · exact ⟨⟨hl, .inl ⟨rfl, none, 0, rfl, fun _ => rfl⟩⟩, .inl rfl⟩
  · refine ⟨⟨hl, .inr ⟨i, 0, some z, n, _, rfl, h3, ?_, ?_⟩⟩, .inr (.inl ⟨i, 0, n, rfl⟩)⟩
    · simp [ints_length, hl]
    · simp only [seg, List.drop_zero]
      rw [← hl, ← ints_length l, List.take_left' rfl]
theorem Ow.capRs {B H : AH} {L : List Th} (h : Ow B H L) (k : Nat) {z n : Nat} {ty : TypeId} {v : Value} {l : List Int} (hk : L[k]? = some (.cap z ty v n (ints l))) : Rs z H v n l := by
  obtain ⟨S, hS, hp⟩ := h.at hk
  exact cap_rs hp
theorem Ow.cut {B H : AH} {L : List Th} (h : Ow B H L) (k : Nat) {z n : Nat} {ty : TypeId} {v : Value} {l : List Int} (hk : L[k]? = some (.cap z ty v n (ints l))) {hi : Option Int} {b : Nat} (hb : hi.getD (n : Int) = (b : Int)) (hbn : b ≤ n) :
    ∃ w, (∀ (P : Program) (E : TI) (K : Value → AH → Prop) (H' : AH), E.size = z → K w H' → runOut P H' (sliceE E v none hi none H') K) ∧ Ow B H (L.set k (.cap z ty w b (ints (l.take (b * z))))) := by
  have hl := h.capLen k hk
  rw [ints_length] at hl
  have hlb : (l.take (b * z)).length = b * z := by
    rw [List.length_take]
    exact Nat.min_eq_left (by rw [hl]; exact Nat.mul_le_mul_right z hbn)
  obtain ⟨S0, hS0, hp0⟩ := h.at hk
  rcases hp0.2 with ⟨rfl, rfl⟩ | ⟨i, rest, h1, rfl, h3⟩
  · obtain rfl : b = 0 := by omega
    refine ⟨.slice none 0 0, fun P E K H' hE hK => ?_, h.tell k hk fun S q => ⟨by rw [ints_length, hlb], .inl ⟨rfl, rfl⟩⟩⟩
    unfold sliceE
    rw [if_neg (by simp)]
    simp only [asSl_nil, runOut_need, runOut_val]
    refine ⟨⟨rfl, ?_, rfl⟩, hK⟩
    cases hi with
    | none => rfl
    | some x => simpa using hb
  · refine ⟨.slice (some ⟨i, 0, some z⟩) b b, fun P E K H' hE hK => ?_, h.tell k hk fun S q => ⟨by rw [ints_length, hlb], ?_⟩⟩
    · unfold sliceE
      rw [if_neg (by simp)]
      have e0 : ((none : Option Int).getD 0) = 0 := rfl
      simp only [asSl_some, runOut_need, runOut_val, hb, e0, Int.toNat_natCast, hE, Int.toNat_zero, Nat.zero_mul, Nat.add_zero, Nat.sub_zero]
      exact ⟨⟨by omega, by omega, by omega, trivial⟩, hK⟩
    · rcases q.2 with ⟨_, h7⟩ | ⟨i', rest', g1, g2, g3⟩
      · cases h7
      cases g2
      refine .inr ⟨i, ints (l.drop (b * z)) ++ rest', g1, rfl, ?_⟩
      rw [g3, ← List.append_assoc, ints_append, List.take_append_drop]
theorem Ow.appC {P : Program} {E : TI} {z n c : Nat} {ty : TypeId} {B H : AH} {L : List Th} {v : Value} {vs ms : List Value} {K : Value → AH → Prop} (h : Ow B H L) (k : Nat) (hk : L[k]? = some (.cap z ty v n vs)) (hz : E.size = z) (hz0 : 0 < z) (hm : ms.length = c * z) (hc : 0 < c) (hb : E.bytes ≤ 32768) (hn : n + c ≤ 4294967296)
    (hK : ∀ v' H', H.next ≤ H'.next → Ow B H' (L.set k (.cap z ty v' (n + c) (vs ++ ms))) → K v' H') : runOut P H (appE E ty v ms c H) K := by
  subst hz
  obtain ⟨S, hS, hp⟩ := h.at hk
  have hl := hp.1
  have hle : (n + c) * E.size = vs.length + ms.length := by rw [hl, hm, Nat.add_mul]
  have hlen' : (vs ++ ms).length = (n + c) * E.size := by rw [List.length_append, hle]
  unfold appE
  rw [if_neg (by omega)]
  rcases hp.2 with ⟨rfl, rfl⟩ | ⟨i, rest, h1, rfl, hr⟩
  · simp only [asSl_nil, runOut_need, runOut_val]
    have hv0 : vs = [] := List.eq_nil_of_length_eq_zero (by omega)
    subst hv0
    refine ⟨⟨by omega, hb⟩, hK _ _ (Nat.le_succ _) (h.upd hk (Nat.le_succ _) (h.sc.push _) fun S hS hp => ⟨fun j hj _ => by rw [AH.push_row, if_neg (by omega)], fun S' _ hN => ⟨hlen', .inr ⟨H.next, [], hN _ (Nat.le_refl _) (Nat.lt_succ_self _), by simp, by rw [AH.push_row, if_pos rfl]; simp⟩⟩⟩)⟩
  · have hseg : seg (vs ++ rest) 0 (n * E.size) = vs := by
      simp only [seg, List.drop_zero]
      rw [← hl, List.take_left' rfl]
    simp only [asSl_some, hr, bindO_some, runOut_need, Nat.zero_add, hseg]
    refine ⟨⟨by omega, hb, by rw [List.length_append]; omega, .inl rfl⟩, ?_⟩
    split
    · rename_i hfit
      simp only [runOut_need, runOut_val]
      refine ⟨⟨trivial, trivial, hz0, .inr trivial⟩, hK _ _ (Nat.le_refl _) (h.upd hk (Nat.le_refl _) (h.sc.set _ _) fun S hS hp => ?_)⟩
      rcases hp.2 with ⟨_, h7⟩ | ⟨i', rest', g1, g2, g3⟩
      · cases h7
      cases g2
      refine ⟨fun j hj hjS => by rw [AH.setCells_row, if_neg (fun e => hjS (by rw [e]; exact g1))], fun S' hS' _ => ⟨hlen', .inr ⟨i, rest'.drop ms.length, hS' i g1, rfl, ?_⟩⟩⟩
      rw [hr] at g3
      simp only [Option.some.injEq, Row.mk.injEq, true_and] at g3
      rw [AH.setCells_row, if_pos rfl, hr, g3]
      simp only [Option.map_some, Option.some.injEq, Row.mk.injEq, true_and]
      unfold splice
      rw [← hl, List.take_left' rfl, List.append_assoc, List.drop_append, List.drop_eq_nil_of_le (Nat.le_add_right _ _), Nat.add_sub_cancel_left, List.nil_append, List.append_assoc]
    · rename_i hfit
      simp only [runOut_need, runOut_val]
      refine ⟨⟨trivial, trivial, hz0, trivial, trivial⟩, hK _ _ (Nat.le_succ _) (h.upd hk (Nat.le_succ _) ((h.sc.drop i).push _) fun S hS hp => ?_)⟩
      rcases hp.2 with ⟨_, h7⟩ | ⟨i', rest', g1, g2, g3⟩
      · cases h7
      cases g2
      refine ⟨fun j hj hjS => ?_, fun S' _ hN => ⟨hlen', .inr ⟨H.next, [], hN _ (Nat.le_refl _) (Nat.lt_succ_self _), rfl, ?_⟩⟩⟩
      · rw [AH.push_row, if_neg (by rw [AH.drop_next]; omega), AH.drop_row, if_neg (fun e => hjS (by rw [e]; exact g1))]
      · rw [AH.push_row, AH.drop_next, if_pos rfl, List.append_nil]
theorem Ow.capPut {B H : AH} {L : List Th} (h : Ow B H L) (k : Nat) {z n i m c o : Nat} {u : Option Nat} {ty : TypeId} {vs vs' rest : List Value} (hk : L[k]? = some (.cap z ty (.slice (some ⟨i, o, u⟩) m c) n vs)) (hr : H.row i = some ⟨ty, true, vs ++ rest⟩) (hl : vs'.length = vs.length) :
    Ow B (H.setCells i (vs' ++ rest)) (L.set k (.cap z ty (.slice (some ⟨i, o, u⟩) m c) n vs')) := by
  refine h.upd hk (Nat.le_refl _) (h.sc.set _ _) fun S hS hp => ?_
  rcases hp.2 with ⟨_, h1⟩ | ⟨i', rest', h1, h2, h3⟩
  · cases h1
  · cases h2
    exact ⟨fun j hj hjS => by rw [AH.setCells_row, if_neg (fun e => hjS (by rw [e]; exact h1))], fun S' hS' _ => ⟨by rw [hl]; exact hp.1, .inr ⟨i, rest, hS' i h1, rfl, by rw [AH.setCells_row, if_pos rfl, hr]; rfl⟩⟩⟩
theorem Ow.appR {P : Program} {E : TI} {z n c : Nat} {ty : TypeId} {B H : AH} {L : List Th} {w v : Value} {vs : List Value} {l : List Int} {K : Value → AH → Prop} (h : Ow B H L) (k : Nat) (hk : L[k]? = some (.cap z ty w n vs)) (hv : Rd z H v c l) (hrow : ∀ i o u n c, v = .slice (some ⟨i, o, u⟩) n c → ∃ r, H.row i = some r ∧ o ≤ r.cells.length) (hz : E.size = z) (hz0 : 0 < z) (hb : E.bytes ≤ 32768) (hn : n + c ≤ 4294967296)
    (hK : ∀ v' H', H.next ≤ H'.next → Ow B H' (L.set k (.cap z ty v' (n + c) (vs ++ ints l))) → K v' H') : runOut P H (slCells H z v fun xs m => appE E ty w xs m H) K := by
  have hl := hv.1
  have hkl := (List.getElem?_eq_some_iff.1 hk).1
  rcases Nat.eq_zero_or_pos c with rfl | hc
  · have hl0 : l = [] := List.eq_nil_of_length_eq_zero (by omega)
    subst hl0
    have eL : L.set k (.cap z ty w (n + 0) (vs ++ ints [])) = L := by
      have e : Th.cap z ty w (n + 0) (vs ++ ints []) = Th.cap z ty w n vs := by
        show Th.cap z ty w n (vs ++ []) = _
        rw [List.append_nil]
      rw [e]
      apply List.ext_getElem?
      intro j
      rw [List.getElem?_set]
      split
      · rename_i e; subst e; exact hk.symm
      · rfl
    have key : runOut P H (appE E ty w [] 0 H) K := by
      unfold appE
      rw [if_pos rfl]
      obtain ⟨S, hS, hp⟩ := h.at hk
      have hK' := hK w H (Nat.le_refl _) (by rw [eL]; exact h)
      rcases hp.2 with ⟨_, rfl⟩ | ⟨i, rest, h1, rfl, hr⟩
      · simp only [asSl_nil, runOut_val]; exact hK'
      · simp only [asSl_some, runOut_need, runOut_val]; exact ⟨(fun h => by cases h), hK'⟩
    rcases hv.2 with ⟨_, a, c, rfl, ha⟩ | ⟨i, o, u, c, r, rfl, hr, h3, h4⟩
    · cases a with
      | none =>
        unfold slCells
        have hc0 : c = 0 := ha rfl
        subst hc0
        simp only [asSl_nil]
        exact key
      | some a =>
        obtain ⟨i, o, u⟩ := a
        obtain ⟨r, hr, ho⟩ := hrow i o u 0 c rfl
        unfold slCells
        simp only [asSl_some, hr, bindO_some, runOut_need, Nat.zero_mul, Nat.add_zero]
        have e0 : seg r.cells o 0 = [] := by simp [seg]
        rw [e0]
        exact ⟨⟨ho, .inr (by simp)⟩, key⟩
    · unfold slCells
      simp only [asSl_some, hr, bindO_some, runOut_need, Nat.zero_mul, Nat.add_zero]
      have e0 : seg r.cells o 0 = [] := by simp [seg]
      rw [e0]
      exact ⟨⟨by omega, .inr (by simp)⟩, key⟩
  · obtain ⟨i, o, u, cc, r, rfl, hr, h3, _, h5⟩ := hv.get hc
    unfold slCells
    have hsg : seg r.cells o (c * z) = ints l := by
      have := h5 0 (c * z) (by omega)
      rw [Nat.add_zero] at this
      rw [this, List.drop_zero, List.take_of_length_le (by omega)]
    simp only [asSl_some, hr, bindO_some, runOut_need, hsg]
    refine ⟨⟨h3, ?_⟩, h.appC k hk hz hz0 (by rw [ints_length, hl]) hc hb hn hK⟩
    have := ok_ints (r := r) l
    simpa using this
theorem Ow.alone {B H : AH} {L : List Th} (h : Ow B H L) : ∃ B' H3, Ow B' H3 L ∧ ∀ i r, H3.row i = some r → B.next ≤ i ∧ H.row i = some r := by
  have hn := h.next
  obtain ⟨w, hw⟩ := h.own
  refine ⟨⟨B.next, fun _ => none⟩, ⟨H.next, fun i => if B.next ≤ i ∧ i < H.next then H.row i else none⟩, ⟨fun i r hr => ?_, hn, fun i hi => ?_, w, fun k p hk => ?_⟩, fun i r hr => ?_⟩
  · dsimp only at hr ⊢
    split at hr
    · rename_i h1; exact h1.2
    · cases hr
  · dsimp only at hi ⊢
    rw [if_neg (by omega)]
  · refine p.loc H _ _ _ (fun j hj => hj) (fun j r hj hr => ?_) (hw k p hk)
    show (if B.next ≤ j ∧ j < H.next then H.row j else none) = some r
    rw [if_pos ⟨hj.1, hj.2.1⟩]; exact hr
  · dsimp only at hr
    split at hr
    · rename_i h1; exact ⟨h1.1, hr⟩
    · cases hr
end Go.Abs
end

section
namespace Go.Abs
open Go Go.RowKit
theorem Ow.only {B H : AH} {L : List Th} (h : Ow B H L) (k : Nat) {p : Th} (hk : L[k]? = some p) : Ow B H [p] :=
  h.sub (fun _ => k) (fun j hj => by
    have hj : j < 1 := hj
    obtain rfl : j = 0 := by omega
    exact hk) fun i j hi hj _ => by
    have hi : i < 1 := hi
    have hj : j < 1 := hj
    omega
theorem Ow.pick2 {B H : AH} {L : List Th} (h : Ow B H L) (i j : Nat) {p q : Th} (hi : L[i]? = some p) (hj : L[j]? = some q) (hij : i ≠ j) : Ow B H [p, q] :=
  h.sub (fun x => if x = 0 then i else j) (fun x hx => by
    have hx : x < 2 := hx
    rcases x with _ | _ | x
    · exact hi
    · exact hj
    · omega) fun x y hx hy e => by
    have hx : x < 2 := hx
    have hy : y < 2 := hy
    have e : (if x = 0 then i else j) = (if y = 0 then i else j) := e
    repeat' split at e
    all_goals omega
def Th.see (Q : AH → Prop) : Th where
  p := fun H S => ∀ H' : AH, (∀ (i : Nat) (r : Row), S i → H.row i = some r → H'.row i = some r) → Q H'
  loc := fun H H' S S' hS hr h H2 h2 => h H2 fun i r hi hr' => h2 i r (hS i hi) (hr i r hi hr')
theorem Ow.sees {B H : AH} {L : List Th} (h : Ow B H L) (k : Nat) {Q : AH → Prop} (hk : L[k]? = some (.see Q)) : Q H := by
  obtain ⟨S, _, hp⟩ := h.at hk
  exact hp H fun _ _ _ h => h
def RowsOk (vs : List Value) (ll : List (List Int)) (H : AH) : Prop := vs.length = ll.length ∧ ∀ j, j < ll.length → ∃ x, vs[j]? = some x ∧ Rd 1 H x (ll.getD j []).length (ll.getD j [])
theorem RowsOk.nil (H : AH) : RowsOk [] [] H := ⟨rfl, fun j h => by simp at h⟩
theorem RowsOk.app {vs ws : List Value} {ll mm : List (List Int)} {H : AH} (h : RowsOk vs ll H) (k : RowsOk ws mm H) : RowsOk (vs ++ ws) (ll ++ mm) H := by
  refine ⟨by simp [h.1, k.1], fun j hj => ?_⟩
  rw [List.length_append] at hj
  by_cases e : j < ll.length
  · obtain ⟨y, h1, h2⟩ := h.2 j e
    have e2 : (ll ++ mm).getD j [] = ll.getD j [] := by rw [List.getD_eq_getElem?_getD, List.getD_eq_getElem?_getD, List.getElem?_append_left e]
    rw [e2]
    exact ⟨y, by rw [List.getElem?_append_left (by rw [h.1]; exact e)]; exact h1, h2⟩
  · obtain ⟨y, h1, h2⟩ := k.2 (j - ll.length) (by omega)
    have e2 : (ll ++ mm).getD j [] = mm.getD (j - ll.length) [] := by rw [List.getD_eq_getElem?_getD, List.getD_eq_getElem?_getD, List.getElem?_append_right (by omega)]
    rw [e2]
    exact ⟨y, by rw [List.getElem?_append_right (by rw [h.1]; omega), h.1]; exact h1, h2⟩
theorem RowsOk.rd2 {ty : TypeId} {vs : List Value} {ll : List (List Int)} {H : AH} {S : Nat → Prop} {u : Value} {m : Nat} (h : RowsOk vs ll H) (hp : (Th.sl 1 ty u m vs).p H S) : Rd2 1 H u ll := by
  have hm : m = ll.length := by have := hp.1; have := h.1; omega
  rcases hp.2 with ⟨h0, h1⟩ | ⟨i, _, h1, h2⟩
  · exact .inl ⟨List.eq_nil_of_length_eq_zero (by omega), none, 0, h1, fun _ => rfl⟩
  · refine .inr ⟨i, 0, some 1, _, _, by rw [h1, hm], h2, fun j hj => ?_⟩
    obtain ⟨x, hx, hr⟩ := h.2 j hj
    exact ⟨x, _, by simpa using hx, hr⟩
def Rw (u : Value) (ws : List Value) (ll : List (List Int)) (H : AH) : Prop :=
  RowsOk ws ll H ∧ ((u = .slice none 0 0 ∧ ws = []) ∨ ∃ i o s c r, u = .slice (some ⟨i, o, s⟩) ws.length c ∧ H.row i = some r ∧ o + ws.length ≤ r.cells.length ∧ seg r.cells o ws.length = ws)
theorem Rw.rd2 {u : Value} {ws : List Value} {ll : List (List Int)} {H : AH} (h : Rw u ws ll H) : Rd2 1 H u ll := by
  obtain ⟨h1, h2⟩ := h
  rcases h2 with ⟨e1, e2⟩ | ⟨i, o, s, c, r, e1, h3, h4, h5⟩
  · exact .inl ⟨List.eq_nil_of_length_eq_zero (by rw [← h1.1, e2]; rfl), none, 0, e1, fun _ => rfl⟩
  · refine .inr ⟨i, o, s, c, r, by rw [e1, h1.1], h3, fun j hj => ?_⟩
    obtain ⟨x, hx, hr⟩ := h1.2 j hj
    refine ⟨x, _, ?_, hr⟩
    rw [← h5] at hx
    simp only [seg, List.getElem?_take, List.getElem?_drop] at hx
    rw [if_pos (by rw [h1.1]; exact hj)] at hx
    exact hx
end Go.Abs
end

section
namespace Go.Abs
end Go.Abs
end

section
namespace Go.Proofs.YtpienljnoaendaaGreat.A
open Go Go.Abs Go.RowKit
theorem ti141 : ti Tryz.prog 141 = some ⟨.other, 1, 8, [.nilFunc]⟩ := by kernel_rfl
theorem ti116 : ti Tryz.prog 116 = some ⟨.other, 1, 8, [.nilFunc]⟩ := by kernel_rfl
theorem ti144 : ti Tryz.prog 144 = some ⟨.slice 89, 1, 24, [.slice none 0 0]⟩ := by kernel_rfl
theorem ti5 : ti Tryz.prog 5 = some ⟨.int .u8, 1, 1, [.int .u8 0]⟩ := by kernel_rfl
theorem ti175 : ti Tryz.prog 175 = some ⟨.int .u64, 1, 8, [.int .u64 0]⟩ := by kernel_rfl
theorem ti22 : ti Tryz.prog 22 = some ⟨.slice 5, 1, 24, [.slice none 0 0]⟩ := by kernel_rfl
theorem ti177 : ti Tryz.prog 177 = some ⟨.struct [(0, 22), (1, 3), (2, 175)], 3, 40, [.slice none 0 0, .int .i64 0, .int .u64 0]⟩ := by kernel_rfl
theorem ti9 : ti Tryz.prog 9 = some ⟨.str, 1, 16, [.string ByteArray.empty]⟩ := by kernel_rfl
theorem tiXA : ti Tryz.prog 141 = some ⟨.other, 1, 8, [.nilFunc]⟩ ∧ ti Tryz.prog 116 = some ⟨.other, 1, 8, [.nilFunc]⟩ ∧ ti Tryz.prog 144 = some ⟨.slice 89, 1, 24, [.slice none 0 0]⟩ ∧ ti Tryz.prog 5 = some ⟨.int .u8, 1, 1, [.int .u8 0]⟩ ∧ ti Tryz.prog 175 = some ⟨.int .u64, 1, 8, [.int .u64 0]⟩ ∧ ti Tryz.prog 22 = some ⟨.slice 5, 1, 24, [.slice none 0 0]⟩ ∧ ti Tryz.prog 177 = some ⟨.struct [(0, 22), (1, 3), (2, 175)], 3, 40, [.slice none 0 0, .int .i64 0, .int .u64 0]⟩ ∧ ti Tryz.prog 9 = some ⟨.str, 1, 16, [.string ByteArray.empty]⟩ := ⟨ti141, ti116, ti144, ti5, ti175, ti22, ti177, ti9⟩
end Go.Proofs.YtpienljnoaendaaGreat.A
end

section
set_option maxRecDepth 100000
set_option maxHeartbeats 2000000
namespace Go.Proofs.YtpienljnoaendaaGreat.A
open Go Go.Abs Go.RowKit
end Go.Proofs.YtpienljnoaendaaGreat.A
end

section
set_option maxRecDepth 100000
set_option maxHeartbeats 2000000
namespace Go.Proofs.YtpienljnoaendaaGreat.A
open Go Go.Abs Go.RowKit
def CodeOk (H : AH) (cv : Value) (nb : Nat) : Prop :=
  (nb = 0 ∧ ∃ a c, cv = .slice a 0 c) ∨ ∃ i o u c r, cv = .slice (some ⟨i, o, u⟩) nb c ∧ H.row i = some r ∧ ∀ j, j < nb → ∃ x, r.cells[o + j]? = some (.int .u8 x) ∧ 0 ≤ x ∧ x ≤ 255
theorem CodeOk.len {H : AH} {cv : Value} {nb : Nat} (h : CodeOk H cv nb) (H' : AH) : asSl cv (.val (.int .i64 0) H') (fun _ _ _ n _ => .val (.int .i64 (n : Int)) H') = .val (.int .i64 (nb : Int)) H' := by
  rcases h with ⟨rfl, a, c, rfl⟩ | ⟨i, o, u, c, r, rfl, _⟩
  · cases a <;> rfl
  · rfl
theorem CodeOk.one {H : AH} {cv : Value} {nb : Nat} (h : CodeOk H cv nb) : cv.oneCell' = true := by
  rcases h with ⟨rfl, a, c, rfl⟩ | ⟨i, o, u, c, r, rfl, _⟩ <;> rfl
theorem CodeOk.get {H : AH} {cv : Value} {nb : Nat} (h : CodeOk H cv nb) {j : Nat} (hj : j < nb) : ∃ i o u c r x, cv = .slice (some ⟨i, o, u⟩) nb c ∧ H.row i = some r ∧ r.cells[o + j]? = some (.int .u8 x) ∧ 0 ≤ x ∧ x ≤ 255 := by
  rcases h with ⟨rfl, _⟩ | ⟨i, o, u, c, r, rfl, hr, hx⟩
  · omega
  · obtain ⟨x, h1, h2, h3⟩ := hx j hj
    exact ⟨i, o, u, c, r, x, rfl, hr, h1, h2, h3⟩
def Src (cv : Value) (nb si : Nat) (H : AH) : Prop := ∃ (a : Nat) (h : Int), H.row si = some ⟨177, true, [cv, .int .i64 a, .int .u64 h]⟩ ∧ a ≤ nb
structure SrcB (cv : Value) (nb si : Nat) (H H' : AH) : Prop where
  next : H'.next = H.next
  row : ∀ i, i ≠ si → H'.row i = H.row i
  src : Src cv nb si H'
theorem SrcB.refl {cv : Value} {nb si : Nat} {H : AH} (h : Src cv nb si H) : SrcB cv nb si H H := ⟨rfl, fun _ _ => rfl, h⟩
theorem SrcB.trans {cv : Value} {nb si : Nat} {A B C : AH} (h : SrcB cv nb si A B) (k : SrcB cv nb si B C) : SrcB cv nb si A C := ⟨k.next.trans h.next, fun i hi => (k.row i hi).trans (h.row i hi), k.src⟩
def CodeX (cv : Value) (nb si : Nat) (H : AH) : Prop := ∀ H', (∀ i r, i ≠ si → H.row i = some r → H'.row i = some r) → CodeOk H' cv nb
theorem CodeX.now {cv : Value} {nb si : Nat} {H : AH} (h : CodeX cv nb si H) : CodeOk H cv nb := h H fun _ _ _ k => k
theorem CodeX.later {cv : Value} {nb si : Nat} {H H' : AH} (h : CodeX cv nb si H) (hs : ∀ i r, i ≠ si → H.row i = some r → H'.row i = some r) : CodeX cv nb si H' := fun H2 h2 => h H2 fun i r hi hr => h2 i r hi (hs i r hi hr)
theorem SrcB.sc {cv : Value} {nb si : Nat} {H H' : AH} (h : SrcB cv nb si H H') (hs : Sc H) (hi : si < H.next) : Sc H' := fun i r hr => by
  rw [h.next]
  by_cases e : i = si
  · rw [e]; exact hi
  · rw [h.row i e] at hr; exact hs i r hr
theorem Ow.src {cv : Value} {nb si : Nat} {B H H' : AH} {L : List Th} (h : Ow B H L) (hi : si < B.next) (k : SrcB cv nb si H H') : ∃ B', SrcB cv nb si B B' ∧ Ow B' H' L := by
  have hb := h.next
  have hsr := k.src
  refine ⟨⟨B.next, fun i => if i = si then H'.row si else B.row i⟩, ⟨rfl, fun i hi => if_neg hi, ?_⟩, ⟨k.sc h.sc (by omega), by rw [k.next]; exact h.next, fun i hi2 => ?_, ?_⟩⟩
  · obtain ⟨a, x, h1, h2⟩ := hsr
    exact ⟨a, x, by show (if si = si then H'.row si else B.row si) = _; rw [if_pos rfl]; exact h1, h2⟩
  · show H'.row i = if i = si then H'.row si else B.row i
    by_cases e : i = si
    · rw [if_pos e, e]
    · rw [if_neg e, k.row i e, h.low i hi2]
  · obtain ⟨o, ho⟩ := h.own
    refine ⟨o, fun j q hj => q.loc H H' _ _ (fun i hi2 => ⟨hi2.1, by rw [k.next]; exact hi2.2.1, hi2.2.2⟩) (fun i r hi2 hr => ?_) (ho j q hj)⟩
    have hbn : B.next ≤ i := hi2.1
    rw [k.row i (by omega)]; exact hr
theorem Ow.srcCall {cv : Value} {nb si : Nat} {B H H1 H' : AH} {L M : List Th} (h : Ow B H L) (hi : si < B.next) (k : SrcB cv nb si H H1) (o : Ow H1 H' M) : ∃ B', SrcB cv nb si B B' ∧ Ow B' H' (L ++ M) := by
  obtain ⟨B', b1, b2⟩ := Ow.src h hi k
  exact ⟨B', b1, b2.call o⟩
theorem Ow.oldX {cv : Value} {nb si : Nat} {A B H : AH} {L : List Th} (h : Ow B H L) (k : SrcB cv nb si A B) (hs : Sc A) : ∀ i r, i ≠ si → A.row i = some r → H.row i = some r := fun i r hi hr => by
  rw [h.low i (by rw [k.next]; exact hs i r hr), k.row i hi, hr]
theorem Ow.srcAt {cv : Value} {nb si : Nat} {A B H : AH} {L : List Th} (h : Ow B H L) (k : SrcB cv nb si A B) (hi : si < A.next) : Src cv nb si H := by
  obtain ⟨a, x, h1, h2⟩ := k.src
  exact ⟨a, x, by rw [h.low si (by rw [k.next]; exact hi), h1], h2⟩
theorem and24 (x : Int) : ∃ y : Nat, IntKind.u64.wrap (BitVec.ofInt IntKind.u64.bits x &&& BitVec.ofInt IntKind.u64.bits 16777215).toNat = (y : Int) ∧ y ≤ 16777215 := by
  refine ⟨(BitVec.ofInt 64 x &&& BitVec.ofInt 64 16777215).toNat, ?_, ?_⟩
  · have h : (BitVec.ofInt 64 x &&& BitVec.ofInt 64 16777215).toNat ≤ 16777215 := by
      rw [BitVec.toNat_and]
      exact Nat.le_trans Nat.and_le_right (by decide)
    have hb : IntKind.u64.bits = 64 := rfl
    rw [hb]
    generalize (BitVec.ofInt 64 x &&& BitVec.ofInt 64 16777215).toNat = y at h ⊢
    unfold IntKind.wrap
    simp only [IntKind.bits, IntKind.signed, Bool.false_and, Bool.false_eq_true, if_false]
    omega
  · rw [BitVec.toNat_and]
    exact Nat.le_trans Nat.and_le_right (by decide)
theorem tmodN {y n : Int} (hy : 0 ≤ y) (hn : ¬ n < 1) : ∃ x : Nat, y.tmod n = (x : Int) ∧ (x : Int) < n := by
  have h1 := Int.emod_nonneg y (show n ≠ 0 by omega)
  have h2 := Int.emod_lt_of_pos y (show 0 < n by omega)
  exact ⟨(y % n).toNat, by rw [Int.tmod_eq_emod_of_nonneg hy]; omega, by omega⟩
theorem l01Next_c (cv : Value) (nb si : Nat) (n : Int) (H : AH) (hn : n ≤ 9223372036854775807) (hnb : nb ≤ 4611686018427387904) (hs : Src cv nb si H) (hc : CodeX cv nb si H) :
    ACalls Tryz.prog 99 [.pointer (some ⟨si, 0, none⟩), .int .i64 n] H (fun v H' => ∃ x : Nat, v = .int .i64 x ∧ ((n < 1 ∧ x = 0) ∨ (x : Int) < n) ∧ SrcB cv nb si H H') := by
  refine acalls_of_awp [.tmp 4] Tryz.func99 (by kernel_rfl) rfl rfl (Nat.le_of_ble_eq_true rfl) (by kernel_rfl) ?_
  by_cases hn1 : n < 1
  · have e1 : decide (n < 1) = true := decide_eq_true hn1
    try simp (disch := first | omega | (simp only [L3] <;> omega)) only [Sall,evalOp,init,binA_s,binE,binI,unE,convE,okNil,builtE,gv,TD.isAgg,resV,↓reduceIte,Nat.reduceEqDiff,reduceCtorEq,Nat.reduceAdd,Nat.reduceMul,Nat.reduceLeDiff,quietOp,blindOp,Int.reduceEq,Int.reduceLT,Int.reduceLE,Nat.reduceLT,tiA,tiXA, e1]
    exact ⟨0, rfl, .inl ⟨hn1, rfl⟩, SrcB.refl hs⟩
  · have e1 : decide (n < 1) = false := decide_eq_false hn1
    obtain ⟨a, hh, hrow, ha⟩ := hs
    have hone := hc.now.one
    obtain ⟨y, hy1, hy2⟩ := and24 ((IntKind.u64.wrap (IntKind.u64.wrap (hh * 6364136223846793005) + 1442695040888963407)).fdiv (2 ^ min (Int.toNat 33) IntKind.u64.bits))
    have ey : IntKind.i64.wrap (y : Int) = (y : Int) := w64 (by omega)
    obtain ⟨h2, eh2⟩ : ∃ h2, h2 = IntKind.u64.wrap (IntKind.u64.wrap (hh * 6364136223846793005) + 1442695040888963407) := ⟨_, rfl⟩
    rw [← eh2] at hy1
    try simp (disch := first | omega | (simp only [L3] <;> omega)) only [Sall,evalOp,init,binA_s,binE,binI,unE,convE,okNil,builtE,gv,TD.isAgg,resV,↓reduceIte,Nat.reduceEqDiff,reduceCtorEq,Nat.reduceAdd,Nat.reduceMul,Nat.reduceLeDiff,quietOp,blindOp,Int.reduceEq,Int.reduceLT,Int.reduceLE,Nat.reduceLT,tiA,tiXA, e1, hrow, hone, ← eh2, hy1, ey]
    obtain ⟨H1, g1⟩ : ∃ H1, H1 = H.setCells si [cv, .int .i64 a, .int .u64 h2] := ⟨_, rfl⟩
    have r1 : H1.row si = some ⟨177, true, [cv, .int .i64 a, .int .u64 h2]⟩ := by rw [g1, AH.setCells_row, if_pos rfl, hrow]; rfl
    have k1 : ∀ i, i ≠ si → H1.row i = H.row i := fun i hi => by rw [g1, AH.setCells_row, if_neg hi]
    have n1 : H1.next = H.next := by rw [g1]; rfl
    rw [← g1]
    clear g1
    have hc1 := hc.later (H' := H1) fun i r hi hr => by rw [k1 i hi, hr]
    have hln := hc1.now.len
    refine draw_id (by kernel_rfl) (by kernel_rfl) ?_
    by_cases ha2 : a < nb
    · have e2 : decide ((a : Int) < (nb : Int)) = true := decide_eq_true (by omega)
      obtain ⟨ci, co, cu, cc, cr, b, rfl, cr1, cr2, cb1, cb2⟩ := hc1.now.get ha2
      have ebw : IntKind.i64.wrap b = b := w64 (by omega)
      try simp (disch := first | omega | (simp only [L3] <;> omega)) only [Sall,evalOp,init,binA_s,binE,binI,unE,convE,okNil,builtE,gv,TD.isAgg,resV,↓reduceIte,Nat.reduceEqDiff,reduceCtorEq,Nat.reduceAdd,Nat.reduceMul,Nat.reduceLeDiff,quietOp,blindOp,Int.reduceEq,Int.reduceLT,Int.reduceLE,Nat.reduceLT,tiA,tiXA, r1, hone, builtE, e2]
      refine draw_id (by kernel_rfl) (by kernel_rfl) ?_
      try simp (disch := first | omega | (simp only [L3] <;> omega)) only [Sall,evalOp,init,binA_s,binE,binI,unE,convE,okNil,builtE,gv,TD.isAgg,resV,↓reduceIte,Nat.reduceEqDiff,reduceCtorEq,Nat.reduceAdd,Nat.reduceMul,Nat.reduceLeDiff,quietOp,blindOp,Int.reduceEq,Int.reduceLT,Int.reduceLE,Nat.reduceLT,tiA,tiXA, r1, hone, builtE, e2, cr1, cr2, ebw]
      (repeat refine And.intro (by omega) ?_)
      try simp (disch := first | omega | (simp only [L3] <;> omega)) only [Sall,evalOp,init,binA_s,binE,binI,unE,convE,okNil,builtE,gv,TD.isAgg,resV,↓reduceIte,Nat.reduceEqDiff,reduceCtorEq,Nat.reduceAdd,Nat.reduceMul,Nat.reduceLeDiff,quietOp,blindOp,Int.reduceEq,Int.reduceLT,Int.reduceLE,Nat.reduceLT,tiA,tiXA, r1, hone, builtE, e2, cr1, cr2, ebw, w64]
      obtain ⟨x, x1, x2⟩ := tmodN (y := (y : Int) + b) (by omega) hn1
      exact ⟨x, x1, .inr x2, ⟨n1, fun i hi => by rw [AH.setCells_row, if_neg hi, k1 i hi], ⟨a + 1, h2, by rw [AH.setCells_row, if_pos rfl, r1]; rfl, by omega⟩⟩⟩
    · have e2 : decide ((a : Int) < (nb : Int)) = false := decide_eq_false (by omega)
      try simp (disch := first | omega | (simp only [L3] <;> omega)) only [Sall,evalOp,init,binA_s,binE,binI,unE,convE,okNil,builtE,gv,TD.isAgg,resV,↓reduceIte,Nat.reduceEqDiff,reduceCtorEq,Nat.reduceAdd,Nat.reduceMul,Nat.reduceLeDiff,quietOp,blindOp,Int.reduceEq,Int.reduceLT,Int.reduceLE,Nat.reduceLT,tiA,tiXA, r1, hone, builtE, hln, e2]
      obtain ⟨x, x1, x2⟩ := tmodN (y := (y : Int)) (by omega) hn1
      exact ⟨by omega, x, x1, .inr x2, ⟨n1, k1, ⟨a, h2, r1, ha⟩⟩⟩
theorem l01Pick_c (cv : Value) (nb si : Nat) (lv : Value) (k : Nat) (l : List Int) (H : AH) (hk : 0 < k) (hk2 : k ≤ 4294967296) (hnb : nb ≤ 4611686018427387904) (hs : Src cv nb si H) (hc : CodeX cv nb si H) (hl : ∀ H', SrcB cv nb si H H' → Rd 1 H' lv k l) :
    ACalls Tryz.prog 98 [.pointer (some ⟨si, 0, none⟩), lv] H (fun v H' => ∃ x : Int, v = .int .i64 x ∧ x ∈ l ∧ SrcB cv nb si H H') := by
  refine acalls_of_awp [.tmp 4] Tryz.func98 (by kernel_rfl) rfl rfl (Nat.le_of_ble_eq_true rfl) (by kernel_rfl) ?_
  have hr := hl H (SrcB.refl hs)
  have hln := hr.len
  have hlk := hr.lenK1
  try simp (disch := first | omega | (simp only [L3] <;> omega)) only [Sall,evalOp,init,binA_s,binE,binI,unE,convE,okNil,builtE,gv,TD.isAgg,resV,↓reduceIte,Nat.reduceEqDiff,reduceCtorEq,Nat.reduceAdd,Nat.reduceMul,Nat.reduceLeDiff,quietOp,blindOp,Int.reduceEq,Int.reduceLT,Int.reduceLE,Nat.reduceLT,tiA,tiXA, builtE, hln]
  refine (l01Next_c cv nb si k H (by omega) hnb hs hc).ex ?_
  rintro x H1 ⟨hx, hS⟩
  have hxk : x < k := by rcases hx with h | h <;> omega
  obtain ⟨i, o, u, c, r, rfl, r1, r2, r3, r4⟩ := (hl H1 hS).get hk
  have r5 := r3 x (by omega)
  refine Holds.mp ?_
  try simp (disch := first | omega | (simp only [L3] <;> omega)) only [Sall,evalOp,init,binA_s,binE,binI,unE,convE,okNil,builtE,gv,TD.isAgg,resV,↓reduceIte,Nat.reduceEqDiff,reduceCtorEq,Nat.reduceAdd,Nat.reduceMul,Nat.reduceLeDiff,quietOp,blindOp,Int.reduceEq,Int.reduceLT,Int.reduceLE,Nat.reduceLT,tiA,tiXA, r1, r5]
  refine ⟨⟨by omega, by omega⟩, ?_, hS⟩
  rw [List.getD_eq_getElem?_getD, List.getElem?_eq_getElem (by omega)]
  exact List.getElem_mem _
end Go.Proofs.YtpienljnoaendaaGreat.A
end

section
namespace Go.Abs
end Go.Abs
end

section
namespace Go.Abs
def meetN (now : List Int) (a b : Nat) : List Int := (now.set a (b : Int)).set b (a : Int)
def NowOk (n : Nat) (now : List Int) : Prop := now.length = 14 ∧ ∀ j, j < n → 0 ≤ now.getD j 0 ∧ now.getD j 0 < (n : Int)
theorem getD_setI (l : List Int) (i : Nat) (x : Int) (j : Nat) (h : i < l.length) : (l.set i x).getD j 0 = if j = i then x else l.getD j 0 := by
  simp only [List.getD_eq_getElem?_getD, List.getElem?_set]
  by_cases e : i = j
  · subst e; rw [if_pos rfl, if_pos h, if_pos rfl]; rfl
  · rw [if_neg e, if_neg (Ne.symm e)]
theorem meetN_get {now : List Int} {a b : Nat} (hl : now.length = 14) (ha : a < 14) (hb : b < 14) (j : Nat) : (meetN now a b).getD j 0 = if j = b then (a : Int) else if j = a then (b : Int) else now.getD j 0 := by
  unfold meetN
  rw [getD_setI _ _ _ _ (by rw [List.length_set]; omega), getD_setI _ _ _ _ (by omega)]
theorem meetN_length (now : List Int) (a b : Nat) : (meetN now a b).length = now.length := by simp [meetN]
theorem NowOk.meet {n : Nat} {now : List Int} {a b : Nat} (h : NowOk n now) (hn : n ≤ 14) (ha : a < n) (hb : b < n) : NowOk n (meetN now a b) := by
  refine ⟨by rw [meetN_length]; exact h.1, fun j hj => ?_⟩
  rw [meetN_get h.1 (by omega) (by omega)]
  have := h.2 j hj
  split
  · omega
  · split <;> omega
/-! ### Renumbering by a ranking -/
structure PermN (n : Nat) (R : List Int) : Prop where
  len : R.length = n
  rng : ∀ j, j < n → 0 ≤ R.getD j 0 ∧ R.getD j 0 < (n : Int)
  inj : ∀ i j, i < n → j < n → R.getD i 0 = R.getD j 0 → i = j
  sur : ∀ x, x < n → ∃ j, j < n ∧ R.getD j 0 = (x : Int)
end Go.Abs
end

section
set_option maxRecDepth 100000
set_option maxHeartbeats 2000000
namespace Go.Proofs.YtpienljnoaendaaGreat.A
open Go Go.Abs Go.RowKit
theorem evo_pnil (t : T) : evo t (.const (.pointer none)) = some (.pointer none) := (rfl)
theorem l01From_c (cv : Value) (nb : Nat) (H : AH) (hnb : nb ≤ 4611686018427387904) (hc : CodeOk H cv nb) :
    ACalls Tryz.prog 96 [cv] H (fun v H' => v = .pointer (some ⟨H.next, 0, none⟩) ∧ Up H.next H H' ∧ Sc H' ∧ H.next < H'.next ∧ Src cv nb H.next H') := by
  refine ACalls.wf (by kernel_rfl) fun hs => acalls_of_awp [.tmp 2] Tryz.func96 (by kernel_rfl) rfl rfl (Nat.le_of_ble_eq_true rfl) (by kernel_rfl) ?_
  have hone := hc.one
  have hw1 := cells_of_one hone
  have hw2 := noTuple_of_one hone
  have hln := hc.len
  have hz : [Value.slice none 0 0, .int .i64 0, .int .u64 0] = [Value.slice none 0 0, .int .i64 0, .int .u64 0] := rfl
  try simp (disch := first | omega | (simp only [L3] <;> omega)) only [Sall,evalOp,init,binA_s,binE,binI,unE,convE,okNil,builtE,gv,TD.isAgg,resV,↓reduceIte,Nat.reduceEqDiff,reduceCtorEq,Nat.reduceAdd,Nat.reduceMul,Nat.reduceLeDiff,quietOp,blindOp,Int.reduceEq,Int.reduceLT,Int.reduceLE,Nat.reduceLT,tiA,tiXA, hone, hw1, hw2, hln, builtE, evo_pnil]
  obtain ⟨h0, eh0⟩ : ∃ h0, h0 = IntKind.u64.wrap (13791 + IntKind.u64.wrap (nb : Int)) := ⟨_, rfl⟩
  rw [← eh0]
  have o1 := (Ow.refl hs).push ⟨177, true, [cv, .int .i64 0, .int .u64 h0]⟩
  refine awp_loop (fun z t H' => ∃ (j : Nat) (h : Int), z = nb - j ∧ j ≤ nb ∧ t 4 = .int .i64 j ∧ t 3 = .pointer (some ⟨H.next, 0, none⟩) ∧ t 0 = cv ∧ Ow H H' [.row H.next ⟨177, true, [cv, .int .i64 0, .int .u64 h]⟩]) nb ?_ ?_
  · refine ⟨0, h0, by omega, by omega, ?_⟩
    try simp (disch := first | omega | (simp only [L3] <;> omega)) only [Sall,evalOp,init,binA_s,binE,binI,unE,convE,okNil,builtE,gv,TD.isAgg,resV,↓reduceIte,Nat.reduceEqDiff,reduceCtorEq,Nat.reduceAdd,Nat.reduceMul,Nat.reduceLeDiff,quietOp,blindOp,Int.reduceEq,Int.reduceLT,Int.reduceLE,Nat.reduceLT,tiA,tiXA, Int.natCast_zero]
    exact o1
  · rintro z t H' ⟨j, h, hz, hj, h4, h3, h0', o2⟩
    have g0 := (o2.rowAt 0 rfl).1
    have n0 := (o2.rowAt 0 rfl).2
    by_cases c1 : j < nb
    · have e1 : decide ((j : Int) < (nb : Int)) = true := decide_eq_true (by omega)
      by_cases c2 : j < 4096
      · have e2 : decide ((j : Int) < 4096) = true := decide_eq_true (by omega)
        try simp (disch := first | omega | (simp only [L3] <;> omega)) only [Sall,evalOp,init,binA_s,binE,binI,unE,convE,okNil,builtE,gv,TD.isAgg,resV,↓reduceIte,Nat.reduceEqDiff,reduceCtorEq,Nat.reduceAdd,Nat.reduceMul,Nat.reduceLeDiff,quietOp,blindOp,Int.reduceEq,Int.reduceLT,Int.reduceLE,Nat.reduceLT,tiA,tiXA, h4, h0', builtE, hln, e1, e2]
        have hc' : CodeOk H' cv nb := by
          rcases hc with ⟨q1, q2⟩ | ⟨i, o, u, c, r, q1, q2, q3⟩
          · exact .inl ⟨q1, q2⟩
          · exact .inr ⟨i, o, u, c, r, q1, o2.old hs _ _ q2, q3⟩
        obtain ⟨ci, co, cu, cc, cr, b, rfl, cr1, cr2, cb1, cb2⟩ := hc'.get c1
        try simp (disch := first | omega | (simp only [L3] <;> omega)) only [Sall,evalOp,init,binA_s,binE,binI,unE,convE,okNil,builtE,gv,TD.isAgg,resV,↓reduceIte,Nat.reduceEqDiff,reduceCtorEq,Nat.reduceAdd,Nat.reduceMul,Nat.reduceLeDiff,quietOp,blindOp,Int.reduceEq,Int.reduceLT,Int.reduceLE,Nat.reduceLT,tiA,tiXA, h4, h3]
        refine draw_id (by kernel_rfl) (by kernel_rfl) ?_
        try simp (disch := first | omega | (simp only [L3] <;> omega)) only [Sall,evalOp,init,binA_s,binE,binI,unE,convE,okNil,builtE,gv,TD.isAgg,resV,↓reduceIte,Nat.reduceEqDiff,reduceCtorEq,Nat.reduceAdd,Nat.reduceMul,Nat.reduceLeDiff,quietOp,blindOp,Int.reduceEq,Int.reduceLT,Int.reduceLE,Nat.reduceLT,tiA,tiXA, h4, h3, h0', g0, cr1, cr2, hone]
        (repeat refine And.intro (by omega) ?_)
        exact ⟨.inr (.inl (by kernel_rfl)), nb - (j + 1), by omega, j + 1, _, rfl, by omega, w64 (by omega), o2.putRow 0 rfl⟩
      · have e2 : decide ((j : Int) < 4096) = false := decide_eq_false (by omega)
        try simp (disch := first | omega | (simp only [L3] <;> omega)) only [Sall,evalOp,init,binA_s,binE,binI,unE,convE,okNil,builtE,gv,TD.isAgg,resV,↓reduceIte,Nat.reduceEqDiff,reduceCtorEq,Nat.reduceAdd,Nat.reduceMul,Nat.reduceLeDiff,quietOp,blindOp,Int.reduceEq,Int.reduceLT,Int.reduceLE,Nat.reduceLT,tiA,tiXA, h4, h0', h3, builtE, hln, e1, e2]
        exact ⟨o2.up, o2.sc, by omega, ⟨0, h, g0, Nat.zero_le _⟩⟩
    · have e1 : decide ((j : Int) < (nb : Int)) = false := decide_eq_false (by omega)
      try simp (disch := first | omega | (simp only [L3] <;> omega)) only [Sall,evalOp,init,binA_s,binE,binI,unE,convE,okNil,builtE,gv,TD.isAgg,resV,↓reduceIte,Nat.reduceEqDiff,reduceCtorEq,Nat.reduceAdd,Nat.reduceMul,Nat.reduceLeDiff,quietOp,blindOp,Int.reduceEq,Int.reduceLT,Int.reduceLE,Nat.reduceLT,tiA,tiXA, h4, h0', h3, builtE, hln, e1]
      exact ⟨o2.up, o2.sc, by omega, ⟨0, h, g0, Nat.zero_le _⟩⟩
structure PermL (n : Nat) (l : List Int) : Prop where
  len : l.length = n
  nod : l.Nodup
  rng : ∀ x ∈ l, 0 ≤ x ∧ x < (n : Int)
  all : ∀ x : Nat, x < n → (x : Int) ∈ l
theorem PermL.zero : PermL 0 [] := ⟨rfl, by simp, by simp, fun x hx => by omega⟩
theorem PermL.ins {n : Nat} {l : List Int} (h : PermL n l) (a : Nat) (ha : a ≤ n) : PermL (n + 1) (l.take a ++ [(n : Int)] ++ l.drop a) := by
  have hta := List.take_append_drop a l
  have hp : (l.take a ++ [(n : Int)] ++ l.drop a).Perm ((n : Int) :: l) := by
    rw [List.append_assoc]
    refine (List.perm_middle (l₁ := l.take a) (l₂ := l.drop a) (a := (n : Int))).trans ?_
    rw [hta]
  refine ⟨?_, ?_, fun x hx => ?_, fun x hx => ?_⟩
  · rw [hp.length_eq, List.length_cons, h.len]
  · rw [hp.nodup_iff, List.nodup_cons]
    exact ⟨fun hm => by have := h.rng _ hm; omega, h.nod⟩
  · have := hp.mem_iff.1 hx
    rcases List.mem_cons.1 this with e | e
    · omega
    · have := h.rng _ e; omega
  · rw [hp.mem_iff]
    by_cases e : x = n
    · rw [e]; simp
    · exact List.mem_cons_of_mem _ (h.all x (by omega))
theorem frcut {P : Program} {E : TI} {K : Value → AH → Prop} {H : AH} {i n a b : Nat} {lo hi : Option Int} (hE : E.size = 1) (ha : lo.getD 0 = (a : Int)) (hb : hi.getD (n : Int) = (b : Int)) (hab : a ≤ b) (hbn : b ≤ n) (hK : K (.slice (some ⟨i, a, some 1⟩) (b - a) (b - a)) H) :
    runOut P H (sliceE E (.slice (some ⟨i, 0, some 1⟩) n n) lo hi none H) K := by
  unfold sliceE
  rw [if_neg (by simp)]
  simp only [asSl_some, runOut_need, runOut_val, ha, hb, Int.toNat_natCast, hE, Nat.mul_one, Nat.zero_add]
  exact ⟨⟨by omega, by omega, by omega, trivial⟩, hK⟩
theorem appE_zero {P : Program} {E : TI} {K : Value → AH → Prop} {H : AH} {ty : TypeId} {i o z n c : Nat} {xs : List Value} (hK : K (.slice (some ⟨i, o, some z⟩) n c) H) : runOut P H (appE E ty (.slice (some ⟨i, o, some z⟩) n c) xs 0 H) K := by
  unfold appE
  rw [if_pos rfl]
  simp only [asSl_some, runOut_need, runOut_val]
  exact ⟨(fun h => by cases h), hK⟩
theorem cp_pre {H : AH} {i a n : Nat} {ty : TypeId} {l : List Int} (hr : H.row i = some ⟨ty, true, ints l⟩) (ha : a ≤ l.length) : Cp H (.slice (some ⟨i, 0, some 1⟩) a n) (l.take a) := by
  have hl : (l.take a).length = a := by rw [List.length_take]; omega
  refine ⟨⟨by omega, .inr ⟨i, 0, some 1, n, _, by rw [hl], hr, by rw [hl, ints_length]; omega, ?_⟩⟩, fun h => .inr ⟨i, n, _, by rw [show a = 0 by omega], hr, rfl⟩⟩
  rw [hl, Nat.mul_one]
  simp [seg, ints, List.map_take]
theorem l01DrawOrder_c (cv : Value) (nb si : Nat) (n : Int) (H : AH) (hn : n ≤ 4096) (hnb : nb ≤ 4611686018427387904) (hs : Src cv nb si H) (hc : CodeX cv nb si H) :
    ACalls Tryz.prog 102 [.pointer (some ⟨si, 0, none⟩), .int .i64 n] H (fun v H' => ∃ (l : List Int) (H1 : AH), SrcB cv nb si H H1 ∧ Ow H1 H' [.sl 1 2 v n.toNat (ints l)] ∧ PermL n.toNat l) := by
  refine ACalls.wf (by kernel_rfl) fun hsc => acalls_of_awp [.tmp 4] Tryz.func102 (by kernel_rfl) rfl rfl (Nat.le_of_ble_eq_true rfl) (by kernel_rfl) ?_
  obtain ⟨_, _, hrow, _⟩ := id hs
  have hsi := hsc _ _ hrow
  have o1 := (Ow.refl hsc).pushSl (k := 1) (n := 0) (ty := 2) (vs := ints []) rfl
  try simp (disch := first | omega | (simp only [L3] <;> omega)) only [Sall,evalOp,init,binA_s,binE,binI,unE,convE,okNil,builtE,gv,TD.isAgg,resV,↓reduceIte,Nat.reduceEqDiff,reduceCtorEq,Nat.reduceAdd,Nat.reduceMul,Nat.reduceLeDiff,quietOp,blindOp,Int.reduceEq,Int.reduceLT,Int.reduceLE,Nat.reduceLT,tiA,tiXA, zeros_zero]
  refine awp_loop (fun z t H' => ∃ (i ui : Nat) (l : List Int) (B : AH), z = n.toNat - i ∧ i ≤ n.toNat ∧ t 6 = .int .i64 i ∧ t 5 = .slice (some ⟨ui, 0, some 1⟩) i i ∧ t 0 = .pointer (some ⟨si, 0, none⟩) ∧ t 1 = .int .i64 n ∧ SrcB cv nb si H B ∧ Ow B H' [.sl 1 2 (.slice (some ⟨ui, 0, some 1⟩) i i) i (ints l)] ∧ PermL i l) n.toNat ?_ ?_
  · refine ⟨0, H.next, [], H, by omega, by omega, ?_⟩
    try simp (disch := first | omega | (simp only [L3] <;> omega)) only [Sall,evalOp,init,binA_s,binE,binI,unE,convE,okNil,builtE,gv,TD.isAgg,resV,↓reduceIte,Nat.reduceEqDiff,reduceCtorEq,Nat.reduceAdd,Nat.reduceMul,Nat.reduceLeDiff,quietOp,blindOp,Int.reduceEq,Int.reduceLT,Int.reduceLE,Nat.reduceLT,tiA,tiXA, Int.natCast_zero]
    exact ⟨SrcB.refl hs, o1, PermL.zero⟩
  · rintro z t H' ⟨i, ui, l, B, hz, hi, h6, h5, h0, h1, hB, o2, hp⟩
    try simp (disch := first | omega | (simp only [L3] <;> omega)) only [Sall,evalOp,init,binA_s,binE,binI,unE,convE,okNil,builtE,gv,TD.isAgg,resV,↓reduceIte,Nat.reduceEqDiff,reduceCtorEq,Nat.reduceAdd,Nat.reduceMul,Nat.reduceLeDiff,quietOp,blindOp,Int.reduceEq,Int.reduceLT,Int.reduceLE,Nat.reduceLT,tiA,tiXA, h6, h1]
    have hsiB : si < B.next := by rw [hB.next]; exact hsi
    refine condC_dec (fun hh => ?_) (fun hh => ?_)
    · try simp (disch := first | omega | (simp only [L3] <;> omega)) only [Sall,evalOp,init,binA_s,binE,binI,unE,convE,okNil,builtE,gv,TD.isAgg,resV,↓reduceIte,Nat.reduceEqDiff,reduceCtorEq,Nat.reduceAdd,Nat.reduceMul,Nat.reduceLeDiff,quietOp,blindOp,Int.reduceEq,Int.reduceLT,Int.reduceLE,Nat.reduceLT,tiA,tiXA, h6, h0, w64]
      refine (l01Next_c cv nb si ((i : Int) + 1) H' (by omega) hnb (Ow.srcAt o2 hB hsi) (hc.later fun j r hj hr => Ow.oldX o2 hB hsc j r hj hr)).ex ?_
      rintro a H2 ⟨ha, hS⟩
      have hai : a ≤ i := by omega
      obtain ⟨B2, b1, o3⟩ := Ow.src o2 hsiB hS
      have hB2 := hB.trans b1
      have hl := hp.len
      have rU3 := (o3.getV 0 rfl).2.2
      refine Holds.mp ?_
      try simp (disch := first | omega | (simp only [L3] <;> omega)) only [Sall,evalOp,init,binA_s,binE,binI,unE,convE,okNil,builtE,gv,TD.isAgg,resV,↓reduceIte,Nat.reduceEqDiff,reduceCtorEq,Nat.reduceAdd,Nat.reduceMul,Nat.reduceLeDiff,quietOp,blindOp,Int.reduceEq,Int.reduceLT,Int.reduceLE,Nat.reduceLT,tiA,tiXA, h6, h5]
      refine draw_tree (OT.run [0, 1, 2, 4, 7, 8, 9] (.two 3 5 (OT.run [5, 6, 10, 11] .nil) (OT.run [3, 6, 10, 11] .nil))) (by kernel_rfl) (by kernel_rfl) (Nat.le_of_ble_eq_true rfl) ?_
      try simp (disch := first | omega | (simp only [L3] <;> omega)) only [Sall,evalOp,init,binA_s,binE,binI,unE,convE,okNil,builtE,gv,TD.isAgg,resV,↓reduceIte,Nat.reduceEqDiff,reduceCtorEq,Nat.reduceAdd,Nat.reduceMul,Nat.reduceLeDiff,quietOp,blindOp,Int.reduceEq,Int.reduceLT,Int.reduceLE,Nat.reduceLT,tiA,tiXA, awpT_nil, awpT_one, awpT_run_nil, awpT_run_cons, h6, h5]
      refine frcut (a := 0) (b := a) rfl rfl rfl (Nat.zero_le _) hai ?_
      try simp (disch := first | omega | (simp only [L3] <;> omega)) only [Sall,evalOp,init,binA_s,binE,binI,unE,convE,okNil,builtE,gv,TD.isAgg,resV,↓reduceIte,Nat.reduceEqDiff,reduceCtorEq,Nat.reduceAdd,Nat.reduceMul,Nat.reduceLeDiff,quietOp,blindOp,Int.reduceEq,Int.reduceLT,Int.reduceLE,Nat.reduceLT,tiA,tiXA, awpT_nil, awpT_one, awpT_run_nil, awpT_run_cons, h6, h5]
      refine frcut (a := a) (b := i) rfl rfl rfl hai (Nat.le_refl _) ?_
      have hsg : seg (ints l) a (i - a) = ints (l.drop a) := by
        rw [ints_seg, List.take_of_length_le (by rw [List.length_drop]; omega)]
      have hm6 : PermL (i + 1) (l.take a ++ [(i : Int)] ++ l.drop a) := hp.ins a hai
      have fin7 : ∀ (A : AH) (H7 : AH) (x y : Th), Ow A H7 [x, y] → Ow A H7 [y] := fun A H7 x y o => o.sub (fun _ => 1) (fun j hj => by
          obtain rfl : j = 0 := by simp at hj; omega
          rfl) (fun x y hx hy _ => by simp at hx hy; omega)
      have hla : (l.take a).length = a := by rw [List.length_take]; omega
      have zz : zeros 1 [.int .i64 0] = [.int .i64 0] := rfl
      try simp (disch := first | omega | (simp only [L3] <;> omega)) only [Sall,evalOp,init,binA_s,binE,binI,unE,convE,okNil,builtE,gv,TD.isAgg,resV,↓reduceIte,Nat.reduceEqDiff,reduceCtorEq,Nat.reduceAdd,Nat.reduceMul,Nat.reduceLeDiff,quietOp,blindOp,Int.reduceEq,Int.reduceLT,Int.reduceLE,Nat.reduceLT,tiA,tiXA, awpT_nil, awpT_one, awpT_run_nil, awpT_run_cons, h6, h5, Nat.sub_zero]
      refine awpT_two ?_ ?_
      · try simp (disch := first | omega | (simp only [L3] <;> omega)) only [Sall,evalOp,init,binA_s,binE,binI,unE,convE,okNil,builtE,gv,TD.isAgg,resV,↓reduceIte,Nat.reduceEqDiff,reduceCtorEq,Nat.reduceAdd,Nat.reduceMul,Nat.reduceLeDiff,quietOp,blindOp,Int.reduceEq,Int.reduceLT,Int.reduceLE,Nat.reduceLT,tiA,tiXA, awpT_nil, awpT_one, awpT_run_nil, awpT_run_cons, h6, h5]
        refine (l01Own_c _ (l.take a) H2 (cp_pre rU3 (by omega)) (by omega)).sc.mono ?_
        rintro w H4 ⟨⟨up4, hf4⟩, sc4⟩
        have o4 := o3.call (Ow.of_fr up4 sc4 hf4)
        rw [hla] at o4
        have rU4 := (o4.getV 0 rfl).2
        refine ⟨.inr (.inr (up4.le o3.sc)), ?_⟩
        have ne4 : ¬ ui = H4.next := by omega
        try simp (disch := first | omega | (simp only [L3] <;> omega)) only [Sall,evalOp,init,binA_s,binE,binI,unE,convE,okNil,builtE,gv,TD.isAgg,resV,↓reduceIte,Nat.reduceEqDiff,reduceCtorEq,Nat.reduceAdd,Nat.reduceMul,Nat.reduceLeDiff,quietOp,blindOp,Int.reduceEq,Int.reduceLT,Int.reduceLE,Nat.reduceLT,tiA,tiXA, awpT_nil, awpT_one, awpT_run_nil, awpT_run_cons, h6, h5, zz, slCells]
        (repeat refine And.intro (by omega) ?_)
        refine ⟨.inr (.inr (o4.sc.le _)), ?_⟩
        try simp (disch := first | omega | (simp only [L3] <;> omega)) only [Sall,evalOp,init,binA_s,binE,binI,unE,convE,okNil,builtE,gv,TD.isAgg,resV,↓reduceIte,Nat.reduceEqDiff,reduceCtorEq,Nat.reduceAdd,Nat.reduceMul,Nat.reduceLeDiff,quietOp,blindOp,Int.reduceEq,Int.reduceLT,Int.reduceLE,Nat.reduceLT,tiA,tiXA, awpT_nil, awpT_one, awpT_run_nil, awpT_run_cons, h6, h5, zz, slCells]
        (repeat refine And.intro (by omega) ?_)
        refine (o4.tmp ⟨2, true, [.int .i64 i]⟩).app 1 (ms := ints [(i : Int)]) rfl rfl (by omega) rfl (by omega) (by decide) (by omega) ?_
        intro v6 H6 n6 o6
        rw [ints_append] at o6
        refine ⟨.inr (.inl (by kernel_rfl)), ?_⟩
        try simp (disch := first | omega | (simp only [L3] <;> omega)) only [Sall,evalOp,init,binA_s,binE,binI,unE,convE,okNil,builtE,gv,TD.isAgg,resV,↓reduceIte,Nat.reduceEqDiff,reduceCtorEq,Nat.reduceAdd,Nat.reduceMul,Nat.reduceLeDiff,quietOp,blindOp,Int.reduceEq,Int.reduceLT,Int.reduceLE,Nat.reduceLT,tiA,tiXA, awpT_nil, awpT_one, awpT_run_nil, awpT_run_cons, h6, h5]
        have rU := (o6.getV 0 rfl).2.2
        try simp (disch := first | omega | (simp only [L3] <;> omega)) only [Sall,evalOp,init,binA_s,binE,binI,unE,convE,okNil,builtE,gv,TD.isAgg,resV,↓reduceIte,Nat.reduceEqDiff,reduceCtorEq,Nat.reduceAdd,Nat.reduceMul,Nat.reduceLeDiff,quietOp,blindOp,Int.reduceEq,Int.reduceLT,Int.reduceLE,Nat.reduceLT,tiA,tiXA, awpT_nil, awpT_one, awpT_run_nil, awpT_run_cons, h6, h5, slCells, rU, hsg, hl, ints_length]
        (repeat refine And.intro (by omega) ?_)
        by_cases hd : a < i
        · refine o6.app 1 (vs := ints (l.take a ++ [(i : Int)])) (n := a + 1) (c := i - a) (ms := ints (l.drop a)) rfl rfl (by omega) (by rw [ints_length, List.length_drop]; omega) (by omega) (by decide) (by omega) ?_
          intro v7 H7 n7 o7
          rw [show a + 1 + (i - a) = i + 1 by omega, ints_append] at o7
          have o8 : Ow B2 H7 [.sl 1 2 (.slice (some ⟨ui, 0, some 1⟩) i i) i (ints l), .sl 1 2 v7 (i + 1) (ints (l.take a ++ [(i : Int)] ++ l.drop a))] := o7
          obtain ⟨u7, q1, q2, rfl, q4⟩ := o8.get 1 rfl (by omega)
          try simp (disch := first | omega | (simp only [L3] <;> omega)) only [Sall,evalOp,init,binA_s,binE,binI,unE,convE,okNil,builtE,gv,TD.isAgg,resV,↓reduceIte,Nat.reduceEqDiff,reduceCtorEq,Nat.reduceAdd,Nat.reduceMul,Nat.reduceLeDiff,quietOp,blindOp,Int.reduceEq,Int.reduceLT,Int.reduceLE,Nat.reduceLT,tiA,tiXA, awpT_nil, awpT_one, awpT_run_nil, awpT_run_cons, h6, h5, h0, h1, w64]
          exact ⟨.inr (.inl (by kernel_rfl)), n.toNat - (i + 1), by omega, i + 1, u7, _, B2, rfl, by omega, by omega, rfl, hB2, fin7 _ _ _ _ o8, hm6⟩
        · have hai2 : a = i := by omega
          subst hai2
          have o8 : Ow B2 H6 [.sl 1 2 (.slice (some ⟨ui, 0, some 1⟩) a a) a (ints l), .sl 1 2 v6 (a + 1) (ints (l.take a ++ [(a : Int)]))] := o6
          obtain ⟨u7, q1, q2, rfl, q4⟩ := o8.get 1 rfl (by omega)
          rw [Nat.sub_self]
          refine appE_zero ?_
          have hd0 : l.drop a = [] := List.drop_eq_nil_of_le (by omega)
          rw [hd0, List.append_nil] at hm6
          try simp (disch := first | omega | (simp only [L3] <;> omega)) only [Sall,evalOp,init,binA_s,binE,binI,unE,convE,okNil,builtE,gv,TD.isAgg,resV,↓reduceIte,Nat.reduceEqDiff,reduceCtorEq,Nat.reduceAdd,Nat.reduceMul,Nat.reduceLeDiff,quietOp,blindOp,Int.reduceEq,Int.reduceLT,Int.reduceLE,Nat.reduceLT,tiA,tiXA, awpT_nil, awpT_one, awpT_run_nil, awpT_run_cons, h6, h5, h0, h1, w64]
          exact ⟨.inr (.inl (by kernel_rfl)), n.toNat - (a + 1), by omega, a + 1, u7, _, B2, rfl, by omega, by omega, rfl, hB2, fin7 _ _ _ _ o8, hm6⟩
      · try simp (disch := first | omega | (simp only [L3] <;> omega)) only [Sall,evalOp,init,binA_s,binE,binI,unE,convE,okNil,builtE,gv,TD.isAgg,resV,↓reduceIte,Nat.reduceEqDiff,reduceCtorEq,Nat.reduceAdd,Nat.reduceMul,Nat.reduceLeDiff,quietOp,blindOp,Int.reduceEq,Int.reduceLT,Int.reduceLE,Nat.reduceLT,tiA,tiXA, awpT_nil, awpT_one, awpT_run_nil, awpT_run_cons, h6, h5, zz, slCells]
        (repeat refine And.intro (by omega) ?_)
        refine ⟨.inr (.inr (o3.sc.le _)), ?_⟩
        have o3t := o3.tmp ⟨2, true, [.int .i64 i]⟩
        have rT : (H2.push ⟨2, true, [.int .i64 i]⟩).row H2.next = some ⟨2, true, [.int .i64 i]⟩ := by rw [AH.push_row, if_pos rfl]
        have nT : (H2.push ⟨2, true, [.int .i64 i]⟩).next = H2.next + 1 := rfl
        revert o3t rT nT
        generalize H2.push ⟨2, true, [.int .i64 i]⟩ = H3
        intro o3t rT nT
        try simp (disch := first | omega | (simp only [L3] <;> omega)) only [Sall,evalOp,init,binA_s,binE,binI,unE,convE,okNil,builtE,gv,TD.isAgg,resV,↓reduceIte,Nat.reduceEqDiff,reduceCtorEq,Nat.reduceAdd,Nat.reduceMul,Nat.reduceLeDiff,quietOp,blindOp,Int.reduceEq,Int.reduceLT,Int.reduceLE,Nat.reduceLT,tiA,tiXA, awpT_nil, awpT_one, awpT_run_nil, awpT_run_cons, h6, h5]
        have rU3' := (o3t.getV 0 rfl).2.2
        refine (l01Own_c _ (l.take a) H3 (cp_pre rU3' (by omega)) (by omega)).sc.mono ?_
        rintro w H4 ⟨⟨up4, hf4⟩, sc4⟩
        have o4 := o3t.call (Ow.of_fr up4 sc4 hf4)
        rw [hla] at o4
        have rT4 : H4.row H2.next = some ⟨2, true, [.int .i64 i]⟩ := by rw [up4.row _ (by omega)]; exact rT
        refine ⟨.inr (.inr (up4.le o3t.sc)), ?_⟩
        try simp (disch := first | omega | (simp only [L3] <;> omega)) only [Sall,evalOp,init,binA_s,binE,binI,unE,convE,okNil,builtE,gv,TD.isAgg,resV,↓reduceIte,Nat.reduceEqDiff,reduceCtorEq,Nat.reduceAdd,Nat.reduceMul,Nat.reduceLeDiff,quietOp,blindOp,Int.reduceEq,Int.reduceLT,Int.reduceLE,Nat.reduceLT,tiA,tiXA, awpT_nil, awpT_one, awpT_run_nil, awpT_run_cons, h6, h5, zz, slCells, rT4]
        (repeat refine And.intro (by omega) ?_)
        refine o4.app 1 (ms := ints [(i : Int)]) rfl rfl (by omega) rfl (by omega) (by decide) (by omega) ?_
        intro v6 H6 n6 o6
        rw [ints_append] at o6
        refine ⟨.inr (.inl (by kernel_rfl)), ?_⟩
        try simp (disch := first | omega | (simp only [L3] <;> omega)) only [Sall,evalOp,init,binA_s,binE,binI,unE,convE,okNil,builtE,gv,TD.isAgg,resV,↓reduceIte,Nat.reduceEqDiff,reduceCtorEq,Nat.reduceAdd,Nat.reduceMul,Nat.reduceLeDiff,quietOp,blindOp,Int.reduceEq,Int.reduceLT,Int.reduceLE,Nat.reduceLT,tiA,tiXA, awpT_nil, awpT_one, awpT_run_nil, awpT_run_cons, h6, h5]
        have rU := (o6.getV 0 rfl).2.2
        try simp (disch := first | omega | (simp only [L3] <;> omega)) only [Sall,evalOp,init,binA_s,binE,binI,unE,convE,okNil,builtE,gv,TD.isAgg,resV,↓reduceIte,Nat.reduceEqDiff,reduceCtorEq,Nat.reduceAdd,Nat.reduceMul,Nat.reduceLeDiff,quietOp,blindOp,Int.reduceEq,Int.reduceLT,Int.reduceLE,Nat.reduceLT,tiA,tiXA, awpT_nil, awpT_one, awpT_run_nil, awpT_run_cons, h6, h5, slCells, rU, hsg, hl, ints_length]
        (repeat refine And.intro (by omega) ?_)
        by_cases hd : a < i
        · refine o6.app 1 (vs := ints (l.take a ++ [(i : Int)])) (n := a + 1) (c := i - a) (ms := ints (l.drop a)) rfl rfl (by omega) (by rw [ints_length, List.length_drop]; omega) (by omega) (by decide) (by omega) ?_
          intro v7 H7 n7 o7
          rw [show a + 1 + (i - a) = i + 1 by omega, ints_append] at o7
          have o8 : Ow B2 H7 [.sl 1 2 (.slice (some ⟨ui, 0, some 1⟩) i i) i (ints l), .sl 1 2 v7 (i + 1) (ints (l.take a ++ [(i : Int)] ++ l.drop a))] := o7
          obtain ⟨u7, q1, q2, rfl, q4⟩ := o8.get 1 rfl (by omega)
          try simp (disch := first | omega | (simp only [L3] <;> omega)) only [Sall,evalOp,init,binA_s,binE,binI,unE,convE,okNil,builtE,gv,TD.isAgg,resV,↓reduceIte,Nat.reduceEqDiff,reduceCtorEq,Nat.reduceAdd,Nat.reduceMul,Nat.reduceLeDiff,quietOp,blindOp,Int.reduceEq,Int.reduceLT,Int.reduceLE,Nat.reduceLT,tiA,tiXA, awpT_nil, awpT_one, awpT_run_nil, awpT_run_cons, h6, h5, h0, h1, w64]
          exact ⟨.inr (.inl (by kernel_rfl)), n.toNat - (i + 1), by omega, i + 1, u7, _, B2, rfl, by omega, by omega, rfl, hB2, fin7 _ _ _ _ o8, hm6⟩
        · have hai2 : a = i := by omega
          subst hai2
          have o8 : Ow B2 H6 [.sl 1 2 (.slice (some ⟨ui, 0, some 1⟩) a a) a (ints l), .sl 1 2 v6 (a + 1) (ints (l.take a ++ [(a : Int)]))] := o6
          obtain ⟨u7, q1, q2, rfl, q4⟩ := o8.get 1 rfl (by omega)
          rw [Nat.sub_self]
          refine appE_zero ?_
          have hd0 : l.drop a = [] := List.drop_eq_nil_of_le (by omega)
          rw [hd0, List.append_nil] at hm6
          try simp (disch := first | omega | (simp only [L3] <;> omega)) only [Sall,evalOp,init,binA_s,binE,binI,unE,convE,okNil,builtE,gv,TD.isAgg,resV,↓reduceIte,Nat.reduceEqDiff,reduceCtorEq,Nat.reduceAdd,Nat.reduceMul,Nat.reduceLeDiff,quietOp,blindOp,Int.reduceEq,Int.reduceLT,Int.reduceLE,Nat.reduceLT,tiA,tiXA, awpT_nil, awpT_one, awpT_run_nil, awpT_run_cons, h6, h5, h0, h1, w64]
          exact ⟨.inr (.inl (by kernel_rfl)), n.toNat - (a + 1), by omega, a + 1, u7, _, B2, rfl, by omega, by omega, rfl, hB2, fin7 _ _ _ _ o8, hm6⟩
    · have hie : i = n.toNat := by omega
      subst hie
      try simp (disch := first | omega | (simp only [L3] <;> omega)) only [Sall,evalOp,init,binA_s,binE,binI,unE,convE,okNil,builtE,gv,TD.isAgg,resV,↓reduceIte,Nat.reduceEqDiff,reduceCtorEq,Nat.reduceAdd,Nat.reduceMul,Nat.reduceLeDiff,quietOp,blindOp,Int.reduceEq,Int.reduceLT,Int.reduceLE,Nat.reduceLT,tiA,tiXA, h5]
      exact ⟨l, B, hB, o2, hp⟩
end Go.Proofs.YtpienljnoaendaaGreat.A
end

section
set_option maxRecDepth 100000
set_option maxHeartbeats 2000000
namespace Go.Proofs.YtpienljnoaendaaGreat.A
open Go Go.Abs Go.RowKit
theorem Ow.rebase {cv : Value} {nb si : Nat} {H H1 B H' : AH} {L : List Th} (o : Ow B H' L) (up : Up H.next H H1) (k : SrcB cv nb si H1 B) (hsi : H.next ≤ si) : Ow H H' L := by
  obtain ⟨w, hw⟩ := o.own
  have h1 := up.next
  have h2 := k.next
  have h3 := o.next
  refine ⟨o.sc, by omega, fun i hi => by rw [o.low i (by omega), k.row i (by omega), up.row i hi], w, fun j q hj => q.loc H' H' _ _ (fun i hi => ⟨by omega, hi.2⟩) (fun _ _ _ h => h) (hw j q hj)⟩
theorem CodeX.of {cv : Value} {nb : Nat} {H H1 : AH} (h : CodeOk H cv nb) (hs : Sc H) (up : Up H.next H H1) : CodeX cv nb H.next H1 := fun H' hk => by
  rcases h with ⟨q1, q2⟩ | ⟨i, o, u, c, r, q1, q2, q3⟩
  · exact .inl ⟨q1, q2⟩
  · have := hs _ _ q2
    exact .inr ⟨i, o, u, c, r, q1, hk _ _ (by omega) (by rw [up.row i this]; exact q2), q3⟩
theorem CodeOk.up {cv : Value} {nb : Nat} {H H1 : AH} (h : CodeOk H cv nb) (hs : ∀ i r, H.row i = some r → H1.row i = some r) : CodeOk H1 cv nb := by
  rcases h with ⟨q1, q2⟩ | ⟨i, o, u, c, r, q1, q2, q3⟩
  · exact .inl ⟨q1, q2⟩
  · exact .inr ⟨i, o, u, c, r, q1, hs _ _ q2, q3⟩
end Go.Proofs.YtpienljnoaendaaGreat.A
end

section
set_option maxRecDepth 100000
set_option maxHeartbeats 2000000
namespace Go.Proofs.YtpienljnoaendaaGreat.A
open Go Go.Abs Go.RowKit
theorem big_c (cv : Value) (nb : Nat) (H : AH) (hc : CodeOk H cv nb) : ACalls Tryz.prog 8 [cv] H (is (.bool (decide (4096 < (nb : Int)))) H) := by
  refine acalls_of_awp [.tmp 2] Tryz.func8 (by kernel_rfl) rfl rfl (Nat.le_of_ble_eq_true rfl) (by kernel_rfl) ?_
  have hln := hc.len
  try simp (disch := first | omega | (simp only [L3] <;> omega)) only [Sall,evalOp,init,binA_s,binE,binI,unE,convE,okNil,builtE,gv,TD.isAgg,resV,↓reduceIte,Nat.reduceEqDiff,reduceCtorEq,Nat.reduceAdd,Nat.reduceMul,Nat.reduceLeDiff,quietOp,blindOp,Int.reduceEq,Int.reduceLT,Int.reduceLE,Nat.reduceLT,tiA,tiXA, hln, builtE]
  exact ⟨rfl, rfl⟩
theorem likeInts_c (a b : Value) (n : Nat) (l : List Int) (H : AH) (hn : n ≤ 4294967296) (ha : Rd 1 H a n l) (hb : Rd 1 H b n l) : ACalls Tryz.prog 27 [a, b] H (is (.bool true) H) := by
  refine acalls_of_awp [.tmp 4] Tryz.func27 (by kernel_rfl) rfl rfl (Nat.le_of_ble_eq_true rfl) (by kernel_rfl) ?_
  have la := ha.len
  have lb := hb.len
  try simp (disch := first | omega | (simp only [L3] <;> omega)) only [Sall,evalOp,init,binA_s,binE,binI,unE,convE,okNil,builtE,gv,TD.isAgg,resV,↓reduceIte,Nat.reduceEqDiff,reduceCtorEq,Nat.reduceAdd,Nat.reduceMul,Nat.reduceLeDiff,quietOp,blindOp,Int.reduceEq,Int.reduceLT,Int.reduceLE,Nat.reduceLT,tiA,tiXA, la, lb, builtE, bne_self_eq_false]
  refine awp_loop (fun z t H' => H' = H ∧ ∃ j : Nat, z = n - j ∧ j ≤ n ∧ t 5 = .int .i64 j ∧ t 0 = a ∧ t 1 = b) n ?_ ?_
  · refine ⟨rfl, 0, by omega, by omega, ?_⟩
    try simp (disch := first | omega | (simp only [L3] <;> omega)) only [Sall,evalOp,init,binA_s,binE,binI,unE,convE,okNil,builtE,gv,TD.isAgg,resV,↓reduceIte,Nat.reduceEqDiff,reduceCtorEq,Nat.reduceAdd,Nat.reduceMul,Nat.reduceLeDiff,quietOp,blindOp,Int.reduceEq,Int.reduceLT,Int.reduceLE,Nat.reduceLT,tiA,tiXA, Int.natCast_zero]
  · rintro z t H' ⟨rfl, j, hz, hj, h5, h0, h1⟩
    try simp (disch := first | omega | (simp only [L3] <;> omega)) only [Sall,evalOp,init,binA_s,binE,binI,unE,convE,okNil,builtE,gv,TD.isAgg,resV,↓reduceIte,Nat.reduceEqDiff,reduceCtorEq,Nat.reduceAdd,Nat.reduceMul,Nat.reduceLeDiff,quietOp,blindOp,Int.reduceEq,Int.reduceLT,Int.reduceLE,Nat.reduceLT,tiA,tiXA, h5, h0, la, builtE]
    refine condC_dec (fun hh => ?_) (fun hh => ?_)
    · obtain ⟨ai, ao, au, ac, ar, rfl, a1, a2, a3, a4⟩ := ha.get (by omega)
      obtain ⟨bi, bo, bu, bc, br, rfl, b1, b2, b3, b4⟩ := hb.get (by omega)
      have a5 := a3 j (by omega)
      have b5 := b3 j (by omega)
      try simp (disch := first | omega | (simp only [L3] <;> omega)) only [Sall,evalOp,init,binA_s,binE,binI,unE,convE,okNil,builtE,gv,TD.isAgg,resV,↓reduceIte,Nat.reduceEqDiff,reduceCtorEq,Nat.reduceAdd,Nat.reduceMul,Nat.reduceLeDiff,quietOp,blindOp,Int.reduceEq,Int.reduceLT,Int.reduceLE,Nat.reduceLT,tiA,tiXA, h5, h0, h1]
      refine draw_id (by kernel_rfl) (by kernel_rfl) ?_
      try simp (disch := first | omega | (simp only [L3] <;> omega)) only [Sall,evalOp,init,binA_s,binE,binI,unE,convE,okNil,builtE,gv,TD.isAgg,resV,↓reduceIte,Nat.reduceEqDiff,reduceCtorEq,Nat.reduceAdd,Nat.reduceMul,Nat.reduceLeDiff,quietOp,blindOp,Int.reduceEq,Int.reduceLT,Int.reduceLE,Nat.reduceLT,tiA,tiXA, h5, h0, h1, a1, a5, b1, b5, bne_self_eq_false, w64]
      (repeat refine And.intro (by omega) ?_)
      try simp (disch := first | omega | (simp only [L3] <;> omega)) only [Sall,evalOp,init,binA_s,binE,binI,unE,convE,okNil,builtE,gv,TD.isAgg,resV,↓reduceIte,Nat.reduceEqDiff,reduceCtorEq,Nat.reduceAdd,Nat.reduceMul,Nat.reduceLeDiff,quietOp,blindOp,Int.reduceEq,Int.reduceLT,Int.reduceLE,Nat.reduceLT,tiA,tiXA, h5, h0, h1, a1, a5, b1, b5, bne_self_eq_false, w64]
      exact ⟨n - (j + 1), by omega, j + 1, rfl, by omega, rfl⟩
    · try simp (disch := first | omega | (simp only [L3] <;> omega)) only [Sall,evalOp,init,binA_s,binE,binI,unE,convE,okNil,builtE,gv,TD.isAgg,resV,↓reduceIte,Nat.reduceEqDiff,reduceCtorEq,Nat.reduceAdd,Nat.reduceMul,Nat.reduceLeDiff,quietOp,blindOp,Int.reduceEq,Int.reduceLT,Int.reduceLE,Nat.reduceLT,tiA,tiXA, true_and]
      exact ⟨rfl, rfl⟩
theorem rows5_c (a b : Value) (ll : List (List Int)) (H : AH) (hn : ll.length ≤ 4294967296) (hr : ∀ j, j < ll.length → (ll.getD j []).length ≤ 4294967296) (ha : Rd2 1 H a ll) (hb : Rd2 1 H b ll) : ACalls Tryz.prog 18 [a, b] H (is (.bool true) H) := by
  refine acalls_of_awp [.tmp 4] Tryz.func18 (by kernel_rfl) rfl rfl (Nat.le_of_ble_eq_true rfl) (by kernel_rfl) ?_
  have la := ha.len
  have lb := hb.len
  try simp (disch := first | omega | (simp only [L3] <;> omega)) only [Sall,evalOp,init,binA_s,binE,binI,unE,convE,okNil,builtE,gv,TD.isAgg,resV,↓reduceIte,Nat.reduceEqDiff,reduceCtorEq,Nat.reduceAdd,Nat.reduceMul,Nat.reduceLeDiff,quietOp,blindOp,Int.reduceEq,Int.reduceLT,Int.reduceLE,Nat.reduceLT,tiA,tiXA, la, lb, builtE, bne_self_eq_false]
  refine awp_loop (fun z t H' => H' = H ∧ ∃ j : Nat, z = ll.length - j ∧ j ≤ ll.length ∧ t 5 = .int .i64 j ∧ t 0 = a ∧ t 1 = b) ll.length ?_ ?_
  · refine ⟨rfl, 0, by omega, by omega, ?_⟩
    try simp (disch := first | omega | (simp only [L3] <;> omega)) only [Sall,evalOp,init,binA_s,binE,binI,unE,convE,okNil,builtE,gv,TD.isAgg,resV,↓reduceIte,Nat.reduceEqDiff,reduceCtorEq,Nat.reduceAdd,Nat.reduceMul,Nat.reduceLeDiff,quietOp,blindOp,Int.reduceEq,Int.reduceLT,Int.reduceLE,Nat.reduceLT,tiA,tiXA, Int.natCast_zero]
  · rintro z t H' ⟨rfl, j, hz, hj, h5, h0, h1⟩
    try simp (disch := first | omega | (simp only [L3] <;> omega)) only [Sall,evalOp,init,binA_s,binE,binI,unE,convE,okNil,builtE,gv,TD.isAgg,resV,↓reduceIte,Nat.reduceEqDiff,reduceCtorEq,Nat.reduceAdd,Nat.reduceMul,Nat.reduceLeDiff,quietOp,blindOp,Int.reduceEq,Int.reduceLT,Int.reduceLE,Nat.reduceLT,tiA,tiXA, h5, h0, la, builtE]
    refine condC_dec (fun hh => ?_) (fun hh => ?_)
    · obtain ⟨ai, ao, au, ac, ar, ax, am, rfl, a1, a2, a3, a4⟩ := ha.get (j := j) (by omega)
      obtain ⟨bi, bo, bu, bc, br, bx, bm, rfl, b1, b2, b3, b4⟩ := hb.get (j := j) (by omega)
      have a5 := a3.lenK1
      have b5 := b3.lenK1
      rw [a5] at a3
      rw [b5] at b3
      have hj2 := hr j (by omega)
      try simp (disch := first | omega | (simp only [L3] <;> omega)) only [Sall,evalOp,init,binA_s,binE,binI,unE,convE,okNil,builtE,gv,TD.isAgg,resV,↓reduceIte,Nat.reduceEqDiff,reduceCtorEq,Nat.reduceAdd,Nat.reduceMul,Nat.reduceLeDiff,quietOp,blindOp,Int.reduceEq,Int.reduceLT,Int.reduceLE,Nat.reduceLT,tiA,tiXA, h5, h0, h1]
      refine draw_id (by kernel_rfl) (by kernel_rfl) ?_
      try simp (disch := first | omega | (simp only [L3] <;> omega)) only [Sall,evalOp,init,binA_s,binE,binI,unE,convE,okNil,builtE,gv,TD.isAgg,resV,↓reduceIte,Nat.reduceEqDiff,reduceCtorEq,Nat.reduceAdd,Nat.reduceMul,Nat.reduceLeDiff,quietOp,blindOp,Int.reduceEq,Int.reduceLT,Int.reduceLE,Nat.reduceLT,tiA,tiXA, h5, h0, h1, a1, a2, a4, b1, b2, b4]
      (repeat refine And.intro (by omega) ?_)
      try simp (disch := first | omega | (simp only [L3] <;> omega)) only [Sall,evalOp,init,binA_s,binE,binI,unE,convE,okNil,builtE,gv,TD.isAgg,resV,↓reduceIte,Nat.reduceEqDiff,reduceCtorEq,Nat.reduceAdd,Nat.reduceMul,Nat.reduceLeDiff,quietOp,blindOp,Int.reduceEq,Int.reduceLT,Int.reduceLE,Nat.reduceLT,tiA,tiXA, h5, h0, h1, a1, a2, a4, b1, b2, b4]
      refine (likeInts_c ax bx _ _ H' hj2 a3 b3).to ?_
      refine ⟨.inr (.inr (LE.refl _)), ?_⟩
      try simp (disch := first | omega | (simp only [L3] <;> omega)) only [Sall,evalOp,init,binA_s,binE,binI,unE,convE,okNil,builtE,gv,TD.isAgg,resV,↓reduceIte,Nat.reduceEqDiff,reduceCtorEq,Nat.reduceAdd,Nat.reduceMul,Nat.reduceLeDiff,quietOp,blindOp,Int.reduceEq,Int.reduceLT,Int.reduceLE,Nat.reduceLT,tiA,tiXA, h5, h0, h1, w64]
      exact ⟨ll.length - (j + 1), by omega, j + 1, rfl, by omega, rfl⟩
    · try simp (disch := first | omega | (simp only [L3] <;> omega)) only [Sall,evalOp,init,binA_s,binE,binI,unE,convE,okNil,builtE,gv,TD.isAgg,resV,↓reduceIte,Nat.reduceEqDiff,reduceCtorEq,Nat.reduceAdd,Nat.reduceMul,Nat.reduceLeDiff,quietOp,blindOp,Int.reduceEq,Int.reduceLT,Int.reduceLE,Nat.reduceLT,tiA,tiXA, true_and]
      exact ⟨rfl, rfl⟩
structure Dr (cv : Value) (nb : Nat) (H H1 H' : AH) (L : List Th) : Prop where
  ex : ∃ B, SrcB cv nb H.next H1 B ∧ Ow B H' L
section
variable {cv : Value} {nb : Nat} {H H1 H' : AH} {L : List Th}
theorem Dr.src (h : Dr cv nb H H1 H' L) (hn : H.next < H1.next) : Src cv nb H.next H' := by
  obtain ⟨B, b, o⟩ := h.ex; exact Ow.srcAt o b hn
theorem Dr.code (h : Dr cv nb H H1 H' L) (hx : CodeX cv nb H.next H1) (sc : Sc H1) : CodeX cv nb H.next H' := by
  obtain ⟨B, b, o⟩ := h.ex; exact hx.later fun i r hi hr => Ow.oldX o b sc i r hi hr
theorem Dr.sc (h : Dr cv nb H H1 H' L) : Sc H' := by obtain ⟨B, b, o⟩ := h.ex; exact o.sc
theorem Dr.next (h : Dr cv nb H H1 H' L) (hn : H.next < H1.next) {H2 : AH} (k : SrcB cv nb H.next H' H2) : Dr cv nb H H1 H2 L := by
  obtain ⟨B, b, o⟩ := h.ex
  obtain ⟨B2, b2, o2⟩ := Ow.src o (by rw [b.next]; exact hn) k
  exact ⟨B2, b.trans b2, o2⟩
theorem Dr.call (h : Dr cv nb H H1 H' L) (hn : H.next < H1.next) {H2 H3 : AH} {M : List Th} (k : SrcB cv nb H.next H' H2) (o3 : Ow H2 H3 M) : Dr cv nb H H1 H3 (L ++ M) := by
  obtain ⟨B, b, o⟩ := h.ex
  obtain ⟨B2, b2, o2⟩ := Ow.srcCall o (by rw [b.next]; exact hn) k o3
  exact ⟨B2, b.trans b2, o2⟩
theorem Dr.calls (h : Dr cv nb H H1 H' L) {H3 : AH} {M : List Th} (o3 : Ow H' H3 M) : Dr cv nb H H1 H3 (L ++ M) := by
  obtain ⟨B, b, o⟩ := h.ex
  exact ⟨B, b, o.call o3⟩
theorem Dr.map (h : Dr cv nb H H1 H' L) {H2 : AH} {M : List Th} (f : ∀ B, Ow B H' L → Ow B H2 M) : Dr cv nb H H1 H2 M := by
  obtain ⟨B, b, o⟩ := h.ex
  exact ⟨B, b, f B o⟩
theorem Dr.fin (h : Dr cv nb H H1 H' L) (up : Up H.next H H1) : Ow H H' L := by
  obtain ⟨B, b, o⟩ := h.ex
  exact Ow.rebase o up b (Nat.le_refl _)
end
end Go.Proofs.YtpienljnoaendaaGreat.A
end

section
namespace Go.Abs
def xorI (a b : Int) : Int := IntKind.i64.wrap ((BitVec.ofInt IntKind.i64.bits a ^^^ BitVec.ofInt IntKind.i64.bits b).toNat : Int)
def digS (x : Int) (c : Nat) : List Int := (List.range 14).map fun (a : Nat) => if a < c then xorI a x else 0
theorem digS_length (x : Int) (c : Nat) : (digS x c).length = 14 := by simp [digS]
theorem digS_zero (x : Int) : digS x 0 = List.replicate 14 0 := by
  unfold digS
  exact List.eq_replicate_iff.2 ⟨by simp, by intro b hb; obtain ⟨a, _, rfl⟩ := List.mem_map.1 hb; rfl⟩
theorem digS_succ (x : Int) (c : Nat) (hc : c < 14) : (digS x c).set c (xorI c x) = digS x (c + 1) := by
  apply List.ext_getElem?
  intro j
  rw [List.getElem?_set, digS_length]
  by_cases e : c = j
  · subst e
    rw [if_pos rfl, if_pos hc]
    unfold digS
    rw [List.getElem?_map, List.getElem?_range hc]
    simp
  · rw [if_neg e]
    unfold digS
    rw [List.getElem?_map, List.getElem?_map]
    by_cases hj : j < 14
    · rw [List.getElem?_range hj]
      simp only [Option.map_some]
      by_cases h1 : j < c
      · rw [if_pos h1, if_pos (by omega)]
      · rw [if_neg h1, if_neg (by omega)]
    · rw [List.getElem?_eq_none (by simpa using hj)]; rfl
def digL (n : Nat) (order : List Int) : List Int := order.flatMap fun x => digS x n
theorem digL_length (n : Nat) (order : List Int) : (digL n order).length = order.length * 14 := by
  unfold digL
  induction order with
  | nil => rfl
  | cons x l ih => rw [List.flatMap_cons, List.length_append, digS_length, ih, List.length_cons]; omega
theorem digL_snoc (n : Nat) (order : List Int) (x : Int) : digL n (order ++ [x]) = digL n order ++ digS x n := by simp [digL]
theorem rnd_digL (n : Nat) : ∀ (order : List Int) (i : Nat), i < order.length → rnd (digL n order) i = digS (order.getD i 0) n
  | [], i, h => by simp at h
  | x :: l, 0, _ => by
    unfold rnd digL
    rw [List.flatMap_cons, Nat.zero_mul, List.drop_zero, List.take_append_of_le_length (by simp [digS_length]), List.take_of_length_le (by simp [digS_length])]
    rfl
  | x :: l, i + 1, h => by
    have ih := rnd_digL n l i (by simpa using h)
    unfold rnd at ih ⊢
    unfold digL at ih ⊢
    rw [List.flatMap_cons, show (i + 1) * 14 = 14 + i * 14 by omega, ← List.drop_drop, List.drop_left' (digS_length _ _)]
    exact ih
theorem digS_ok : ∀ n ∈ [2, 4, 8], ∀ x : Nat, x < n → roundB (n : Int) (digS (x : Int) n) = true := by decide +kernel
theorem digL_ok {n : Nat} (hn : n ∈ [2, 4, 8]) {order : List Int} (ho : ∀ x ∈ order, 0 ≤ x ∧ x < n) (hl : order.length ≤ 40) : schedB n order.length (digL n order) = true := by
  unfold schedB
  have h2 : (2 : Int) ≤ n ∧ (n : Int) ≤ 14 := by simp only [List.mem_cons, List.not_mem_nil, or_false] at hn; omega
  rw [decide_eq_true h2, decide_eq_true hl, Bool.true_and, Bool.true_and]
  refine all_true_of fun i hi => ?_
  rw [rnd_digL n order i hi]
  have hm : order.getD i 0 ∈ order := by rw [List.getD_eq_getElem?_getD, List.getElem?_eq_getElem hi]; exact List.getElem_mem _
  obtain ⟨h3, h4⟩ := ho _ hm
  obtain ⟨x, hx⟩ : ∃ x : Nat, order.getD i 0 = x := ⟨(order.getD i 0).toNat, by omega⟩
  rw [hx] at h4 ⊢
  exact digS_ok n hn x (by omega)
def balD (n : Nat) (order : List Int) : Bool := balB (carM n order.length (digL n order) order.length)
def up1 (y : List Int) : List Int := y.map (· + 1)
theorem contains_up1 (y : List Int) (x : Int) : (up1 y).contains (x + 1) = y.contains x := by
  rw [Bool.eq_iff_iff, List.contains_iff_mem, List.contains_iff_mem]
  unfold up1
  rw [List.mem_map]
  constructor
  · rintro ⟨z, hz, e⟩
    have : z = x := by omega
    rw [← this]; exact hz
  · intro h; exact ⟨x, h, rfl⟩
theorem ordN_up1 (nums : List Int) : ∀ (f : Nat) (y : List Int), ordN (up1 nums) f (up1 y) = (ordN nums f y).map up1
  | 0, y => rfl
  | f + 1, y => by
    have h1 : ordN (up1 nums) (f + 1) (up1 y) = (up1 nums).flatMap fun x => if (up1 y).contains x = true then [] else ordN (up1 nums) f (up1 y ++ [x]) := rfl
    have h2 : ordN nums (f + 1) y = nums.flatMap fun x => if y.contains x = true then [] else ordN nums f (y ++ [x]) := rfl
    rw [h1, h2, List.map_flatMap]
    conv => lhs; unfold up1
    rw [List.flatMap_map]
    rw [List.flatMap_def, List.flatMap_def]
    congr 1
    apply List.map_congr_left
    intro x _
    show (if (up1 y).contains (x + 1) = true then [] else ordN (up1 nums) f (up1 y ++ [x + 1])) = _
    rw [contains_up1]
    split
    · rfl
    · have : up1 y ++ [x + 1] = up1 (y ++ [x]) := by simp [up1]
      rw [this, ordN_up1 nums f]
theorem seqL_up1 (m : Nat) : seqL 1 m = up1 (seqL 0 m) := by
  unfold seqL up1
  rw [List.map_map]
  apply List.map_congr_left
  intro i _
  show (1 : Int) + i = 0 + i + 1
  omega
theorem ordN_mem {nums : List Int} : ∀ (f : Nat) (y z : List Int), z ∈ ordN nums f y → z.length = y.length + f ∧ ∀ x ∈ z, x ∈ y ∨ x ∈ nums
  | 0, y, z, h => by
    simp only [ordN, List.mem_singleton] at h
    subst h
    exact ⟨rfl, fun x hx => .inl hx⟩
  | f + 1, y, z, h => by
    simp only [ordN, List.mem_flatMap] at h
    obtain ⟨x, hx, h⟩ := h
    split at h
    · simp at h
    · obtain ⟨h1, h2⟩ := ordN_mem f (y ++ [x]) z h
      refine ⟨by rw [h1]; simp; omega, fun w hw => ?_⟩
      rcases h2 w hw with h3 | h3
      · rcases List.mem_append.1 h3 with h4 | h4
        · exact .inl h4
        · rw [List.mem_singleton] at h4; rw [h4]; exact .inr hx
      · exact .inr h3
theorem mem_seqL {a : Int} {m : Nat} {x : Int} (h : x ∈ seqL a m) : a ≤ x ∧ x < a + m := by
  unfold seqL at h
  obtain ⟨i, hi, rfl⟩ := List.mem_map.1 h
  have : i < m := by simpa using hi
  constructor <;> omega
def digOrders (m : Nat) : List (List Int) := ordN (seqL 1 m) m []
theorem digOrders_map (m : Nat) : digOrders m = (ordN (seqL 0 m) m []).map up1 := by
  unfold digOrders
  rw [seqL_up1]
  exact ordN_up1 _ _ []
def isDig (n : Int) : Bool := decide (n = 2 ∨ n = 4 ∨ n = 8)
def fdR (n : Int) : List Int := if isDig n = true then ((digOrders (n.toNat - 1)).find? (balD n.toNat)).getD [] else []
def fdC (n : Int) : Int := if isDig n = true then (if ((digOrders (n.toNat - 1)).find? (balD n.toNat)).isSome = true then 0 else 4) else 2
theorem find_first {p : List Int → Bool} {L1 L2 : List (List Int)} {z : List Int} (h : ∀ w ∈ L1, p w = false) (hz : p z = true) : (L1 ++ z :: L2).find? p = some z := by
  rw [List.find?_append, List.find?_eq_none.2 (fun w hw => by simp [h w hw]), List.find?_cons, hz]; rfl
theorem fdR_length (n : Int) : (fdR n).length ≤ 7 := by
  unfold fdR
  split
  · rename_i h
    have h := of_decide_eq_true h
    cases hf : (digOrders (n.toNat - 1)).find? (balD n.toNat) with
    | none => simp
    | some z =>
      have h1 := List.mem_of_find?_eq_some hf
      have h2 := (ordN_mem _ _ _ h1).1
      show z.length ≤ 7
      rw [h2]
      simp only [List.length_nil]
      omega
  · simp
theorem find_up {p : List Int → Bool} {M : List (List Int)} {i : Nat} (hi : i < M.length) (h : p (up1 (M.getD i [])) = true) (hb : ∀ j, j < i → p (up1 (M.getD j [])) = false) : (M.map up1).find? p = some (up1 (M.getD i [])) := by
  have e : M = M.take i ++ M.getD i [] :: M.drop (i + 1) := by
    rw [List.getD_eq_getElem?_getD, List.getElem?_eq_getElem hi]
    simp
  have e2 : M.map up1 = (M.take i).map up1 ++ up1 (M.getD i []) :: (M.drop (i + 1)).map up1 := by
    conv => lhs; rw [e]
    rw [List.map_append, List.map_cons]
  rw [e2]
  refine find_first (fun w hw => ?_) h
  obtain ⟨y, hy, rfl⟩ := List.mem_map.1 hw
  obtain ⟨j, hj, rfl⟩ := List.mem_iff_getElem.1 hy
  have hj2 : j < i := by rw [List.length_take] at hj; omega
  have h3 := hb j hj2
  rw [List.getD_eq_getElem?_getD, List.getElem?_eq_getElem (by omega)] at h3
  rw [List.getElem_take]
  exact h3
theorem find_up_none {p : List Int → Bool} {M : List (List Int)} (hb : ∀ j, j < M.length → p (up1 (M.getD j [])) = false) : (M.map up1).find? p = none := by
  rw [List.find?_eq_none]
  intro w hw
  obtain ⟨y, hy, rfl⟩ := List.mem_map.1 hw
  obtain ⟨j, hj, rfl⟩ := List.mem_iff_getElem.1 hy
  have h3 := hb j hj
  rw [List.getD_eq_getElem?_getD, List.getElem?_eq_getElem hj] at h3
  simp only [Option.getD_some] at h3
  simp [h3]
theorem up1_snoc (y : List Int) (k : Nat) (hk : k < y.length) : up1 (y.take (k + 1)) = up1 (y.take k) ++ [y.getD k 0 + 1] := by
  unfold up1
  rw [List.take_add_one, List.getElem?_eq_getElem hk, List.map_append, List.getD_eq_getElem?_getD, List.getElem?_eq_getElem hk]
  rfl
theorem up1_length (y : List Int) : (up1 y).length = y.length := by simp [up1]
end Go.Abs
end

section
set_option maxRecDepth 100000
set_option maxHeartbeats 2000000
namespace Go.Proofs.YtpienljnoaendaaGreat.A
open Go Go.Abs Go.RowKit
theorem isDigit_c (n : Int) (H : AH) : ACalls Tryz.prog 205 [.int .i64 n] H (is (.bool (decide (n = 2 ∨ n = 4 ∨ n = 8))) H) := by
  refine acalls_of_awp [.tmp 2] Tryz.func205 (by kernel_rfl) rfl rfl (Nat.le_of_ble_eq_true rfl) (by kernel_rfl) ?_
  by_cases h2 : n = 2
  · have e1 : (n == 2) = true := by simpa using h2
    try simp (disch := first | omega | (simp only [L3] <;> omega)) only [Sall,evalOp,init,binA_s,binE,binI,unE,convE,okNil,builtE,gv,TD.isAgg,resV,↓reduceIte,Nat.reduceEqDiff,reduceCtorEq,Nat.reduceAdd,Nat.reduceMul,Nat.reduceLeDiff,quietOp,blindOp,Int.reduceEq,Int.reduceLT,Int.reduceLE,Nat.reduceLT,tiA, e1, is]
    rw [decide_eq_true (.inl h2)]
  · have e1 : (n == 2) = false := by simpa using h2
    by_cases h4 : n = 4
    · have e2 : (n == 4) = true := by simpa using h4
      try simp (disch := first | omega | (simp only [L3] <;> omega)) only [Sall,evalOp,init,binA_s,binE,binI,unE,convE,okNil,builtE,gv,TD.isAgg,resV,↓reduceIte,Nat.reduceEqDiff,reduceCtorEq,Nat.reduceAdd,Nat.reduceMul,Nat.reduceLeDiff,quietOp,blindOp,Int.reduceEq,Int.reduceLT,Int.reduceLE,Nat.reduceLT,tiA, e1, e2, is]
      rw [decide_eq_true (.inr (.inl h4))]
    · have e2 : (n == 4) = false := by simpa using h4
      by_cases h8 : n = 8
      · have e3 : (n == 8) = true := by simpa using h8
        try simp (disch := first | omega | (simp only [L3] <;> omega)) only [Sall,evalOp,init,binA_s,binE,binI,unE,convE,okNil,builtE,gv,TD.isAgg,resV,↓reduceIte,Nat.reduceEqDiff,reduceCtorEq,Nat.reduceAdd,Nat.reduceMul,Nat.reduceLeDiff,quietOp,blindOp,Int.reduceEq,Int.reduceLT,Int.reduceLE,Nat.reduceLT,tiA, e1, e2, e3, is]
        rw [decide_eq_true (.inr (.inr h8))]
      · have e3 : (n == 8) = false := by simpa using h8
        try simp (disch := first | omega | (simp only [L3] <;> omega)) only [Sall,evalOp,init,binA_s,binE,binI,unE,convE,okNil,builtE,gv,TD.isAgg,resV,↓reduceIte,Nat.reduceEqDiff,reduceCtorEq,Nat.reduceAdd,Nat.reduceMul,Nat.reduceLeDiff,quietOp,blindOp,Int.reduceEq,Int.reduceLT,Int.reduceLE,Nat.reduceLT,tiA, e1, e2, e3, is]
        rw [decide_eq_false (by omega)]
theorem digitRobin_c (n : Nat) (v : Value) (y : List Int) (H : AH) (hn : n ≤ 14) (hv : Rd 1 H v y.length y) (hy : y.length ≤ 64) : ACalls Tryz.prog 209 [.int .i64 n, v] H (FrS n y.length (digL n y) H) := by
  refine ACalls.wf (by kernel_rfl) fun hs => acalls_of_awp [.cell 4 26] Tryz.func209 (by kernel_rfl) rfl rfl (Nat.le_of_ble_eq_true rfl) (by kernel_rfl) ?_
  try simp (disch := first | omega | (simp only [L3] <;> omega)) only [Sall,evalOp,init,binA_s,binE,binI,unE,convE,okNil,builtE,gv,TD.isAgg,resV,↓reduceIte,Nat.reduceEqDiff,reduceCtorEq,Nat.reduceAdd,Nat.reduceMul,Nat.reduceLeDiff,quietOp,blindOp,Int.reduceEq,Int.reduceLT,Int.reduceLE,Nat.reduceLT,tiA, builtE, hv.len]
  refine awp_loop (fun m t H' => ∃ (c : Nat) (u : Value), m = y.length - c ∧ c ≤ y.length ∧ t 14 = .int .i64 c ∧ t 13 = .int .i64 y.length ∧ t 12 = v ∧ t 0 = .int .i64 n ∧ t 4 = .pointer (some ⟨H.next, 0, none⟩) ∧ t 5 = .pointer (some ⟨H.next + 1, 0, none⟩) ∧
    Up H.next H H' ∧ H.next + 2 ≤ H'.next ∧ H'.row H.next = some ⟨26, true, [.int .i64 0, .slice none 0 0]⟩ ∧ H'.row (H.next + 1) = some ⟨26, true, [.int .i64 n, u]⟩ ∧ Fr 14 69 (H.next + 2) H'.next H' u c (digL n (y.take c))) y.length ?_ ?_
  · refine ⟨0, .slice none 0 0, by omega, by omega, ?_⟩
    try simp (disch := first | omega | (simp only [L3] <;> omega)) only [Sall,evalOp,init,binA_s,binE,binI,unE,convE,okNil,builtE,gv,TD.isAgg,resV,↓reduceIte,Nat.reduceEqDiff,reduceCtorEq,Nat.reduceAdd,Nat.reduceMul,Nat.reduceLeDiff,quietOp,blindOp,Int.reduceEq,Int.reduceLT,Int.reduceLE,Nat.reduceLT,tiA, Int.natCast_zero, List.take_zero]
    exact ⟨(((Up.refl _ H).push (by omega) _).push (Nat.le_succ _) _).set (by omega) _, by simp [digL], .inl ⟨rfl, rfl⟩⟩
  · rintro m t H' ⟨c, u, hm, hcn, h14, h13, h12, h0, h4, h5, hup, hnx, hr0, hr1, hfr⟩
    try simp (disch := first | omega | (simp only [L3] <;> omega)) only [Sall,evalOp,init,binA_s,binE,binI,unE,convE,okNil,builtE,gv,TD.isAgg,resV,↓reduceIte,Nat.reduceEqDiff,reduceCtorEq,Nat.reduceAdd,Nat.reduceMul,Nat.reduceLeDiff,quietOp,blindOp,Int.reduceEq,Int.reduceLT,Int.reduceLE,Nat.reduceLT,tiA, h14, h13]
    refine condC_dec (fun h => ?_) (fun h => ?_)
    · obtain ⟨i, o, uu, cc, r, rfl, hr, hc', hg, _⟩ := hv.get (by omega)
      have hi := hs _ _ hr
      have hr' : H'.row i = some r := by rw [hup.row _ hi, hr]
      have g1 := hg c (by omega)
      have htk : y.take (c + 1) = y.take c ++ [y.getD c 0] := by rw [List.take_add_one, List.getElem?_eq_getElem (by omega), List.getD_eq_getElem?_getD, List.getElem?_eq_getElem (by omega)]; rfl
      revert g1 htk
      generalize y.getD c 0 = x
      intro g1 htk
      have hz14 : (List.replicate 14 (0 : Int)).length = 14 := by simp
      try simp (disch := first | omega | (simp only [L3] <;> omega)) only [Sall,evalOp,init,binA_s,binE,binI,unE,convE,okNil,builtE,gv,TD.isAgg,resV,↓reduceIte,Nat.reduceEqDiff,reduceCtorEq,Nat.reduceAdd,Nat.reduceMul,Nat.reduceLeDiff,quietOp,blindOp,Int.reduceEq,Int.reduceLT,Int.reduceLE,Nat.reduceLT,tiA, h14, h12, h0, hr', g1, push_setCells, hz14]
      (repeat refine And.intro (by omega) ?_)
      obtain ⟨H2, e2⟩ : ∃ H2, H2 = H'.push ⟨69, true, ints (List.replicate 14 0)⟩ := ⟨_, rfl⟩
      have n2 : H2.next = H'.next + 1 := by rw [e2]; rfl
      have s2 : ∀ i, i < H'.next → H2.row i = H'.row i := fun i hi => by rw [e2, AH.push_row, if_neg (by omega)]
      have r2 : H2.row H'.next = some ⟨69, true, ints (List.replicate 14 0)⟩ := by rw [e2, AH.push_row, if_pos rfl]
      rw [← e2]
      clear e2
      refine awp_loop (fun z t H3 => ∃ d : Nat, z = n - d ∧ d ≤ n ∧ t 20 = .int .i64 d ∧ t 19 = .int .i64 n ∧ t 7 = .int .i64 x ∧ t 8 = .pointer (some ⟨H'.next, 0, none⟩) ∧ t 14 = .int .i64 c ∧ t 13 = .int .i64 y.length ∧ t 12 = .slice (some ⟨i, o, uu⟩) y.length cc ∧ t 0 = .int .i64 n ∧ t 4 = .pointer (some ⟨H.next, 0, none⟩) ∧ t 5 = .pointer (some ⟨H.next + 1, 0, none⟩) ∧
        H3.next = H'.next + 1 ∧ (∀ i, i < H'.next → H3.row i = H'.row i) ∧ H3.row H'.next = some ⟨69, true, ints (digS x d)⟩) n ?_ ?_
      · refine ⟨0, by omega, by omega, ?_⟩
        try simp (disch := first | omega | (simp only [L3] <;> omega)) only [Sall,evalOp,init,binA_s,binE,binI,unE,convE,okNil,builtE,gv,TD.isAgg,resV,↓reduceIte,Nat.reduceEqDiff,reduceCtorEq,Nat.reduceAdd,Nat.reduceMul,Nat.reduceLeDiff,quietOp,blindOp,Int.reduceEq,Int.reduceLT,Int.reduceLE,Nat.reduceLT,tiA, Int.natCast_zero, h14, h13, h12, h0, h4, h5, digS_zero]
        exact ⟨n2, s2, r2⟩
      · rintro z t H3 ⟨d, hz, hdn, h20, h19, h7, h8, h14, h13, h12, h0, h4, h5, n3, s3, r3⟩
        try simp (disch := first | omega | (simp only [L3] <;> omega)) only [Sall,evalOp,init,binA_s,binE,binI,unE,convE,okNil,builtE,gv,TD.isAgg,resV,↓reduceIte,Nat.reduceEqDiff,reduceCtorEq,Nat.reduceAdd,Nat.reduceMul,Nat.reduceLeDiff,quietOp,blindOp,Int.reduceEq,Int.reduceLT,Int.reduceLE,Nat.reduceLT,tiA, h20, h19]
        refine condC_dec (fun hh => ?_) (fun hh => ?_)
        · have hdl := digS_length x d
          have hds := digS_succ x d (by omega)
          have hx0 : IntKind.i64.wrap ((BitVec.ofInt IntKind.i64.bits (d : Int) ^^^ BitVec.ofInt IntKind.i64.bits x).toNat : Int) = xorI d x := rfl
          try simp (disch := first | omega | (simp only [L3] <;> omega)) only [Sall,evalOp,init,binA_s,binE,binI,unE,convE,okNil,builtE,gv,TD.isAgg,resV,↓reduceIte,Nat.reduceEqDiff,reduceCtorEq,Nat.reduceAdd,Nat.reduceMul,Nat.reduceLeDiff,quietOp,blindOp,Int.reduceEq,Int.reduceLT,Int.reduceLE,Nat.reduceLT,tiA, h20, h19, h7, h8, h14, h13, h12, h0, h4, h5, r3, w64, hx0, ints_set, hds]
          (repeat refine And.intro (by omega) ?_)
          refine ⟨n - (d + 1), by omega, d + 1, rfl, by omega, rfl, n3, fun j hj => by rw [if_neg (by omega)]; exact s3 j hj, rfl⟩
        · have hd : d = n := by omega
          subst hd
          have hcl := digS_length x d
          have g1 : H3.row (H.next + 1) = some ⟨26, true, [.int .i64 d, u]⟩ := by rw [s3 _ (by omega), hr1]
          have gf : Fr 14 69 (H.next + 2) H'.next H3 u c (digL d (y.take c)) := hfr.same fun i _ hi => s3 i hi
          have ne1 : ¬ (H.next + 1 = H'.next) := by omega
          have ne1' : ¬ (H.next + 1 = H'.next + 1) := by omega
          try simp (disch := first | omega | (simp only [L3] <;> omega)) only [Sall,evalOp,init,binA_s,binE,binI,unE,convE,okNil,builtE,gv,TD.isAgg,resV,↓reduceIte,Nat.reduceEqDiff,reduceCtorEq,Nat.reduceAdd,Nat.reduceMul,Nat.reduceLeDiff,quietOp,blindOp,Int.reduceEq,Int.reduceLT,Int.reduceLE,Nat.reduceLT,tiA, h5, h8, g1, r3, n3, hcl, slCells, zeros_one, ne_eq, reduceCtorEq, ne1, ne1']
          have h3f : Fr 14 69 (H.next + 2) H'.next (H3.push ⟨69, true, ints (digS x d)⟩) u c (digL d (y.take c)) := gf.same fun i _ hi => by rw [AH.push_row, if_neg (by omega)]
          refine appE_fr h3f rfl (by omega) (by rw [hcl]) (by omega) (by decide) (by omega) (by rw [AH.push_next]; omega) ?_
          intro v' H4 k1 k2 k3
          rw [AH.push_next] at k1 k2 k3
          have k4 : H4.row (H.next + 1) = some ⟨26, true, [.int .i64 d, u]⟩ := by rw [k2 _ (by omega) (by omega), AH.push_row, if_neg (by omega), g1]
          have k5 := k3.rd.one
          try simp (disch := first | omega | (simp only [L3] <;> omega)) only [Sall,evalOp,init,binA_s,binE,binI,unE,convE,okNil,builtE,gv,TD.isAgg,resV,↓reduceIte,Nat.reduceEqDiff,reduceCtorEq,Nat.reduceAdd,Nat.reduceMul,Nat.reduceLeDiff,quietOp,blindOp,Int.reduceEq,Int.reduceLT,Int.reduceLE,Nat.reduceLT,tiA, h14, h13, h12, h0, h4, h5, k4, k5, w64, List.set_cons_succ, List.set_cons_zero]
          refine ⟨y.length - (c + 1), by omega, c + 1, v', rfl, by omega, rfl, ?_, by omega, ?_, ?_⟩
          · refine Up.set ⟨by have := hup.next; omega, fun i hi => ?_⟩ (by omega) _
            rw [k2 i (by omega) (by omega), AH.push_row, if_neg (by omega), s3 i (by omega), hup.row i hi]
          · rw [k2 _ (by omega) (by omega), AH.push_row, if_neg (by omega), s3 _ (by omega), hr0]
          · rw [htk, digL_snoc]
            refine ⟨rfl, (Fr.wide k3 (lo' := H.next + 2) (hi' := H4.next) (by omega) (by omega)).same ?_⟩
            intro i hi _
            rw [AH.setCells_row, if_neg (by omega)]
    · have hc : c = y.length := by omega
      subst hc
      rw [List.take_length] at hfr
      have hne : ¬ (H.next + 1 = H.next) := by omega
      try simp (disch := first | omega | (simp only [L3] <;> omega)) only [Sall,evalOp,init,binA_s,binE,binI,unE,convE,okNil,builtE,gv,TD.isAgg,resV,↓reduceIte,Nat.reduceEqDiff,reduceCtorEq,Nat.reduceAdd,Nat.reduceMul,Nat.reduceLeDiff,quietOp,blindOp,Int.reduceEq,Int.reduceLT,Int.reduceLE,Nat.reduceLT,tiA, h4, h5, hr0, hr1]
      refine ⟨u, rfl, hup.set (Nat.le_refl _) _, ?_⟩
      exact (Fr.wide (hfr.same (H' := H'.setCells H.next [.int .i64 n, u]) fun i hi _ => by rw [AH.setCells_row, if_neg (by omega)]) (by omega) (by rw [AH.setCells_next]; omega))
theorem l09Robin_c (n : Nat) (v : Value) (y : List Int) (H : AH) (hn : n ≤ 14) (hv : Rd 1 H v y.length y) (hy : y.length ≤ 64) : ACalls Tryz.prog 211 [.int .i64 n, v] H (FrS n y.length (digL n y) H) := by
  refine ACalls.wf (by kernel_rfl) fun hs => acalls_of_awp [.cell 4 26] Tryz.func211 (by kernel_rfl) rfl rfl (Nat.le_of_ble_eq_true rfl) (by kernel_rfl) ?_
  try simp (disch := first | omega | (simp only [L3] <;> omega)) only [Sall,evalOp,init,binA_s,binE,binI,unE,convE,okNil,builtE,gv,TD.isAgg,resV,↓reduceIte,Nat.reduceEqDiff,reduceCtorEq,Nat.reduceAdd,Nat.reduceMul,Nat.reduceLeDiff,quietOp,blindOp,Int.reduceEq,Int.reduceLT,Int.reduceLE,Nat.reduceLT,tiA, zeros_zero]
  refine awp_loop (fun m t H' => ∃ (c : Nat) (u : Value) (lo hi : Nat), m = y.length - c ∧ c ≤ y.length ∧ t 6 = .int .i64 c ∧ t 1 = v ∧ t 0 = .int .i64 n ∧ t 4 = .pointer (some ⟨H.next, 0, none⟩) ∧ t 5 = .pointer (some ⟨H.next + 2, 0, none⟩) ∧
    Up H.next H H' ∧ H'.row H.next = some ⟨26, true, [.int .i64 0, .slice none 0 0]⟩ ∧ H'.row (H.next + 2) = some ⟨26, true, [.int .i64 n, u]⟩ ∧ Fr 14 69 lo hi H' u c (digL n (y.take c)) ∧ H.next < lo ∧ hi ≤ H'.next ∧ (hi ≤ H.next + 2 ∨ H.next + 2 < lo) ∧ H.next + 3 ≤ H'.next) y.length ?_ ?_
  · refine ⟨0, .slice (some ⟨H.next + 1, 0, some 14⟩) 0 0, H.next + 1, H.next + 2, by omega, by omega, ?_⟩
    try simp (disch := first | omega | (simp only [L3] <;> omega)) only [Sall,evalOp,init,binA_s,binE,binI,unE,convE,okNil,builtE,gv,TD.isAgg,resV,↓reduceIte,Nat.reduceEqDiff,reduceCtorEq,Nat.reduceAdd,Nat.reduceMul,Nat.reduceLeDiff,quietOp,blindOp,Int.reduceEq,Int.reduceLT,Int.reduceLE,Nat.reduceLT,tiA, Int.natCast_zero, List.take_zero]
    exact ⟨((((Up.refl _ H).push (by omega) _).push (Nat.le_succ _) _).push (Nat.le_succ_of_le (Nat.le_succ _)) _).set (by omega) _, ⟨by simp [digL], .inr ⟨H.next + 1, by omega, by omega, rfl, by simp [AH.push_row, AH.setCells_row, AH.push_next, digL, ints]⟩⟩, by omega, by omega⟩
  · rintro m t H' ⟨c, u, lo, hi9, hm, hcn, h6, h1, h0, h4, h5, hup, hr0, hr1, hfr, hlo, hhi, hdj, hnx⟩
    try simp (disch := first | omega | (simp only [L3] <;> omega)) only [Sall,evalOp,init,binA_s,binE,binI,unE,convE,okNil,builtE,gv,TD.isAgg,resV,↓reduceIte,Nat.reduceEqDiff,reduceCtorEq,Nat.reduceAdd,Nat.reduceMul,Nat.reduceLeDiff,quietOp,blindOp,Int.reduceEq,Int.reduceLT,Int.reduceLE,Nat.reduceLT,tiA, h6, h1, builtE, hv.len]
    refine condC_dec (fun h => ?_) (fun h => ?_)
    · obtain ⟨i, o, uu, cc, r, rfl, hr, hc', hg, _⟩ := hv.get (by omega)
      have hi := hs _ _ hr
      have hr' : H'.row i = some r := by rw [hup.row _ hi, hr]
      have g1 := hg c (by omega)
      have htk : y.take (c + 1) = y.take c ++ [y.getD c 0] := by rw [List.take_add_one, List.getElem?_eq_getElem (by omega), List.getD_eq_getElem?_getD, List.getElem?_eq_getElem (by omega)]; rfl
      revert g1 htk
      generalize y.getD c 0 = x
      intro g1 htk
      have hz14 : (List.replicate 14 (0 : Int)).length = 14 := by simp
      try simp (disch := first | omega | (simp only [L3] <;> omega)) only [Sall,evalOp,init,binA_s,binE,binI,unE,convE,okNil,builtE,gv,TD.isAgg,resV,↓reduceIte,Nat.reduceEqDiff,reduceCtorEq,Nat.reduceAdd,Nat.reduceMul,Nat.reduceLeDiff,quietOp,blindOp,Int.reduceEq,Int.reduceLT,Int.reduceLE,Nat.reduceLT,tiA, h6, h1, h0, push_setCells, hz14]
      obtain ⟨H2, e2⟩ : ∃ H2, H2 = H'.push ⟨69, true, ints (List.replicate 14 0)⟩ := ⟨_, rfl⟩
      have n2 : H2.next = H'.next + 1 := by rw [e2]; rfl
      have s2 : ∀ i, i < H'.next → H2.row i = H'.row i := fun i hi => by rw [e2, AH.push_row, if_neg (by omega)]
      have r2 : H2.row H'.next = some ⟨69, true, ints (List.replicate 14 0)⟩ := by rw [e2, AH.push_row, if_pos rfl]
      rw [← e2]
      clear e2
      refine awp_loop (fun z t H3 => ∃ d : Nat, z = n - d ∧ d ≤ n ∧ t 8 = .int .i64 d ∧ t 7 = .pointer (some ⟨H'.next, 0, none⟩) ∧ t 6 = .int .i64 c ∧ t 1 = .slice (some ⟨i, o, uu⟩) y.length cc ∧ t 0 = .int .i64 n ∧ t 4 = .pointer (some ⟨H.next, 0, none⟩) ∧ t 5 = .pointer (some ⟨H.next + 2, 0, none⟩) ∧
        H3.next = H'.next + 1 ∧ (∀ i, i < H'.next → H3.row i = H'.row i) ∧ H3.row H'.next = some ⟨69, true, ints (digS x d)⟩) n ?_ ?_
      · refine ⟨0, by omega, by omega, ?_⟩
        try simp (disch := first | omega | (simp only [L3] <;> omega)) only [Sall,evalOp,init,binA_s,binE,binI,unE,convE,okNil,builtE,gv,TD.isAgg,resV,↓reduceIte,Nat.reduceEqDiff,reduceCtorEq,Nat.reduceAdd,Nat.reduceMul,Nat.reduceLeDiff,quietOp,blindOp,Int.reduceEq,Int.reduceLT,Int.reduceLE,Nat.reduceLT,tiA, Int.natCast_zero, h6, h1, h0, h4, h5, digS_zero]
        exact ⟨n2, s2, r2⟩
      · rintro z t H3 ⟨d, hz, hdn, h8, h7, h6, h1, h0, h4, h5, n3, s3, r3⟩
        try simp (disch := first | omega | (simp only [L3] <;> omega)) only [Sall,evalOp,init,binA_s,binE,binI,unE,convE,okNil,builtE,gv,TD.isAgg,resV,↓reduceIte,Nat.reduceEqDiff,reduceCtorEq,Nat.reduceAdd,Nat.reduceMul,Nat.reduceLeDiff,quietOp,blindOp,Int.reduceEq,Int.reduceLT,Int.reduceLE,Nat.reduceLT,tiA, h8, h0]
        refine condC_dec (fun hh => ?_) (fun hh => ?_)
        · have hdl := digS_length x d
          have hds := digS_succ x d (by omega)
          have hx0 : IntKind.i64.wrap ((BitVec.ofInt IntKind.i64.bits (d : Int) ^^^ BitVec.ofInt IntKind.i64.bits x).toNat : Int) = xorI d x := rfl
          have hr3 : H3.row i = some r := by rw [s3 _ (by have := hup.next; omega), hr']
          try simp (disch := first | omega | (simp only [L3] <;> omega)) only [Sall,evalOp,init,binA_s,binE,binI,unE,convE,okNil,builtE,gv,TD.isAgg,resV,↓reduceIte,Nat.reduceEqDiff,reduceCtorEq,Nat.reduceAdd,Nat.reduceMul,Nat.reduceLeDiff,quietOp,blindOp,Int.reduceEq,Int.reduceLT,Int.reduceLE,Nat.reduceLT,tiA, h8, h7, h6, h1, h0, h4, h5, r3, hr3, g1, w64, hx0, ints_set, hds]
          (repeat refine And.intro (by omega) ?_)
          refine ⟨n - (d + 1), by omega, d + 1, rfl, by omega, rfl, n3, fun j hj => by rw [if_neg (by omega)]; exact s3 j hj, rfl⟩
        · have hd : d = n := by omega
          subst hd
          have hcl := digS_length x d
          have g1 : H3.row (H.next + 2) = some ⟨26, true, [.int .i64 d, u]⟩ := by rw [s3 _ (by omega), hr1]
          have gf : Fr 14 69 lo hi9 H3 u c (digL d (y.take c)) := hfr.same fun i _ hi => s3 i (by omega)
          have ne1 : ¬ (H.next + 2 = H'.next) := by omega
          have ne1' : ¬ (H.next + 2 = H'.next + 1) := by omega
          try simp (disch := first | omega | (simp only [L3] <;> omega)) only [Sall,evalOp,init,binA_s,binE,binI,unE,convE,okNil,builtE,gv,TD.isAgg,resV,↓reduceIte,Nat.reduceEqDiff,reduceCtorEq,Nat.reduceAdd,Nat.reduceMul,Nat.reduceLeDiff,quietOp,blindOp,Int.reduceEq,Int.reduceLT,Int.reduceLE,Nat.reduceLT,tiA, h5, h7, g1, r3, n3, hcl, slCells, zeros_one, ne_eq, reduceCtorEq, ne1, ne1']
          have h3f : Fr 14 69 lo hi9 (H3.push ⟨69, true, ints (digS x d)⟩) u c (digL d (y.take c)) := gf.same fun i _ hi => by rw [AH.push_row, if_neg (by omega)]
          refine appE_fr h3f rfl (by omega) (by rw [hcl]) (by omega) (by decide) (by omega) (by rw [AH.push_next]; omega) ?_
          intro v' H4 k1 k2 k3
          rw [AH.push_next] at k1 k2 k3
          have k4 : H4.row (H.next + 2) = some ⟨26, true, [.int .i64 d, u]⟩ := by rw [k2 _ (by omega) (by omega), AH.push_row, if_neg (by omega), g1]
          have k5 := k3.rd.one
          try simp (disch := first | omega | (simp only [L3] <;> omega)) only [Sall,evalOp,init,binA_s,binE,binI,unE,convE,okNil,builtE,gv,TD.isAgg,resV,↓reduceIte,Nat.reduceEqDiff,reduceCtorEq,Nat.reduceAdd,Nat.reduceMul,Nat.reduceLeDiff,quietOp,blindOp,Int.reduceEq,Int.reduceLT,Int.reduceLE,Nat.reduceLT,tiA, h6, h1, h0, h4, h5, k4, k5, w64, List.set_cons_succ, List.set_cons_zero]
          refine ⟨y.length - (c + 1), by omega, c + 1, v', H3.next + 1, H3.next + 2, rfl, by omega, rfl, ?_, ?_, rfl, ?_, by omega, by omega, .inr (by omega), by omega⟩
          · refine Up.set ⟨by have := hup.next; omega, fun i hi => ?_⟩ (by omega) _
            rw [k2 i (by omega) (by omega), AH.push_row, if_neg (by omega), s3 i (by omega), hup.row i hi]
          · rw [k2 _ (by omega) (by omega), AH.push_row, if_neg (by omega), s3 _ (by omega), hr0]
          · rw [htk, digL_snoc]
            refine Fr.same k3 ?_
            intro i hi _
            rw [AH.setCells_row, if_neg (by omega)]
    · have hc : c = y.length := by omega
      subst hc
      rw [List.take_length] at hfr
      try simp (disch := first | omega | (simp only [L3] <;> omega)) only [Sall,evalOp,init,binA_s,binE,binI,unE,convE,okNil,builtE,gv,TD.isAgg,resV,↓reduceIte,Nat.reduceEqDiff,reduceCtorEq,Nat.reduceAdd,Nat.reduceMul,Nat.reduceLeDiff,quietOp,blindOp,Int.reduceEq,Int.reduceLT,Int.reduceLE,Nat.reduceLT,tiA, h4, h5, hr0, hr1]
      refine ⟨u, rfl, hup.set (Nat.le_refl _) _, ?_⟩
      exact (Fr.wide (hfr.same (H' := H'.setCells H.next [.int .i64 n, u]) fun i hi _ => by rw [AH.setCells_row, if_neg (by omega)]) (by omega) (by rw [AH.setCells_next]; omega))
end Go.Proofs.YtpienljnoaendaaGreat.A
end
