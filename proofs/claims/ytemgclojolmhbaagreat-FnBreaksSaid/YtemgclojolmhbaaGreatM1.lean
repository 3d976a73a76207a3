/- A small logic of my own over the kit's walk: an abstract heap of rows without capacities and draws; values, worlds and heaps related by a renaming of blocks. No program is named here. And what follows. -/
import Derived.WalkKit
import Derived.Laws.CopyRow
import Derived.Laws.MakeOwn
import Derived.Laws.Slices
import Derived.Orders
import Derived.WalkSpells
import Derived.ChangeKeysEq
import Derived.Laws.StructEq
import Derived.Lib.AppendZeros
set_option linter.unusedSimpArgs false
set_option linter.unusedVariables false
section
namespace Go.Abs
open Go Go.RowKit
structure Row where
  ty : TypeId
  rw : Bool
  cells : List Value
def Row.ok (r : Row) (vs : List Value) : Prop := r.rw = true ∨ ∀ v ∈ vs, v.oneCell' = true
structure AH where
  next : Nat
  row : Nat → Option Row
namespace AH
def push (H : AH) (r : Row) : AH := ⟨H.next + 1, fun i => if i = H.next then some r else H.row i⟩
def setCells (H : AH) (i : Nat) (cs : List Value) : AH := ⟨H.next, fun j => if j = i then (H.row i).map (fun r => { r with cells := cs }) else H.row j⟩
def drop (H : AH) (i : Nat) : AH := ⟨H.next, fun j => if j = i then none else H.row j⟩
theorem push_row (H : AH) (r : Row) (i : Nat) : (H.push r).row i = if i = H.next then some r else H.row i := (rfl)
theorem push_next (H : AH) (r : Row) : (H.push r).next = H.next + 1 := (rfl)
theorem setCells_row (H : AH) (i : Nat) (cs : List Value) (j : Nat) : (H.setCells i cs).row j = if j = i then (H.row i).map (fun r => { r with cells := cs }) else H.row j := (rfl)
theorem setCells_next (H : AH) (i : Nat) (cs : List Value) : (H.setCells i cs).next = H.next := (rfl)
theorem drop_row (H : AH) (i j : Nat) : (H.drop i).row j = if j = i then none else H.row j := (rfl)
theorem drop_next (H : AH) (i : Nat) : (H.drop i).next = H.next := (rfl)
end AH
def scal : Value → Bool
  | .bool _ | .int _ _ | .string _ | .pointer none | .slice none 0 0 | .nilFunc | .map none => true
  | _ => false
def bsz (w : World) (b : Nat) : Option Nat :=
  match w.heap[b]? with
  | some (.cells cs _ _) => some cs.size
  | _ => none
section
variable (ρ : Nat → Nat) (nx : Nat) (w : World)
inductive V1 : Value → Value → Prop
  | scal (v : Value) (h : scal v = true) : V1 v v
  | ptr (i o : Nat) (h : i < nx) : V1 (.pointer (some ⟨i, o, none⟩)) (.pointer (some ⟨ρ i, o, none⟩))
  | sle (i o n c : Nat) (h : i < nx) : V1 (.slice (some ⟨i, o, none⟩) n c) (.slice (some ⟨ρ i, o, none⟩) n c)
  | slu (i o n c e : Nat) (a : Addr) (c' : Nat) (h : i < nx) (hn : n ≤ c') (hr : (a = ⟨ρ i, o, none⟩ ∧ bsz w (ρ i) = some (o + c' * e) ∧ c' ≤ 9223372036854775807) ∨ (n = 0 ∧ 0 < o)) :
      V1 (.slice (some ⟨i, o, some e⟩) n c) (.slice (some a) n c')
  | func (fn : Fn) (xs ys : Array Value) (hl : xs.size = ys.size) (h : ∀ (j : Nat) (x y : Value), xs[j]? = some x → ys[j]? = some y → V1 x y) :
      V1 (.func fn #[] xs) (.func fn #[] ys)
  | map (i : Nat) (h : i < nx) : V1 (.map (some i)) (.map (some (ρ i)))
inductive VR : Value → Value → Prop
  | one {v v' : Value} (h : V1 ρ nx w v v') : VR v v'
  | agg (xs ys : Array Value) (hl : xs.size = ys.size) (h : ∀ (j : Nat) (x y : Value), xs[j]? = some x → ys[j]? = some y → V1 ρ nx w x y) : VR (.agg xs) (.agg ys)
  | tuple (xs ys : Array Value) (hl : xs.size = ys.size) (h : ∀ (j : Nat) (x y : Value), xs[j]? = some x → ys[j]? = some y → VR x y) : VR (.tuple xs) (.tuple ys)
end
def L1 (ρ : Nat → Nat) (nx : Nat) (w : World) (xs ys : List Value) : Prop :=
  xs.length = ys.length ∧ ∀ (j : Nat) (x y : Value), xs[j]? = some x → ys[j]? = some y → V1 ρ nx w x y
def LV (ρ : Nat → Nat) (nx : Nat) (w : World) (xs ys : List Value) : Prop :=
  xs.length = ys.length ∧ ∀ (j : Nat) (x y : Value), xs[j]? = some x → ys[j]? = some y → VR ρ nx w x y
structure Ext (base : Nat) (ρ : Nat → Nat) (nx : Nat) (w : World) (ρ' : Nat → Nat) (nx' : Nat) (w' : World) : Prop where
  le : nx ≤ nx'
  ag : ∀ i, i < nx → ρ' i = ρ i
  bl : Below base w w'
  st : ∀ b k, bsz w b = some k → bsz w' b = some k
theorem Ext.refl (base : Nat) (ρ : Nat → Nat) (nx : Nat) (w : World) : Ext base ρ nx w ρ nx w :=
  ⟨Nat.le_refl _, fun _ _ => rfl, Below.refl _ _, fun _ _ h => h⟩
theorem Ext.trans {base : Nat} {ρ ρ1 ρ2 : Nat → Nat} {nx nx1 nx2 : Nat} {w w1 w2 : World} (h : Ext base ρ nx w ρ1 nx1 w1) (k : Ext base ρ1 nx1 w1 ρ2 nx2 w2) :
    Ext base ρ nx w ρ2 nx2 w2 :=
  ⟨Nat.le_trans h.le k.le, fun i hi => (k.ag i (Nat.lt_of_lt_of_le hi h.le)).trans (h.ag i hi), h.bl.trans k.bl, fun b n hb => k.st b n (h.st b n hb)⟩
section
variable {base : Nat} {ρ ρ' : Nat → Nat} {nx nx' : Nat} {w w' : World}
theorem V1.ext (h : Ext base ρ nx w ρ' nx' w') {v v' : Value} (k : V1 ρ nx w v v') : V1 ρ' nx' w' v v' := by
  induction k with
  | scal v hs => exact .scal v hs
  | ptr i o hi => rw [← h.ag i hi]; exact .ptr i o (Nat.lt_of_lt_of_le hi h.le)
  | sle i o n c hi => rw [← h.ag i hi]; exact .sle i o n c (Nat.lt_of_lt_of_le hi h.le)
  | slu i o n c e a c' hi hn hr =>
    refine .slu i o n c e a c' (Nat.lt_of_lt_of_le hi h.le) hn (hr.imp (fun ⟨a, b, d⟩ => ⟨?_, ?_, d⟩) id)
    · rw [h.ag i hi]; exact a
    · rw [h.ag i hi]; exact h.st _ _ b
  | func fn xs ys hl _ ih => exact .func fn xs ys hl ih
  | map i hi => rw [← h.ag i hi]; exact .map i (Nat.lt_of_lt_of_le hi h.le)
theorem VR.ext (h : Ext base ρ nx w ρ' nx' w') {v v' : Value} (k : VR ρ nx w v v') : VR ρ' nx' w' v v' := by
  induction k with
  | one k => exact .one (k.ext h)
  | agg xs ys hl k => exact .agg xs ys hl fun j x y hx hy => (k j x y hx hy).ext h
  | tuple xs ys hl _ ih => exact .tuple xs ys hl ih
theorem L1.ext (h : Ext base ρ nx w ρ' nx' w') {xs ys : List Value} (k : L1 ρ nx w xs ys) : L1 ρ' nx' w' xs ys :=
  ⟨k.1, fun j x y hx hy => (k.2 j x y hx hy).ext h⟩
theorem LV.ext (h : Ext base ρ nx w ρ' nx' w') {xs ys : List Value} (k : LV ρ nx w xs ys) : LV ρ' nx' w' xs ys :=
  ⟨k.1, fun j x y hx hy => (k.2 j x y hx hy).ext h⟩
end
section
variable {ρ : Nat → Nat} {nx : Nat} {w : World} {v v' : Value}
theorem V1.oneCell (k : V1 ρ nx w v v') : v'.oneCell' = true := by
  cases k with
  | scal v h => cases v <;> simp_all [Abs.scal, Value.oneCell']
  | _ => rfl
theorem V1.oneCellL (k : V1 ρ nx w v v') : v.oneCell' = true := by
  cases k with
  | scal v h => cases v <;> simp_all [Abs.scal, Value.oneCell']
  | _ => rfl
theorem VR.to1 (k : VR ρ nx w v v') (h : v.oneCell' = true) : V1 ρ nx w v v' := by
  cases k with
  | one k => exact k
  | agg => simp [Value.oneCell'] at h
  | tuple => simp [Value.oneCell'] at h
theorem VR.int {k : IntKind} {n : Int} (h : VR ρ nx w (.int k n) v') : v' = .int k n := by
  cases h with | one h => cases h; rfl
theorem VR.bool {b : Bool} (h : VR ρ nx w (.bool b) v') : v' = .bool b := by
  cases h with | one h => cases h; rfl
theorem VR.str {s : ByteArray} (h : VR ρ nx w (.string s) v') : v' = .string s := by
  cases h with | one h => cases h; rfl
theorem VR.nils {n c : Nat} (h : VR ρ nx w (.slice none n c) v') : n = 0 ∧ c = 0 ∧ v' = .slice none 0 0 := by
  cases h with
  | one h =>
    cases h with
    | scal v hs =>
      rcases n with _ | n <;> rcases c with _ | c <;> simp [Abs.scal] at hs
      exact ⟨rfl, rfl, rfl⟩
theorem VR.ptr {i o : Nat} {s : Option Nat} (h : VR ρ nx w (.pointer (some ⟨i, o, s⟩)) v') : i < nx ∧ s = none ∧ v' = .pointer (some ⟨ρ i, o, none⟩) := by
  cases h with
  | one h =>
    cases h with
    | scal v hs => simp [Abs.scal] at hs
    | ptr i o hi => exact ⟨hi, rfl, rfl⟩
theorem VR.sle {i o n c : Nat} (h : VR ρ nx w (.slice (some ⟨i, o, none⟩) n c) v') : i < nx ∧ v' = .slice (some ⟨ρ i, o, none⟩) n c := by
  cases h with
  | one h =>
    cases h with
    | scal v hs => simp [Abs.scal] at hs
    | sle i o n c hi => exact ⟨hi, rfl⟩
theorem VR.slu {i o n c e : Nat} (h : VR ρ nx w (.slice (some ⟨i, o, some e⟩) n c) v') :
    i < nx ∧ ∃ a c', v' = .slice (some a) n c' ∧ n ≤ c' ∧ ((a = ⟨ρ i, o, none⟩ ∧ bsz w (ρ i) = some (o + c' * e) ∧ c' ≤ 9223372036854775807) ∨ (n = 0 ∧ 0 < o)) := by
  cases h with
  | one h =>
    cases h with
    | scal v hs => simp [Abs.scal] at hs
    | slu i o n c e a c' hi hn hr => exact ⟨hi, a, c', rfl, hn, hr⟩
theorem VR.func {fn : Fn} {f xs : Array Value} (h : VR ρ nx w (.func fn f xs) v') : f = #[] ∧ ∃ ys, v' = .func fn #[] ys ∧ xs.size = ys.size ∧ ∀ (j : Nat) (x y : Value), xs[j]? = some x → ys[j]? = some y → V1 ρ nx w x y := by
  cases h with
  | one h =>
    cases h with
    | scal v hs => simp [Abs.scal] at hs
    | func fn xs ys hl h => exact ⟨rfl, ys, rfl, hl, h⟩
theorem VR.aggs {xs : Array Value} (h : VR ρ nx w (.agg xs) v') : ∃ ys, v' = .agg ys ∧ L1 ρ nx w xs.toList ys.toList := by
  cases h with
  | one h => have := h.oneCellL; simp [Value.oneCell'] at this
  | agg xs ys hl h => exact ⟨ys, rfl, by simpa using hl, fun j x y hx hy => h j x y (by simpa using hx) (by simpa using hy)⟩
theorem VR.tuples {xs : Array Value} (h : VR ρ nx w (.tuple xs) v') : ∃ ys, v' = .tuple ys ∧ LV ρ nx w xs.toList ys.toList := by
  cases h with
  | one h => have := h.oneCellL; simp [Value.oneCell'] at this
  | tuple xs ys hl h => exact ⟨ys, rfl, by simpa using hl, fun j x y hx hy => h j x y (by simpa using hx) (by simpa using hy)⟩
theorem VR.undef : VR ρ nx w Go.undef Go.undef := .tuple #[] #[] rfl (fun j x y hx => by simp at hx)
theorem VR.scal (h : Abs.scal v = true) : VR ρ nx w v v := .one (.scal v h)
theorem VR.cells (h : VR ρ nx w v v') (ht : ∀ xs, v ≠ .tuple xs) : L1 ρ nx w v.cells.toList v'.cells.toList := by
  cases h with
  | one h =>
    have h1 := h.oneCell
    have h2 := h.oneCellL
    have e1 : v.cells = #[v] := by cases v <;> simp_all [Value.cells, Value.oneCell']
    have e2 : v'.cells = #[v'] := by cases v' <;> simp_all [Value.cells, Value.oneCell']
    rw [e1, e2]
    refine ⟨rfl, fun j x y hx hy => ?_⟩
    rcases j with _ | j <;> simp at hx hy
    subst hx; subst hy; exact h
  | agg xs ys hl h => exact ⟨by simpa [Value.cells] using hl, fun j x y hx hy => h j x y (by simpa [Value.cells] using hx) (by simpa [Value.cells] using hy)⟩
  | tuple xs ys => exact absurd rfl (ht xs)
end
section
variable {ρ : Nat → Nat} {nx : Nat} {w : World}
theorem L1.nil : L1 ρ nx w [] [] := ⟨rfl, fun j x y hx => by simp at hx⟩
theorem L1.append {a b c d : List Value} (h : L1 ρ nx w a b) (k : L1 ρ nx w c d) : L1 ρ nx w (a ++ c) (b ++ d) := by
  refine ⟨by simp [h.1, k.1], fun j x y hx hy => ?_⟩
  by_cases hj : j < a.length
  · rw [List.getElem?_append_left hj] at hx
    rw [List.getElem?_append_left (h.1 ▸ hj)] at hy
    exact h.2 j x y hx hy
  · rw [List.getElem?_append_right (by omega)] at hx
    rw [List.getElem?_append_right (by have := h.1; omega), ← h.1] at hy
    exact k.2 _ x y hx hy
theorem L1.take {a b : List Value} (h : L1 ρ nx w a b) (n : Nat) : L1 ρ nx w (a.take n) (b.take n) := by
  refine ⟨by simp [h.1], fun j x y hx hy => ?_⟩
  rw [List.getElem?_take] at hx hy
  split at hx <;> simp_all
  exact h.2 j x y hx hy
theorem L1.drop {a b : List Value} (h : L1 ρ nx w a b) (n : Nat) : L1 ρ nx w (a.drop n) (b.drop n) := by
  refine ⟨by simp [h.1], fun j x y hx hy => ?_⟩
  rw [List.getElem?_drop] at hx hy
  exact h.2 _ x y hx hy
theorem L1.set {a b : List Value} (h : L1 ρ nx w a b) (n : Nat) {u v : Value} (k : V1 ρ nx w u v) : L1 ρ nx w (a.set n u) (b.set n v) := by
  refine ⟨by simp [h.1], fun j x y hx hy => ?_⟩
  rw [List.getElem?_set] at hx hy
  by_cases e : n = j
  · subst e
    simp only [if_true] at hx hy
    split at hx <;> simp at hx
    split at hy <;> simp at hy
    subst hx; subst hy; exact k
  · rw [if_neg e] at hx hy
    exact h.2 j x y hx hy
theorem L1.get {a b : List Value} (h : L1 ρ nx w a b) {j : Nat} {x : Value} (hx : a[j]? = some x) : ∃ y, b[j]? = some y ∧ V1 ρ nx w x y := by
  have hj : j < a.length := (List.getElem?_eq_some_iff.1 hx).1
  have hy : b[j]? = some (b[j]'(by rw [← h.1]; exact hj)) := List.getElem?_eq_getElem _
  exact ⟨_, hy, h.2 j _ _ hx hy⟩
theorem L1.cons {u v : Value} {a b : List Value} (k : V1 ρ nx w u v) (h : L1 ρ nx w a b) : L1 ρ nx w (u :: a) (v :: b) := by
  refine ⟨by simp [h.1], fun j x y hx hy => ?_⟩
  rcases j with _ | j
  · simp at hx hy; subst hx; subst hy; exact k
  · simp at hx hy; exact h.2 j x y hx hy
theorem L1.all {a b : List Value} (h : L1 ρ nx w a b) : ∀ v ∈ b, v.oneCell' = true := by
  intro v hv
  obtain ⟨j, hj⟩ := List.getElem?_of_mem hv
  have hl : j < a.length := by rw [h.1]; exact (List.getElem?_eq_some_iff.1 hj).1
  exact (h.2 j _ _ (List.getElem?_eq_getElem hl) hj).oneCell
theorem L1.vr {a b : List Value} (h : L1 ρ nx w a b) : VR ρ nx w (.agg a.toArray) (.agg b.toArray) :=
  .agg _ _ (by simpa using h.1) fun j x y hx hy => h.2 j x y (by simpa using hx) (by simpa using hy)
theorem L1.self {a : List Value} (h : ∀ v ∈ a, scal v = true) : L1 ρ nx w a a :=
  ⟨rfl, fun j x y hx hy => by rw [hx] at hy; cases hy; exact .scal x (h x (List.mem_of_getElem? hx))⟩
theorem LV.nil : LV ρ nx w [] [] := ⟨rfl, fun j x y hx => by simp at hx⟩
theorem LV.cons {u v : Value} {a b : List Value} (k : VR ρ nx w u v) (h : LV ρ nx w a b) : LV ρ nx w (u :: a) (v :: b) := by
  refine ⟨by simp [h.1], fun j x y hx hy => ?_⟩
  rcases j with _ | j
  · simp at hx hy; subst hx; subst hy; exact k
  · simp at hx hy; exact h.2 j x y hx hy
theorem LV.append {a b c d : List Value} (h : LV ρ nx w a b) (k : LV ρ nx w c d) : LV ρ nx w (a ++ c) (b ++ d) := by
  refine ⟨by simp [h.1, k.1], fun j x y hx hy => ?_⟩
  by_cases hj : j < a.length
  · rw [List.getElem?_append_left hj] at hx
    rw [List.getElem?_append_left (h.1 ▸ hj)] at hy
    exact h.2 j x y hx hy
  · rw [List.getElem?_append_right (by omega)] at hx
    rw [List.getElem?_append_right (by have := h.1; omega), ← h.1] at hy
    exact k.2 _ x y hx hy
theorem LV.vr {a b : List Value} (h : LV ρ nx w a b) : VR ρ nx w (.tuple a.toArray) (.tuple b.toArray) :=
  .tuple _ _ (by simpa using h.1) fun j x y hx hy => h.2 j x y (by simpa using hx) (by simpa using hy)
theorem LV.of1 {a b : List Value} (h : L1 ρ nx w a b) : LV ρ nx w a b := ⟨h.1, fun j x y hx hy => .one (h.2 j x y hx hy)⟩
end
/-! ### The heap and the world -/
structure Rel (base : Nat) (ρ : Nat → Nat) (H : AH) (w : World) : Prop where
  scope : ∀ i r, H.row i = some r → i < H.next
  ro : ∀ i r, H.row i = some r → r.rw = false → ρ i < base ∧ ∀ (j : Nat) v, r.cells[j]? = some v → v.oneCell' = true → ∃ v', w.cell? ⟨ρ i, j, none⟩ = some v' ∧ V1 ρ H.next w v v'
  rwr : ∀ i r, H.row i = some r → r.rw = true → base ≤ ρ i ∧ ∃ cs, w.heap[ρ i]? = some (.cells cs r.ty (0, 0)) ∧ L1 ρ H.next w r.cells (cs.toList.take r.cells.length)
  inj : ∀ i j r s, H.row i = some r → H.row j = some s → r.rw = true → s.rw = true → ρ i = ρ j → i = j
  sz : base ≤ w.heap.size
section
variable {base : Nat} {ρ : Nat → Nat} {H : AH} {w : World}
theorem Rel.lenLe {r : Row} {cs : Array Value} (h : L1 ρ H.next w r.cells (cs.toList.take r.cells.length)) : r.cells.length ≤ cs.size := by
  have := h.1; simp at this; omega
theorem Rel.cell (R : Rel base ρ H w) {i j : Nat} {r : Row} {v : Value} (hr : H.row i = some r) (hv : r.cells[j]? = some v) (hk : r.ok [v]) :
    ∃ v', w.cell? ⟨ρ i, j, none⟩ = some v' ∧ V1 ρ H.next w v v' := by
  cases hb : r.rw with
  | false => exact (R.ro i r hr hb).2 j v hv (by rcases hk with h | h; rw [hb] at h; cases h; exact h v (List.mem_cons_self))
  | true =>
    obtain ⟨_, cs, hcs, hl⟩ := R.rwr i r hr hb
    obtain ⟨y, hy, hv1⟩ := hl.get hv
    rw [List.getElem?_take] at hy
    split at hy <;> simp at hy
    exact ⟨y, by simp [World.cell?, hcs, hy], hv1⟩
theorem Rel.cells (R : Rel base ρ H w) {i o n : Nat} {r : Row} (hr : H.row i = some r) (hn : o + n ≤ r.cells.length) (hk : r.ok ((r.cells.drop o).take n)) :
    ∃ ys : List Value, ys.length = n ∧ (∀ j v, ys[j]? = some v → w.cell? ⟨ρ i, o + j, none⟩ = some v) ∧ L1 ρ H.next w ((r.cells.drop o).take n) ys := by
  induction n generalizing o with
  | zero => exact ⟨[], rfl, fun j v h => by simp at h, by simpa using L1.nil⟩
  | succ n ih =>
    rw [List.drop_eq_getElem_cons (by omega : o < r.cells.length), List.take_succ_cons] at hk
    obtain ⟨ys, hl, hc, h1⟩ := ih (o := o + 1) (by omega) (hk.imp id fun h v hv => h v (List.mem_cons_of_mem _ hv))
    have ho : r.cells[o]? = some (r.cells[o]'(by omega)) := List.getElem?_eq_getElem _
    obtain ⟨y, hy, hv⟩ := R.cell hr ho (hk.imp id fun h v hv => h v (by simp at hv; subst hv; exact List.mem_cons_self))
    refine ⟨y :: ys, by simp [hl], fun j v h => ?_, ?_⟩
    · rcases j with _ | j
      · simp at h; subst h; simpa using hy
      · simp at h
        have := hc j v h
        rwa [show o + 1 + j = o + (j + 1) by omega] at this
    · rw [List.drop_eq_getElem_cons (by omega : o < r.cells.length), List.take_succ_cons]
      exact h1.cons hv
theorem bsz_alloc_old (w : World) (o : Obj) (b k : Nat) (h : bsz w b = some k) : bsz (w.alloc o) b = some k := by
  unfold bsz at *
  have hb : b < w.heap.size := by
    rcases Nat.lt_or_ge b w.heap.size with h' | h'
    · exact h'
    · simp [Array.getElem?_eq_none h'] at h
  rw [Below.heap_alloc w o b hb]; exact h
def ren (ρ : Nat → Nat) (i b : Nat) : Nat → Nat := fun j => if j = i then b else ρ j
theorem ext_alloc (R : Rel base ρ H w) (o : Obj) (b : Nat) (m : Nat) (hm : H.next ≤ m) : Ext base ρ H.next w (ren ρ H.next b) m (w.alloc o) :=
  ⟨hm, fun i hi => by unfold ren; rw [if_neg (by omega)], (Below.refl _ _).alloc R.sz o, fun b k h => bsz_alloc_old w o b k h⟩
theorem Rel.lt_heap (R : Rel base ρ H w) {i : Nat} {r : Row} (hr : H.row i = some r) (hb : r.rw = true) : ρ i < w.heap.size := by
  obtain ⟨_, cs, hcs, _⟩ := R.rwr i r hr hb
  exact (Array.getElem?_eq_some_iff.1 hcs).1
theorem Rel.push (R : Rel base ρ H w) (ty : TypeId) (xs : List Value) (cs : Array Value) (hx : L1 ρ H.next w xs (cs.toList.take xs.length)) :
    Rel base (ren ρ H.next w.heap.size) (H.push ⟨ty, true, xs⟩) (w.alloc (.cells cs ty)) ∧
      Ext base ρ H.next w (ren ρ H.next w.heap.size) (H.push ⟨ty, true, xs⟩).next (w.alloc (.cells cs ty)) := by
  have E : Ext base ρ H.next w (ren ρ H.next w.heap.size) (H.next + 1) (w.alloc (.cells cs ty)) := ext_alloc R _ _ _ (Nat.le_succ _)
  have old : ∀ i, i < H.next → ren ρ H.next w.heap.size i = ρ i := fun i hi => by unfold ren; rw [if_neg (by omega)]
  have new : ren ρ H.next w.heap.size H.next = w.heap.size := by unfold ren; rw [if_pos rfl]
  refine ⟨⟨?_, ?_, ?_, ?_, ?_⟩, E⟩
  · intro i r hr
    simp only [AH.push] at hr ⊢
    split at hr
    · omega
    · have := R.scope i r hr; omega
  · intro i r hr hb
    simp only [AH.push] at hr
    split at hr
    · simp at hr; subst hr; simp at hb
    · have hi := R.scope i r hr
      obtain ⟨h1, h2⟩ := R.ro i r hr hb
      rw [old i hi]
      refine ⟨h1, fun j v hv ho => ?_⟩
      obtain ⟨v', hc, hv1⟩ := h2 j v hv ho
      exact ⟨v', by rw [World.cell?_alloc_lt _ _ _ (World.block_lt_of_cell? w _ hc)]; exact hc, hv1.ext E⟩
  · intro i r hr hb
    simp only [AH.push] at hr
    split at hr
    · rename_i e; subst e
      simp at hr; subst hr
      rw [new]
      refine ⟨R.sz, cs, ?_, hx.ext E⟩
      show (w.heap.push _)[w.heap.size]? = _
      simp
    · have hi := R.scope i r hr
      obtain ⟨h1, cs0, h2, h3⟩ := R.rwr i r hr hb
      rw [old i hi]
      exact ⟨h1, cs0, by rw [Below.heap_alloc _ _ _ (R.lt_heap hr hb)]; exact h2, h3.ext E⟩
  · intro i j r s hr hs hb hb' he
    simp only [AH.push] at hr hs
    split at hr <;> split at hs
    · omega
    · rename_i e1 e2; subst e1
      rw [new, old j (R.scope j s hs)] at he
      have := R.lt_heap hs hb'; omega
    · rename_i e1 e2; subst e2
      rw [new, old i (R.scope i r hr)] at he
      have := R.lt_heap hr hb; omega
    · rw [old i (R.scope i r hr), old j (R.scope j s hs)] at he
      exact R.inj i j r s hr hs hb hb' he
  · have := R.sz; simp; omega
theorem bsz_setRow (w : World) (g : Nat) (cs cur : Array Value) (t : TypeId) (fr : Nat × Nat) (hg : w.heap[g]? = some (.cells cur t fr)) (hs : cs.size = cur.size) (b k : Nat) (h : bsz w b = some k) : bsz (w.setRow g cs) b = some k := by
  unfold bsz at *
  by_cases e : b = g
  · subst e
    rw [setRow_heap w b cur cs t fr hg]
    rw [hg] at h
    simp at h ⊢; omega
  · rw [setRow_other w g b cs e]; exact h
theorem below_setRow' {B g : Nat} (hB : B ≤ g) (w : World) (cs : Array Value) : Below B w (w.setRow g cs) :=
  ⟨rfl, rfl, rfl, by simp, fun k hk => setRow_other w g k cs (by omega)⟩
theorem Rel.set (R : Rel base ρ H w) {i : Nat} {r : Row} {cur cs : Array Value} {xs : List Value} (hr : H.row i = some r) (hb : r.rw = true) (hc : w.heap[ρ i]? = some (.cells cur r.ty (0, 0))) (hs : cs.size = cur.size)
    (hx : L1 ρ H.next w xs (cs.toList.take xs.length)) :
    Rel base ρ (H.setCells i xs) (w.setRow (ρ i) cs) ∧ Ext base ρ H.next w ρ (H.setCells i xs).next (w.setRow (ρ i) cs) := by
  obtain ⟨hbase, _, _, _⟩ := R.rwr i r hr hb
  have E : Ext base ρ H.next w ρ H.next (w.setRow (ρ i) cs) :=
    ⟨Nat.le_refl _, fun _ _ => rfl, below_setRow' hbase w cs, fun b k h => bsz_setRow w _ cs cur _ _ hc hs b k h⟩
  refine ⟨⟨?_, ?_, ?_, ?_, ?_⟩, E⟩
  · intro j s hj
    simp only [AH.setCells] at hj ⊢
    split at hj
    · rename_i e; subst e; exact R.scope j r hr
    · exact R.scope j s hj
  · intro j s hj hbs
    simp only [AH.setCells] at hj
    split at hj
    · rw [hr] at hj; simp at hj; subst hj; simp [hb] at hbs
    · obtain ⟨h1, h2⟩ := R.ro j s hj hbs
      refine ⟨h1, fun m v hv ho => ?_⟩
      obtain ⟨v', hc', hv1⟩ := h2 m v hv ho
      refine ⟨v', ?_, hv1.ext E⟩
      rw [cell_setRow_other w (ρ i) cs ⟨ρ j, m, none⟩ (by simp; omega)]; exact hc'
  · intro j s hj hbs
    simp only [AH.setCells] at hj
    split at hj
    · rename_i e; subst e
      rw [hr] at hj; simp at hj; subst hj
      exact ⟨hbase, cs, setRow_heap w _ cur cs _ _ hc, hx.ext E⟩
    · rename_i e
      obtain ⟨h1, cs0, h2, h3⟩ := R.rwr j s hj hbs
      have hne : ρ j ≠ ρ i := fun e' => e (R.inj j i s r hj hr hbs hb e')
      exact ⟨h1, cs0, by rw [setRow_other w _ _ cs hne]; exact h2, h3.ext E⟩
  · intro j k s s' hj hk hbs hbs' he
    simp only [AH.setCells] at hj hk
    have fix : ∀ m u, (if m = i then (H.row i).map (fun r => { r with cells := xs }) else H.row m) = some u → ∃ u', H.row m = some u' ∧ u'.rw = u.rw := by
      intro m u hu
      split at hu
      · rename_i e; subst e
        rw [hr] at hu; simp at hu; subst hu; exact ⟨r, hr, rfl⟩
      · exact ⟨u, hu, rfl⟩
    obtain ⟨u1, h1, e1⟩ := fix j s hj
    obtain ⟨u2, h2, e2⟩ := fix k s' hk
    exact R.inj j k u1 u2 h1 h2 (e1.trans hbs) (e2.trans hbs') he
  · simp; exact R.sz
theorem Rel.dropRow (R : Rel base ρ H w) (i : Nat) : Rel base ρ (H.drop i) w := by
  have sub : ∀ j s, (H.drop i).row j = some s → H.row j = some s := fun j s h => by
    simp only [AH.drop] at h; split at h
    · simp at h
    · exact h
  exact ⟨fun j s h => R.scope j s (sub j s h), fun j s h hb => R.ro j s (sub j s h) hb, fun j s h hb => R.rwr j s (sub j s h) hb,
    fun j k s s' h h' => R.inj j k s s' (sub j s h) (sub k s' h'), R.sz⟩
theorem Rel.move (R : Rel base ρ H w) {i : Nat} {r : Row} {cur cs : Array Value} {xs : List Value} (hr : H.row i = some r) (hb : r.rw = true) (hc : w.heap[ρ i]? = some (.cells cur r.ty (0, 0))) (hs : cs.size = cur.size)
    (hx : L1 ρ H.next w xs (cs.toList.take xs.length)) :
    Rel base (ren ρ H.next (ρ i)) ((H.drop i).push ⟨r.ty, true, xs⟩) (w.setRow (ρ i) cs) ∧
      Ext base ρ H.next w (ren ρ H.next (ρ i)) ((H.drop i).push ⟨r.ty, true, xs⟩).next (w.setRow (ρ i) cs) := by
  obtain ⟨R1, E1⟩ := R.set hr hb hc hs hx
  obtain ⟨hbase, _, _, _⟩ := R.rwr i r hr hb
  have hin := R.scope i r hr
  have E : Ext base ρ H.next w (ren ρ H.next (ρ i)) (H.next + 1) (w.setRow (ρ i) cs) :=
    ⟨Nat.le_succ _, fun j hj => by unfold ren; rw [if_neg (by omega)], E1.bl, E1.st⟩
  have E2 : Ext base ρ H.next (w.setRow (ρ i) cs) (ren ρ H.next (ρ i)) (H.next + 1) (w.setRow (ρ i) cs) :=
    ⟨Nat.le_succ _, fun j hj => by unfold ren; rw [if_neg (by omega)], Below.refl _ _, fun _ _ h => h⟩
  have old : ∀ j, j < H.next → ren ρ H.next (ρ i) j = ρ j := fun j hj => by unfold ren; rw [if_neg (by omega)]
  have new : ren ρ H.next (ρ i) H.next = ρ i := by unfold ren; rw [if_pos rfl]
  have rows : ∀ j s, ((H.drop i).push ⟨r.ty, true, xs⟩).row j = some s → (j = H.next ∧ s = ⟨r.ty, true, xs⟩) ∨ (j ≠ i ∧ j < H.next ∧ H.row j = some s) := by
    intro j s h
    rw [AH.push_row, AH.drop_row, AH.drop_next] at h
    by_cases e : j = H.next
    · rw [if_pos e] at h; simp at h; exact .inl ⟨e, h.symm⟩
    · rw [if_neg e] at h
      by_cases e2 : j = i
      · rw [if_pos e2] at h; simp at h
      · rw [if_neg e2] at h; exact .inr ⟨e2, R.scope j s h, h⟩
  have keep : ∀ j s, j ≠ i → H.row j = some s → (H.setCells i xs).row j = some s := fun j s e h => by simp only [AH.setCells, if_neg e]; exact h
  refine ⟨⟨?_, ?_, ?_, ?_, R1.sz⟩, E⟩
  · intro j s h
    show j < H.next + 1
    rcases rows j s h with ⟨e, _⟩ | ⟨_, e, _⟩ <;> omega
  · intro j s h hbs
    rcases rows j s h with ⟨_, e⟩ | ⟨e1, e2, e3⟩
    · subst e; simp at hbs
    · obtain ⟨h1, h2⟩ := R1.ro j s (keep j s e1 e3) hbs
      rw [old j e2]
      exact ⟨h1, fun m v hv ho => let ⟨v', a, b⟩ := h2 m v hv ho; ⟨v', a, b.ext E2⟩⟩
  · intro j s h hbs
    rcases rows j s h with ⟨e, e'⟩ | ⟨e1, e2, e3⟩
    · subst e; subst e'
      rw [new]
      exact ⟨hbase, cs, setRow_heap w _ cur cs _ _ hc, hx.ext E⟩
    · obtain ⟨h1, cs0, h2, h3⟩ := R1.rwr j s (keep j s e1 e3) hbs
      rw [old j e2]
      exact ⟨h1, cs0, h2, h3.ext E2⟩
  · intro j k s s' hj hk hbs hbs' he
    rcases rows j s hj with ⟨e, _⟩ | ⟨e1, e2, e3⟩ <;> rcases rows k s' hk with ⟨f, _⟩ | ⟨f1, f2, f3⟩
    · omega
    · subst e; rw [new, old k f2] at he
      exact absurd (R.inj i k r s' hr f3 hb hbs' he) (fun e => f1 e.symm)
    · subst f; rw [new, old j e2] at he
      exact absurd (R.inj j i s r e3 hr hbs hb he) e1
    · rw [old j e2, old k f2] at he
      exact R.inj j k s s' e3 f3 hbs hbs' he
theorem Rel.drew (R : Rel base ρ H w) : Rel base ρ H w.drew :=
  have E : Ext base ρ H.next w ρ H.next w.drew := ⟨Nat.le_refl _, fun _ _ => rfl, (Below.refl _ _).drew, fun _ _ h => h⟩
  ⟨R.scope, fun i r h hb => ⟨(R.ro i r h hb).1, fun j v hv ho => let ⟨v', a, b⟩ := (R.ro i r h hb).2 j v hv ho; ⟨v', a, b.ext E⟩⟩,
    fun i r h hb => let ⟨a, cs, b, c⟩ := R.rwr i r h hb; ⟨a, cs, b, c.ext E⟩, R.inj, R.sz⟩
theorem zc9 (w : World) : Ext base ρ H.next w ρ H.next w.drew := ⟨Nat.le_refl _, fun _ _ => rfl, (Below.refl _ _).drew, fun _ _ h => h⟩
end
end Go.Abs
end

section
namespace Go.Abs
open Go Go.RowKit
inductive TD
  | int (k : IntKind) | bool | str | ptr | slice (e : TypeId) | array (n : Nat) (e : TypeId) | struct (fs : List (Nat × TypeId)) | other
def TD.isAgg : TD → Bool
  | .array _ _ | .struct _ => true
  | _ => false
def tdOf : TypeDesc → TD
  | .int k => .int k
  | .bool => .bool
  | .string => .str
  | .pointer _ => .ptr
  | .slice e => .slice e
  | .array n e => .array n e
  | .struct fs => .struct (fs.toList.map fun f => (f.offset, f.type))
  | _ => .other
structure TI where
  d : TD
  size : Nat
  bytes : Nat
  zero : List Value
def zcV : Value → Bool
  | .tuple _ => false
  | _ => true
def ti (P : Program) (t : TypeId) : Option TI :=
  match P.underlying t, P.info? t with
  | some d, some i =>
    match i.zero with
    | some z => if z.cells.toList.all scal && z.cells.size == i.size && zcV z then some ⟨tdOf d, i.size, i.bytes, z.cells.toList⟩ else none
    | none => none
  | _, _ => none
abbrev T := Nat → Value
def upd (t : T) (i : Nat) (v : Value) : T := fun j => if j = i then v else t j
def updO (t : T) (d : Option Nat) (v : Value) : T := match d with | none => t | some i => upd t i v
def evo (t : T) : Operand → Option Value
  | .tmp i => some (t i)
  | .const v => if scal v = true then some v else none
  | .func f => some (.func (.func f) #[] #[])
  | .global _ => none
def evs (t : T) : List Operand → Option (List Value)
  | [] => some []
  | x :: xs => (evo t x).bind fun v => (evs t xs).bind fun vs => some (v :: vs)
def evp (t : T) : List (Nat × Operand) → Option (List (Nat × Value))
  | [] => some []
  | (i, x) :: xs => (evo t x).bind fun v => (evp t xs).bind fun vs => some ((i, v) :: vs)
inductive Out
  | val (v : Value) (H : AH)
  | unit (H : AH)
  | call (f : FuncId) (args : List Value)
  | need (p : Prop) (o : Out)
  | alias (a b c : Out)
  | stuck
def bindO {α : Type} (x : Option α) (f : α → Out) : Out := match x with | some a => f a | none => .stuck
def asI (v : Value) (f : IntKind → Int → Out) : Out := match v with | .int k n => f k n | _ => .stuck
def asB (v : Value) (f : Bool → Out) : Out := match v with | .bool b => f b | _ => .stuck
def asP (v : Value) (f : Nat → Nat → Out) : Out := match v with | .pointer (some ⟨i, o, none⟩) => f i o | _ => .stuck
def asSl (v : Value) (n0 : Out) (f : Nat → Nat → Option Nat → Nat → Nat → Out) : Out :=
  match v with | .slice none _ _ => n0 | .slice (some ⟨i, o, s⟩) n c => f i o s n c | _ => .stuck
def asAgg (v : Value) (f : List Value → Out) : Out := match v with | .agg cs => f cs.toList | _ => .stuck
def asTup (v : Value) (f : List Value → Out) : Out := match v with | .tuple cs => f cs.toList | _ => .stuck
def asStr (v : Value) (f : ByteArray → Out) : Out := match v with | .string s => f s | _ => .stuck
def asFn (v : Value) (f : FuncId → List Value → Out) : Out := match v with | .func (.func g) first cap => if first.size = 0 then f g cap.toList else .stuck | _ => .stuck
def zcI (v : Value) (f : List Value → Out) : Out := match v with | .agg cs => f cs.toList | .tuple _ => .stuck | v => f [v]
def slT (d : TD) (f : TypeId → Out) : Out := match d with | .slice e => f e | _ => .stuck
def stT (d : TD) (f : List (Nat × TypeId) → Out) : Out := match d with | .struct fs => f fs | _ => .stuck
def seg (l : List Value) (o n : Nat) : List Value := (l.drop o).take n
def splice (l : List Value) (o : Nat) (vs : List Value) : List Value := l.take o ++ vs ++ l.drop (o + vs.length)
def zeros (n : Nat) (z : List Value) : List Value := (List.replicate n z).flatten
def fillL (place : Nat → Option (Nat × Nat)) : List Value → List (Nat × Value) → Option (List Value)
  | cs, [] => some cs
  | cs, (i, v) :: rest => (place i).bind fun p =>
      if v.cells.size = p.2 ∧ p.1 + p.2 ≤ cs.length ∧ zcV v = true then fillL place (splice cs p.1 v.cells.toList) rest else none
def zc8 (P : Program) : List (Nat × TypeId) → Option (List (Nat × Nat))
  | [] => some []
  | (o, t) :: fs => (ti P t).bind fun I => (zc8 P fs).bind fun ps => some ((o, I.size) :: ps)
def placeT (P : Program) (d : TD) : Option (Nat → Option (Nat × Nat)) :=
  match d with
  | .struct fs => (zc8 P fs).bind fun ps => some (fun i => ps[i]?)
  | .array _ e => (ti P e).bind fun E => some (fun i => some (i * E.size, E.size))
  | _ => none
def binI (op : BinOp) (k : IntKind) (a b : Int) (H : AH) : Out :=
  match op with
  | .add => .val (.int k (k.wrap (a + b))) H
  | .sub => .val (.int k (k.wrap (a - b))) H
  | .mul => .val (.int k (k.wrap (a * b))) H
  | .quo => .need (b ≠ 0) (.val (.int k (k.wrap (a.tdiv b))) H)
  | .rem => .need (b ≠ 0) (.val (.int k (a.tmod b)) H)
  | .and => .val (.int k (k.wrap (BitVec.ofInt k.bits a &&& BitVec.ofInt k.bits b).toNat)) H
  | .or => .val (.int k (k.wrap (BitVec.ofInt k.bits a ||| BitVec.ofInt k.bits b).toNat)) H
  | .xor => .val (.int k (k.wrap (BitVec.ofInt k.bits a ^^^ BitVec.ofInt k.bits b).toNat)) H
  | .eql => .val (.bool (a == b)) H
  | .neq => .val (.bool (a != b)) H
  | .lss => .val (.bool (decide (a < b))) H
  | .leq => .val (.bool (decide (a ≤ b))) H
  | .gtr => .val (.bool (decide (b < a))) H
  | .geq => .val (.bool (decide (b ≤ a))) H
  | _ => .stuck
def binE (op : BinOp) (d : TD) (a b : Value) (H : AH) : Out :=
  match a, b with
  | .int k x, .int k' y =>
    match op with
    | .shl => .need (0 ≤ y) (.val (.int k (k.wrap (x * 2 ^ (min y.toNat k.bits)))) H)
    | .shr => .need (0 ≤ y) (.val (.int k (x.fdiv (2 ^ (min y.toNat k.bits)))) H)
    | op => .need (k = k') (binI op k x y H)
  | .bool x, .bool y =>
    match op, d with
    | .eql, .bool => .val (.bool (x == y)) H
    | .neq, .bool => .val (.bool (!(x == y))) H
    | _, _ => .stuck
  | .string x, .string y =>
    match op with
    | .add => .need (x.size + y.size ≤ 4611686018427387904) (.val (.string (x ++ y)) H)
    | .eql => .val (.bool (x.toList == y.toList)) H
    | .neq => .val (.bool (!(x.toList == y.toList))) H
    | _ => .stuck
  | .slice none _ _, .slice q _ _ =>
    match op, d with
    | .eql, .slice _ => .val (.bool q.isNone) H
    | .neq, .slice _ => .val (.bool (!q.isNone)) H
    | _, _ => .stuck
  | .slice (some _) _ _, .slice none _ _ =>
    match op, d with
    | .eql, .slice _ => .val (.bool false) H
    | .neq, .slice _ => .val (.bool true) H
    | _, _ => .stuck
  | _, _ => .stuck
def aggI (l : List Value) : List Int := l.map fun v => match v with | .int _ n => n | _ => 0
def arrE (P : Program) (op : BinOp) (ty : TypeId) (n : Nat) (e : TypeId) (xs ys : List Value) (H : AH) : Out :=
  bindO (ti P e) fun E =>
    match E.d with
    | .int .i64 => .need ((P.eqGuardType P.depth ty = false ∧ E.size = 1) ∧ (xs = (aggI xs).map (Value.int .i64) ∧ ys = (aggI ys).map (Value.int .i64)) ∧ xs.length = n ∧ ys.length = n)
      (match op with
        | .eql => .val (.bool (aggI xs == aggI ys)) H
        | .neq => .val (.bool (!(aggI xs == aggI ys))) H
        | _ => .stuck)
    | _ => .stuck
def binA (P : Program) (op : BinOp) (ty : TypeId) (d : TD) (a b : Value) (H : AH) : Out :=
  match a, b with
  | .agg xs, .agg ys =>
    match d with
    | .array n e => arrE P op ty n e xs.toList ys.toList H
    | _ => .stuck
  | a, b => binE op d a b H
theorem binA_s : ((∀ (P : Program) (op : BinOp) (ty : TypeId) (d : TD) (k : IntKind) (x : Int) (b : Value) (H : AH), binA P op ty d (.int k x) b H = binE op d (.int k x) b H) ∧ (∀ (P : Program) (op : BinOp) (ty : TypeId) (d : TD) (x : Bool) (b : Value) (H : AH), binA P op ty d (.bool x) b H = binE op d (.bool x) b H)) ∧ ((∀ (P : Program) (op : BinOp) (ty : TypeId) (d : TD) (x : ByteArray) (b : Value) (H : AH), binA P op ty d (.string x) b H = binE op d (.string x) b H) ∧ (∀ (P : Program) (op : BinOp) (ty : TypeId) (d : TD) (x : Option Addr) (n c : Nat) (b : Value) (H : AH), binA P op ty d (.slice x n c) b H = binE op d (.slice x n c) b H)) ∧ (∀ (P : Program) (op : BinOp) (ty : TypeId) (n : Nat) (e : TypeId) (xs ys : Array Value) (H : AH), binA P op ty (.array n e) (.agg xs) (.agg ys) H = arrE P op ty n e xs.toList ys.toList H) := (⟨⟨fun _ _ _ _ _ _ _ _ => rfl, fun _ _ _ _ _ _ _ => rfl⟩, ⟨fun _ _ _ _ _ _ _ => rfl, fun _ _ _ _ _ _ _ _ _ => rfl⟩, fun _ _ _ _ _ _ _ _ => rfl⟩)
def unE (op : UnOp) (a : Value) (H : AH) : Out :=
  match op, a with
  | .neg, .int k n => .val (.int k (k.wrap (0 - n))) H
  | .not, .bool b => .val (.bool !b) H
  | _, _ => .stuck
def convE (s d : TD) (a : Value) (H : AH) : Out :=
  match s, d, a with
  | .int _, .int k, .int _ n => .val (.int k (k.wrap n)) H
  | .str, .str, .string s => .val (.string s) H
  | _, _, _ => .stuck
def okNil (v : Value) (o : Out) : Out := match v with | .pointer (some _) => o | .func (.func _) _ _ => o | _ => .stuck
def bnd (t : T) (x : Option Operand) (dflt : Int) (f : Int → Out) : Out :=
  match x with | none => f dflt | some x => bindO (evo t x) fun v => asI v fun _ n => f n
def zaL (H : AH) (e : Nat) (v : Value) (f : List Value → Nat → Out) : Out :=
  asSl v (f [] 0) fun i o _ n _ => bindO (H.row i) fun r => .need (o + n * e ≤ r.cells.length ∧ r.ok (seg r.cells o (n * e))) (f (seg r.cells o (n * e)) n)
def appE (E : TI) (e : TypeId) (s : Value) (xs : List Value) (m : Nat) (H : AH) : Out :=
  if m = 0 then asSl s (.val s H) fun _ _ u n c => .need (u.isNone = true → n ≤ c) (.val s H) else
  asSl s
    (.need (m ≤ 4294967296 ∧ E.bytes ≤ 32768) (.val (.slice (some ⟨H.next, 0, some E.size⟩) m m) (H.push ⟨e, true, xs⟩)))
    fun i o u n c => bindO (H.row i) fun r => .need (n + m ≤ 4294967296 ∧ E.bytes ≤ 32768 ∧ o + n * E.size ≤ r.cells.length ∧ r.ok (seg r.cells o (n * E.size)))
      (match u with
      | none =>
        if n + m ≤ c then .need (r.rw = true ∧ o + (n + m) * E.size ≤ r.cells.length) (.val (.slice (some ⟨i, o, none⟩) (n + m) c) (H.setCells i (splice r.cells (o + n * E.size) xs)))
        else .val (.slice (some ⟨H.next, 0, some E.size⟩) (n + m) (n + m)) (H.push ⟨e, true, seg r.cells o (n * E.size) ++ xs⟩)
      | some z =>
        if o + (n + m) * E.size ≤ r.cells.length then .need (r.rw = true ∧ z = E.size ∧ 0 < E.size ∧ (0 < n ∨ o = 0)) (.val (.slice (some ⟨i, o, some z⟩) (n + m) (n + m)) (H.setCells i (splice r.cells (o + n * E.size) xs)))
        else .need (r.rw = true ∧ z = E.size ∧ 0 < E.size ∧ o = 0 ∧ r.ty = e) (.alias (.val (.slice (some ⟨H.next, 0, some E.size⟩) (n + m) (n + m)) ((H.drop i).push ⟨e, true, seg r.cells 0 (n * E.size) ++ xs⟩)) (.val (.slice (some ⟨i, 0, some E.size⟩) (n + m) (n + m)) (H.setCells i (seg r.cells 0 (n * E.size) ++ xs))) (.val (.slice (some ⟨H.next, 0, some E.size⟩) (n + m) (n + m)) (H.push ⟨e, true, seg r.cells 0 (n * E.size) ++ xs⟩))))
def growE (P : Program) (t t' : TypeId) (s x : Value) (H : AH) : Out :=
  bindO (ti P t) fun I => slT I.d fun e => bindO (ti P e) fun E => bindO (ti P t') fun I' =>
    match I'.d with
    | .int _ => asSl s (asI x fun _ n => .need ((0 < n ∧ n ≤ 4294967296) ∧ 0 < E.size ∧ E.bytes ≤ 32768) (.val (.slice (some ⟨H.next, 0, some E.size⟩) n.toNat n.toNat) (H.push ⟨e, true, zeros n.toNat E.zero⟩))) fun _ _ _ _ _ => .stuck
    | _ => .stuck
def builtE (P : Program) (b : Builtin) (ts : List TypeId) (vs : List Value) (H : AH) : Out :=
  match b, ts, vs with
  | .len, [t], [v] => bindO (ti P t) fun I =>
    match I.d with
    | .array n _ => .val (.int .i64 n) H
    | .slice _ => asSl v (.val (.int .i64 0) H) fun _ _ _ n _ => .val (.int .i64 n) H
    | .str => asStr v fun s => .val (.int .i64 s.size) H
    | _ => .stuck
  | .append, [t, t'], [s, x] => if t' = t then (bindO (ti P t) fun I => slT I.d fun e => bindO (ti P e) fun E => zaL H E.size x fun xs m => appE E e s xs m H) else growE P t t' s x H
  | .cap, [t], [v] => bindO (ti P t) fun I => slT I.d fun _ => asSl v (.val (.int .i64 0) H) fun _ _ _ _ _ => .stuck
  | .max, _, [x, y] => asI x fun k a => asI y fun _ b => .val (.int k (if b > a then b else a)) H
  | .min, _, [x, y] => asI x fun k a => asI y fun _ b => .val (.int k (if b < a then b else a)) H
  | _, _, _ => .stuck
def sliceE (E : TI) (v : Value) (lo hi : Option Int) (mx : Option Int) (H : AH) : Out :=
  if mx.isSome = true ∧ hi.isSome = false then .stuck else
  asSl v
    (.need (lo.getD 0 = 0 ∧ hi.getD 0 = 0 ∧ mx.getD 0 = 0) (.val (.slice none 0 0) H))
    fun i o u n c =>
      match u with
      | none =>
        .need (0 ≤ lo.getD 0 ∧ lo.getD 0 ≤ hi.getD n ∧ hi.getD n ≤ mx.getD c ∧ mx.getD c ≤ c)
          (.val (.slice (some ⟨i, if mx.getD c = lo.getD 0 then o else o + (lo.getD 0).toNat * E.size, none⟩) ((hi.getD n).toNat - (lo.getD 0).toNat) ((mx.getD c).toNat - (lo.getD 0).toNat)) H)
      | some z =>
        match mx with
        | none => .need (0 ≤ lo.getD 0 ∧ lo.getD 0 ≤ hi.getD n ∧ hi.getD n ≤ n ∧ z = E.size)
          (.val (.slice (some ⟨i, o + (lo.getD 0).toNat * E.size, some z⟩) ((hi.getD n).toNat - (lo.getD 0).toNat) ((hi.getD n).toNat - (lo.getD 0).toNat)) H)
        | some m => .need (0 ≤ lo.getD 0 ∧ lo.getD 0 ≤ hi.getD n ∧ hi.getD n ≤ m ∧ m ≤ n ∧ 0 < n)
          (.val (.slice (some ⟨i, if m = lo.getD 0 then o else o + (lo.getD 0).toNat * E.size, none⟩) ((hi.getD n).toNat - (lo.getD 0).toNat) (m.toNat - (lo.getD 0).toNat)) H)
def oI (t : T) (x : Option Operand) (f : Option Int → Out) : Out :=
  match x with | none => f none | some x => bindO (evo t x) fun v => asI v fun _ n => f (some n)
def evalOp (P : Program) (t : T) (H : AH) : Op → Out
  | .move x => bindO (evo t x) fun v => .val v H
  | .assign x => bindO (evo t x) fun v => .val v H
  | .pick c a b => bindO (evo t c) fun vc => bindO (evo t a) fun va => bindO (evo t b) fun vb => asB vc fun q => .val (if q = true then va else vb) H
  | .alloc e => bindO (ti P e) fun I => .val (.pointer (some ⟨H.next, 0, none⟩)) (H.push ⟨e, true, I.zero⟩)
  | .box e x => bindO (evo t x) fun v => zcI v fun cs => .val (.pointer (some ⟨H.next, 0, none⟩)) (H.push ⟨e, true, cs⟩)
  | .build ty parts => bindO (ti P ty) fun I => bindO (evp t parts.toList) fun ps => bindO (placeT P I.d) fun pl => bindO (fillL pl I.zero ps) fun cs => .val (.agg cs.toArray) H
  | .buildSlice ty len parts => bindO (ti P ty) fun I => slT I.d fun e => bindO (ti P e) fun E => bindO (evp t parts.toList) fun ps =>
      bindO (fillL (fun i => some (i * E.size, E.size)) (zeros len E.zero) ps) fun cs => .need (len ≤ 16777216 ∧ len * E.size ≤ 16777216) (.val (.slice (some ⟨H.next, 0, some E.size⟩) len len) (H.push ⟨e, true, cs⟩))
  | .load ty a => bindO (ti P ty) fun I => bindO (evo t a) fun v => asP v fun i o => bindO (H.row i) fun r =>
      if I.d.isAgg = true then .need (o + I.size ≤ r.cells.length ∧ r.ok (seg r.cells o I.size)) (.val (.agg (seg r.cells o I.size).toArray) H) else bindO (r.cells[o]?) fun x => .need (r.ok [x]) (.val x H)
  | .store ty a x => bindO (ti P ty) fun I => bindO (evo t a) fun va => asP va fun i o => bindO (evo t x) fun v => bindO (H.row i) fun r =>
      if I.d.isAgg = true then asAgg v fun cs => .need (r.rw = true ∧ cs.length = I.size ∧ o + I.size ≤ r.cells.length) (.unit (H.setCells i (splice r.cells o cs)))
      else .need (r.rw = true ∧ v.oneCell' = true ∧ o < r.cells.length ∧ I.size = 1) (.unit (H.setCells i (r.cells.set o v)))
  | .nilCheck x => bindO (evo t x) fun v => okNil v (.val v H)
  | .binOp op ty x y _ => bindO (ti P ty) fun I => bindO (evo t x) fun a => bindO (evo t y) fun b => binA P op ty I.d a b H
  | .unOp op _ x => bindO (evo t x) fun a => unE op a H
  | .convert s d x => bindO (ti P s) fun S => bindO (ti P d) fun I => bindO (evo t x) fun a => convE S.d I.d a H
  | .makeFunc fn first cap => if first.size = 0 then bindO (evs t cap.toList) fun vs => .need (∀ v ∈ vs, v.oneCell' = true) (.val (.func fn #[] vs.toArray) H) else .stuck
  | .makeSlice ty l c => bindO (ti P ty) fun I => slT I.d fun e => bindO (ti P e) fun E => bindO (evo t l) fun vl => bindO (evo t c) fun vc => asI vl fun _ l => asI vc fun _ c =>
      .need (0 ≤ l ∧ l ≤ c ∧ c ≤ 4294967296 ∧ E.bytes ≤ 65536) (.val (.slice (some ⟨H.next, 0, some E.size⟩) l.toNat l.toNat) (H.push ⟨e, true, zeros c.toNat E.zero⟩))
  | .slice ty x lo hi mx => bindO (ti P ty) fun I => bindO (evo t x) fun v =>
      match I.d with
      | .slice e => bindO (ti P e) fun E => oI t lo fun lo => oI t hi fun hi => oI t mx fun mx => sliceE E v lo hi mx H
      | .str => if mx.isNone = true then asStr v fun s => oI t lo fun lo => oI t hi fun hi => .need (0 ≤ lo.getD 0 ∧ lo.getD 0 ≤ hi.getD s.size ∧ hi.getD s.size ≤ s.size) (.val (.string (s.extract (lo.getD 0).toNat (hi.getD s.size).toNat)) H) else .stuck
      | .array n e => bindO (ti P e) fun E => if mx.isNone = true then asP v fun i o => oI t lo fun lo => oI t hi fun hi => .need (0 ≤ lo.getD 0 ∧ lo.getD 0 ≤ hi.getD n ∧ hi.getD n ≤ n)
          (.val (.slice (some ⟨i, if (n : Int) = lo.getD 0 then o else o + (lo.getD 0).toNat * E.size, none⟩) ((hi.getD n).toNat - (lo.getD 0).toNat) (n - (lo.getD 0).toNat)) H) else .stuck
      | _ => .stuck
  | .fieldAddr ty x f => bindO (ti P ty) fun I => stT I.d fun fs => bindO (fs[f]?) fun q => bindO (ti P q.2) fun F => bindO (evo t x) fun v => asP v fun i o => .need (F.size ≠ 0) (.val (.pointer (some ⟨i, o + q.1, none⟩)) H)
  | .field ty x f => bindO (ti P ty) fun I => stT I.d fun fs => bindO (fs[f]?) fun q => bindO (ti P q.2) fun F => bindO (evo t x) fun v => asAgg v fun cs =>
      if F.d.isAgg = true then .need (q.1 + F.size ≤ cs.length) (.val (.agg (seg cs q.1 F.size).toArray) H) else bindO (cs[q.1]?) fun x => .val x H
  | .indexAddr ty x ix => bindO (ti P ty) fun I => bindO (evo t x) fun v => bindO (evo t ix) fun vi => asI vi fun _ n =>
      match I.d with
      | .slice e => bindO (ti P e) fun E => asSl v .stuck fun i o _ len _ => .need (0 ≤ n ∧ n < len) (.val (.pointer (some ⟨i, o + n.toNat * E.size, none⟩)) H)
      | .array m e => bindO (ti P e) fun E => asP v fun i o => .need (0 ≤ n ∧ n < m) (.val (.pointer (some ⟨i, o + n.toNat * E.size, none⟩)) H)
      | _ => .stuck
  | .index ty x ix => bindO (ti P ty) fun I => bindO (evo t x) fun v => bindO (evo t ix) fun vi => asI vi fun _ n =>
      match I.d with
      | .array m e => bindO (ti P e) fun E => asAgg v fun cs => .need (0 ≤ n ∧ n < m)
          (if E.d.isAgg = true then .need (n.toNat * E.size + E.size ≤ cs.length) (.val (.agg (seg cs (n.toNat * E.size) E.size).toArray) H) else bindO (cs[n.toNat * E.size]?) fun x => .val x H)
      | .str => asStr v fun s => .need (0 ≤ n ∧ n < s.size) (.val (.int .u8 ((s.data.toList.getD n.toNat 0).toNat : Int)) H)
      | _ => .stuck
  | .extract x i => bindO (evo t x) fun v => asTup v fun vs => bindO (vs[i]?) fun v => .val v H
  | .call c =>
    match c.callee with
    | .value f => bindO (evo t f) fun fv => bindO (evs t c.args.toList) fun vs => asFn fv fun g cap => .call g (vs ++ cap)
    | .builtin b => bindO (evs t c.args.toList) fun vs => builtE P b c.argTypes.toList vs H
    | .invoke _ _ => .stuck
  | _ => .stuck
/-! ### Calls and code -/
def zeB (P : Program) (f : FuncId) : Bool :=
  match P.funcs[f]? with
  | some fn => fn.body.isSome && !(fn.name == "runtime.NumGoroutine")
  | none => false
def TR (ρ : Nat → Nat) (nx : Nat) (w : World) (t : T) (tmps : Array Value) : Prop := ∀ i, VR ρ nx w (t i) (tmps.getD i undef)
def ACalls (P : Program) (f : FuncId) (args : List Value) (H : AH) (R : Value → AH → Prop) : (fun _ => Prop) R :=
  zeB P f = true ∧ ∀ base ρ w (args' : List Value), Rel base ρ H w → LV ρ H.next w args args' →
    Calls P f args'.toArray w fun e w' => ∃ v' v H' ρ', e = .returned v' ∧ R v H' ∧ Rel base ρ' H' w' ∧ VR ρ' H'.next w' v v' ∧ Ext base ρ H.next w ρ' H'.next w'
def runOut (P : Program) (H : AH) : Out → (K : Value → AH → Prop) → (fun _ => Prop) K
  | .val v H', K => K v H'
  | .unit H', K => K undef H'
  | .call f args, K => ACalls P f args H K
  | .need p o, K => p ∧ runOut P H o K
  | .alias a b c, K => runOut P H a K ∨ (runOut P H b K ∧ runOut P H c K)
  | .stuck, _ => False
def gv (all : List Oper) (t : T) (j : Nat) : Value :=
  match (all[j]?).bind (·.dst) with
  | some d => t d
  | none => undef
def condW (v : Value) (want : Bool) (A B : Prop) : (fun _ => Prop) (A, B) :=
  match v with
  | .bool b => if b = want then A else B
  | .tuple xs => if xs.size = 0 then B else False
  | _ => False
def awpOps (P : Program) (all : List Oper) (Q : T → AH → Prop) : (os : List Oper) → T → AH → (fun _ => Prop) (all, Q, os)
  | [], t, H => Q t H
  | o :: os, t, H =>
    match o.guard with
    | none => runOut P H (evalOp P t H o.op) fun v H' => awpOps P all Q os (updO t o.dst v) H'
    | some g => condW (gv all t g.1) g.2 (runOut P H (evalOp P t H o.op) fun v H' => awpOps P all Q os (updO t o.dst v) H') (awpOps P all Q os (updO t o.dst undef) H)
def St (base : Nat) (ρ : Nat → Nat) (t : T) (H : AH) (tmps : Array Value) (w : World) : Prop := Rel base ρ H w ∧ TR ρ H.next w t tmps
def dstB (n : Nat) : Code → Bool
  | .region _ ops _ => ops.toList.all fun o => match o.dst with | some d => decide (d < n) | none => true
  | .seq a b => dstB n a && dstB n b
  | .cond _ a b => dstB n a && dstB n b
  | .block _ c => dstB n c
  | .loop c => dstB n c
  | _ => true
def Sem (P : Program) (c : Code) (Q : Exit → T → AH → Prop) (t : T) (H : AH) : Prop :=
  ∀ base ρ w tmps (QC : Exit → Act → World → Prop), St base ρ t H tmps w → dstB tmps.size c = true →
    (∀ e t' H' ρ' w' tmps', Q e t' H' → St base ρ' t' H' tmps' w' → Ext base ρ H.next w ρ' H'.next w' → tmps'.size = tmps.size → QC e ⟨tmps', []⟩ w') →
    c.wp P QC ⟨tmps, []⟩ w
def condC (v : Option Value) (A B : Prop) : (fun _ => Prop) (A, B) :=
  match v with
  | some (.bool b) => if b = true then A else B
  | _ => False
def seqQ (A : T → AH → Prop) (Q : Exit → T → AH → Prop) : Exit → T → AH → (fun _ => Prop) (A, Q)
  | .normal, t, H => A t H
  | e, t, H => Q e t H
def blockQ (id : Nat) (Q : Exit → T → AH → Prop) : Exit → T → AH → (fun _ => Prop) Q
  | .exit i, t, H => if i = id then Q .normal t H else Q (.exit i) t H
  | e, t, H => Q e t H
def awp (P : Program) : (c : Code) → (Q : Exit → T → AH → Prop) → T → AH → (fun _ => Prop) (c, Q)
  | .skip, Q, t, H => Q .normal t H
  | .region _ ops false, Q, t, H => awpOps P ops.toList (Q .normal) ops.toList t H
  | .region id ops true, Q, t, H => Sem P (.region id ops true) (seqQ (Q .normal) fun _ _ _ => False) t H
  | .seq a b, Q, t, H => awp P a (seqQ (awp P b Q) Q) t H
  | .cond c a b, Q, t, H => condC (evo t c) (awp P a Q t H) (awp P b Q t H)
  | .block id c, Q, t, H => awp P c (blockQ id Q) t H
  | .loop c, Q, t, H => ∃ I : Nat → T → AH → Prop, (∃ n, I n t H) ∧ ∀ n t' H', I n t' H' → awp P c (seqQ (fun t'' H'' => ∃ m, m < n ∧ I m t'' H'') Q) t' H'
  | .exit id, Q, t, H => Q (.exit id) t H
  | .ret, Q, t, H => Q .ret t H
  | _, _, _, _ => False
def res1 (P : Program) (t : T) (H : AH) : ResultVar → Option Value
  | .tmp i => some (t i)
  | .cell a ty => (ti P ty).bind fun I => match t a with
    | .pointer (some ⟨i, o, none⟩) => (H.row i).bind fun r => if I.d.isAgg = true then (if o + I.size ≤ r.cells.length ∧ r.rw = true then some (.agg (seg r.cells o I.size).toArray) else none) else (if r.rw = true then r.cells[o]? else none)
    | _ => none
def resL (P : Program) (t : T) (H : AH) : List ResultVar → Option (List Value)
  | [] => some []
  | r :: rs => (res1 P t H r).bind fun v => (resL P t H rs).bind fun vs => some (v :: vs)
def pack : List Value → Value
  | [] => .tuple #[]
  | [v] => v
  | u :: v :: vs => .tuple (u :: v :: vs).toArray
def resV (P : Program) (rs : List ResultVar) (t : T) (H : AH) : Option Value :=
  (resL P t H rs).bind fun vs => some (pack vs)
def retQ (P : Program) (rs : List ResultVar) (R : Value → AH → Prop) : Exit → T → AH → (fun _ => Prop) (rs, R)
  | .ret, t, H => ∃ v, resV P rs t H = some v ∧ R v H
  | .normal, t, H => ∃ v, resV P rs t H = some v ∧ R v H
  | _, _, _ => False
def init (args : List Value) : T := fun i => args.getD i undef
/-! ### How simp goes through it: only what comes next is looked at -/
@[congr] theorem bindO_congr {α : Type} {x y : Option α} {f : α → Out} (h : x = y) : bindO x f = bindO y f := by rw [h]
@[congr] theorem asI_congr {v u : Value} {f : IntKind → Int → Out} (h : v = u) : asI v f = asI u f := by rw [h]
@[congr] theorem asB_congr {v u : Value} {f : Bool → Out} (h : v = u) : asB v f = asB u f := by rw [h]
@[congr] theorem asP_congr {v u : Value} {f : Nat → Nat → Out} (h : v = u) : asP v f = asP u f := by rw [h]
@[congr] theorem asSl_congr {v u : Value} {n : Out} {f : Nat → Nat → Option Nat → Nat → Nat → Out} (h : v = u) : asSl v n f = asSl u n f := by rw [h]
@[congr] theorem asAgg_congr {v u : Value} {f : List Value → Out} (h : v = u) : asAgg v f = asAgg u f := by rw [h]
@[congr] theorem asTup_congr {v u : Value} {f : List Value → Out} (h : v = u) : asTup v f = asTup u f := by rw [h]
@[congr] theorem asStr_congr {v u : Value} {f : ByteArray → Out} (h : v = u) : asStr v f = asStr u f := by rw [h]
@[congr] theorem asFn_congr {v u : Value} {f : FuncId → List Value → Out} (h : v = u) : asFn v f = asFn u f := by rw [h]
@[congr] theorem asCells_congr {v u : Value} {f : List Value → Out} (h : v = u) : zcI v f = zcI u f := by rw [h]
@[congr] theorem slT_congr {d u : TD} {f : TypeId → Out} (h : d = u) : slT d f = slT u f := by rw [h]
@[congr] theorem stT_congr {d u : TD} {f : List (Nat × TypeId) → Out} (h : d = u) : stT d f = stT u f := by rw [h]
@[congr] theorem oI_congr {t t' : T} {x y : Option Operand} {f : Option Int → Out} (h : t = t') (hx : x = y) : oI t x f = oI t' y f := by rw [h, hx]
@[congr] theorem runOut_congr {P : Program} {H : AH} {o u : Out} {K : Value → AH → Prop} (h : o = u) : runOut P H o K = runOut P H u K := by rw [h]
@[congr] theorem condW_congr {v u : Value} {b : Bool} {A B : Prop} (h : v = u) : condW v b A B = condW u b A B := by rw [h]
@[congr] theorem condC_congr {v u : Option Value} {A B : Prop} (h : v = u) : condC v A B = condC u A B := by rw [h]
@[congr] theorem awpOps_congr {P : Program} {all os : List Oper} {Q : T → AH → Prop} {t t' : T} {H H' : AH} (h : t = t') (k : H = H') : awpOps P all Q os t H = awpOps P all Q os t' H' := by rw [h, k]
@[congr] theorem awp_congr {P : Program} {c : Code} {Q : Exit → T → AH → Prop} {t t' : T} {H H' : AH} (h : t = t') (k : H = H') : awp P c Q t H = awp P c Q t' H' := by rw [h, k]
@[congr] theorem ACalls_congr {P : Program} {f : FuncId} {a b : List Value} {H H' : AH} {R : Value → AH → Prop} (h : a = b) (k : H = H') : ACalls P f a H R = ACalls P f b H' R := by rw [h, k]
@[congr] theorem seqQ_congr {A : T → AH → Prop} {Q : Exit → T → AH → Prop} {e e' : Exit} {t t' : T} {H H' : AH} (h0 : e = e') (h : t = t') (k : H = H') : seqQ A Q e t H = seqQ A Q e' t' H' := by rw [h0, h, k]
@[congr] theorem blockQ_congr {id : Nat} {Q : Exit → T → AH → Prop} {e e' : Exit} {t t' : T} {H H' : AH} (h0 : e = e') (h : t = t') (k : H = H') : blockQ id Q e t H = blockQ id Q e' t' H' := by rw [h0, h, k]
@[congr] theorem retQ_congr {P : Program} {rs : List ResultVar} {R : Value → AH → Prop} {e e' : Exit} {t t' : T} {H H' : AH} (h0 : e = e') (h : t = t') (k : H = H') : retQ P rs R e t H = retQ P rs R e' t' H' := by rw [h0, h, k]
theorem zaZ {α : Type} (a : α) (f : α → Out) : bindO (some a) f = f a := (rfl)
theorem asI_int (k : IntKind) (n : Int) (f : IntKind → Int → Out) : asI (.int k n) f = f k n := (rfl)
theorem asB_bool (b : Bool) (f : Bool → Out) : asB (.bool b) f = f b := (rfl)
theorem asP_ptr (i o : Nat) (f : Nat → Nat → Out) : asP (.pointer (some ⟨i, o, none⟩)) f = f i o := (rfl)
theorem zc5 (n c : Nat) (n0 : Out) (f : Nat → Nat → Option Nat → Nat → Nat → Out) : asSl (.slice none n c) n0 f = n0 := (rfl)
theorem zbD (i o : Nat) (s : Option Nat) (n c : Nat) (n0 : Out) (f : Nat → Nat → Option Nat → Nat → Nat → Out) : asSl (.slice (some ⟨i, o, s⟩) n c) n0 f = f i o s n c := (rfl)
theorem asAgg_agg (cs : Array Value) (f : List Value → Out) : asAgg (.agg cs) f = f cs.toList := (rfl)
theorem asTup_tup (cs : Array Value) (f : List Value → Out) : asTup (.tuple cs) f = f cs.toList := (rfl)
theorem asStr_str (s : ByteArray) (f : ByteArray → Out) : asStr (.string s) f = f s := (rfl)
theorem asFn_fn (g : FuncId) (cap : Array Value) (f : FuncId → List Value → Out) : asFn (.func (.func g) #[] cap) f = f g cap.toList := (rfl)
theorem asCells_agg (cs : Array Value) (f : List Value → Out) : zcI (.agg cs) f = f cs.toList := (rfl)
theorem asCells_int (k : IntKind) (n : Int) (f : List Value → Out) : zcI (.int k n) f = f [.int k n] := (rfl)
theorem asCells_bool (b : Bool) (f : List Value → Out) : zcI (.bool b) f = f [.bool b] := (rfl)
theorem asCells_slice (a : Option Addr) (n c : Nat) (f : List Value → Out) : zcI (.slice a n c) f = f [.slice a n c] := (rfl)
theorem asCells_str (s : ByteArray) (f : List Value → Out) : zcI (.string s) f = f [.string s] := (rfl)
theorem asCells_fn (g : Fn) (x y : Array Value) (f : List Value → Out) : zcI (.func g x y) f = f [.func g x y] := (rfl)
theorem asCells_ptr (a : Option Addr) (f : List Value → Out) : zcI (.pointer a) f = f [.pointer a] := (rfl)
theorem slT_sl (e : TypeId) (f : TypeId → Out) : slT (.slice e) f = f e := (rfl)
theorem stT_st (fs : List (Nat × TypeId)) (f : List (Nat × TypeId) → Out) : stT (.struct fs) f = f fs := (rfl)
theorem oI_none (t : T) (f : Option Int → Out) : oI t none f = f none := (rfl)
theorem oI_some (t : T) (x : Operand) (f : Option Int → Out) : oI t (some x) f = bindO (evo t x) fun v => asI v fun _ n => f (some n) := (rfl)
theorem zaQ (P : Program) (H : AH) (v : Value) (H' : AH) (K : Value → AH → Prop) : runOut P H (.val v H') K = K v H' := (rfl)
theorem runOut_unit (P : Program) (H : AH) (H' : AH) (K : Value → AH → Prop) : runOut P H (.unit H') K = K undef H' := (rfl)
theorem runOut_call (P : Program) (H : AH) (f : FuncId) (a : List Value) (K : Value → AH → Prop) : runOut P H (.call f a) K = ACalls P f a H K := (rfl)
theorem zaE (P : Program) (H : AH) (p : Prop) (o : Out) (K : Value → AH → Prop) : runOut P H (.need p o) K = (p ∧ runOut P H o K) := (rfl)
theorem condW_undef (want : Bool) (A B : Prop) : condW undef want A B = B := (rfl)
theorem awpOps_nil (P : Program) (all : List Oper) (Q : T → AH → Prop) (t : T) (H : AH) : awpOps P all Q [] t H = Q t H := (rfl)
theorem awpOps_cons (P : Program) (all : List Oper) (Q : T → AH → Prop) (d : Option Tmp) (op : Op) (ty : TypeId) (pos : String) (af : Array Edge) (os : List Oper) (t : T) (H : AH) :
    awpOps P all Q (⟨d, op, ty, pos, af, none⟩ :: os) t H = runOut P H (evalOp P t H op) fun v H' => awpOps P all Q os (updO t d v) H' := (rfl)
theorem awpOps_guard (P : Program) (all : List Oper) (Q : T → AH → Prop) (d : Option Tmp) (op : Op) (ty : TypeId) (pos : String) (af : Array Edge) (j : Nat) (w : Bool) (os : List Oper) (t : T) (H : AH) :
    awpOps P all Q (⟨d, op, ty, pos, af, some (j, w)⟩ :: os) t H =
      condW (gv all t j) w (runOut P H (evalOp P t H op) fun v H' => awpOps P all Q os (updO t d v) H') (awpOps P all Q os (updO t d undef) H) := (rfl)
theorem upd_apply (t : T) (i : Nat) (v : Value) (j : Nat) : upd t i v j = if j = i then v else t j := (rfl)
theorem updO_some (t : T) (i : Nat) (v : Value) : updO t (some i) v = upd t i v := (rfl)
theorem updO_none (t : T) (v : Value) : updO t none v = t := (rfl)
theorem awp_skip (P : Program) (Q : Exit → T → AH → Prop) (t : T) (H : AH) : awp P .skip Q t H = Q .normal t H := (rfl)
theorem awp_ret (P : Program) (Q : Exit → T → AH → Prop) (t : T) (H : AH) : awp P .ret Q t H = Q .ret t H := (rfl)
theorem awp_exit (P : Program) (Q : Exit → T → AH → Prop) (t : T) (H : AH) (id : Nat) : awp P (.exit id) Q t H = Q (.exit id) t H := (rfl)
theorem zeR (P : Program) (Q : Exit → T → AH → Prop) (t : T) (H : AH) (a b : Code) : awp P (.seq a b) Q t H = awp P a (seqQ (awp P b Q) Q) t H := (rfl)
theorem awp_cond (P : Program) (Q : Exit → T → AH → Prop) (t : T) (H : AH) (c : Operand) (a b : Code) : awp P (.cond c a b) Q t H = condC (evo t c) (awp P a Q t H) (awp P b Q t H) := (rfl)
theorem awp_block (P : Program) (Q : Exit → T → AH → Prop) (t : T) (H : AH) (id : Nat) (c : Code) : awp P (.block id c) Q t H = awp P c (blockQ id Q) t H := (rfl)
theorem awp_region (P : Program) (Q : Exit → T → AH → Prop) (t : T) (H : AH) (id : Nat) (ops : List Oper) : awp P (.region id ops.toArray false) Q t H = awpOps P ops (Q .normal) ops t H := (rfl)
theorem pack_0 : pack [] = .tuple #[] := (rfl)
theorem pack_1 (v : Value) : pack [v] = v := (rfl)
theorem pack_2 (u v : Value) (vs : List Value) : pack (u :: v :: vs) = .tuple (u :: v :: vs).toArray := (rfl)
theorem res1_tmp (P : Program) (t : T) (H : AH) (i : Nat) : res1 P t H (.tmp i) = some (t i) := (rfl)
theorem resL_nil (P : Program) (t : T) (H : AH) : resL P t H [] = some [] := (rfl)
theorem resL_cons (P : Program) (t : T) (H : AH) (r : ResultVar) (rs : List ResultVar) : resL P t H (r :: rs) = (res1 P t H r).bind fun v => (resL P t H rs).bind fun vs => some (v :: vs) := (rfl)
theorem evo_tmp (t : T) (i : Nat) : evo t (.tmp i) = some (t i) := (rfl)
theorem evo_func (t : T) (f : FuncId) : evo t (.func f) = some (.func (.func f) #[] #[]) := (rfl)
theorem evo_int (t : T) (k : IntKind) (n : Int) : evo t (.const (.int k n)) = some (.int k n) := (rfl)
theorem evo_bool (t : T) (b : Bool) : evo t (.const (.bool b)) = some (.bool b) := (rfl)
theorem evo_str (t : T) (s : ByteArray) : evo t (.const (.string s)) = some (.string s) := (rfl)
theorem evo_nil (t : T) : evo t (.const (.slice none 0 0)) = some (.slice none 0 0) := (rfl)
theorem evs_nil (t : T) : evs t [] = some [] := (rfl)
theorem evs_cons (t : T) (x : Operand) (xs : List Operand) : evs t (x :: xs) = (evo t x).bind fun v => (evs t xs).bind fun vs => some (v :: vs) := (rfl)
theorem evp_nil (t : T) : evp t [] = some [] := (rfl)
theorem evp_cons (t : T) (i : Nat) (x : Operand) (xs : List (Nat × Operand)) : evp t ((i, x) :: xs) = (evo t x).bind fun v => (evp t xs).bind fun vs => some ((i, v) :: vs) := (rfl)
end Go.Abs
end

section
namespace Go.Abs
open Go Go.RowKit
structure TIOK (P : Program) (t : TypeId) (I : TI) : Prop where
  und : ∃ d, P.underlying t = some d ∧ I.d = tdOf d
  info : ∃ i z, P.info? t = some i ∧ i.zero = some z ∧ I.size = i.size ∧ I.bytes = i.bytes ∧ I.zero = z.cells.toList ∧ zcV z = true ∧ z.cells.size = i.size
  flat : ∀ v ∈ I.zero, scal v = true
  len : I.zero.length = I.size
section
variable {P : Program} {t : TypeId} {I : TI}
theorem ti_ok (h : ti P t = some I) : TIOK P t I := by
  unfold ti at h
  split at h
  · rename_i d i hd hi
    split at h
    · rename_i z hz
      split at h
      · rename_i hc
        simp only [Bool.and_eq_true, beq_iff_eq, List.all_eq_true] at hc
        cases h
        exact ⟨⟨d, hd, rfl⟩, ⟨i, z, hi, hz, rfl, rfl, rfl, hc.2, hc.1.2⟩, hc.1.1, by simpa using hc.1.2⟩
      · cases h
    · cases h
  · cases h
theorem TIOK.slice (h : TIOK P t I) {e : TypeId} (hd : I.d = .slice e) : P.underlying t = some (.slice e) := by
  obtain ⟨d, hu, e1⟩ := h.und
  rw [e1] at hd
  cases d <;> simp [tdOf] at hd
  subst hd; exact hu
theorem TIOK.array (h : TIOK P t I) {n : Nat} {e : TypeId} (hd : I.d = .array n e) : P.underlying t = some (.array n e) := by
  obtain ⟨d, hu, e1⟩ := h.und
  rw [e1] at hd
  cases d <;> simp [tdOf] at hd
  obtain ⟨rfl, rfl⟩ := hd; exact hu
theorem TIOK.struct (h : TIOK P t I) {fs : List (Nat × TypeId)} (hd : I.d = .struct fs) : ∃ F, P.underlying t = some (.struct F) ∧ fs = F.toList.map fun f => (f.offset, f.type) := by
  obtain ⟨d, hu, e1⟩ := h.und
  rw [e1] at hd
  cases d <;> simp [tdOf] at hd
  exact ⟨_, hu, hd.symm⟩
theorem TIOK.str (h : TIOK P t I) (hd : I.d = .str) : P.underlying t = some .string := by
  obtain ⟨d, hu, e1⟩ := h.und
  rw [e1] at hd
  cases d <;> simp [tdOf] at hd
  exact hu
theorem TIOK.int (h : TIOK P t I) {k : IntKind} (hd : I.d = .int k) : P.underlying t = some (.int k) := by
  obtain ⟨d, hu, e1⟩ := h.und
  rw [e1] at hd
  cases d <;> simp [tdOf] at hd
  subst hd; exact hu
theorem TIOK.bool (h : TIOK P t I) (hd : I.d = .bool) : P.underlying t = some .bool := by
  obtain ⟨d, hu, e1⟩ := h.und
  rw [e1] at hd
  cases d <;> simp [tdOf] at hd
  exact hu
theorem TIOK.isAgg (h : TIOK P t I) (w : World) : (isAgg t).run P w = .ok I.d.isAgg w := by
  obtain ⟨d, hu, e⟩ := h.und
  unfold Go.isAgg
  rw [Sem.run_bind, run_underlying hu]
  rw [e]
  cases d <;> rfl
theorem TIOK.sizeOf (h : TIOK P t I) (w : World) : (sizeOf t).run P w = .ok I.size w := by
  obtain ⟨i, z, hi, _, hs, _⟩ := h.info
  simp [Go.sizeOf, typeInfo, hi, hs]
end
section
variable {P : Program} {base : Nat} {ρ : Nat → Nat} {H : AH} {w : World} {t : T} {tmps : Array Value}
theorem evo_ok (hT : TR ρ H.next w t tmps) {x : Operand} {v : Value} (h : evo t x = some v) : VR ρ H.next w v (Act.eval ⟨tmps, []⟩ x) := by
  cases x with
  | tmp i => simp [evo] at h; subst h; exact hT i
  | const c =>
    simp only [evo] at h
    split at h
    · rename_i hs; cases h; exact VR.scal hs
    · cases h
  | func f =>
    simp [evo] at h; subst h
    exact .one (.func _ _ _ rfl (fun j x y hx => by simp at hx))
  | global g => simp [evo] at h
theorem evs_ok (hT : TR ρ H.next w t tmps) : ∀ {xs : List Operand} {vs : List Value}, evs t xs = some vs → LV ρ H.next w vs (xs.map (Act.eval ⟨tmps, []⟩))
  | [], vs, h => by simp [evs] at h; subst h; exact LV.nil
  | x :: xs, vs, h => by
    simp only [evs] at h
    cases h1 : evo t x with
    | none => simp [h1] at h
    | some v =>
      cases h2 : evs t xs with
      | none => simp [h1, h2] at h
      | some us =>
        simp [h1, h2] at h
        subst h
        exact LV.cons (evo_ok hT h1) (evs_ok hT h2)
def PV (ρ : Nat → Nat) (nx : Nat) (w : World) (xs ys : List (Nat × Value)) : Prop :=
  xs.length = ys.length ∧ ∀ (j : Nat) x y, xs[j]? = some x → ys[j]? = some y → x.1 = y.1 ∧ VR ρ nx w x.2 y.2
theorem evp_ok (hT : TR ρ H.next w t tmps) : ∀ {xs : List (Nat × Operand)} {vs : List (Nat × Value)}, evp t xs = some vs →
    PV ρ H.next w vs (xs.map fun p => (p.1, Act.eval ⟨tmps, []⟩ p.2))
  | [], vs, h => by simp [evp] at h; subst h; exact ⟨rfl, fun j x y hx => by simp at hx⟩
  | (i, x) :: xs, vs, h => by
    simp only [evp] at h
    cases h1 : evo t x with
    | none => simp [h1] at h
    | some v =>
      cases h2 : evp t xs with
      | none => simp [h1, h2] at h
      | some us =>
        simp [h1, h2] at h
        subst h
        obtain ⟨hl, hp⟩ := evp_ok hT h2
        refine ⟨by simp [hl], fun j x' y hx hy => ?_⟩
        rcases j with _ | j
        · simp at hx hy; subst hx; subst hy; exact ⟨rfl, evo_ok hT h1⟩
        · simp at hx hy
          exact hp j x' y hx (by simpa using hy)
end
def OutS (P : Program) (o : Oper) (tmps : Array Value) (base : Nat) (ρ : Nat → Nat) (H : AH) (w : World) : Out → Prop
  | .val v H' => ∃ v' w' ρ', (execOp (Act.eval ⟨tmps, []⟩) o).run P w = .ok (.value v') w' ∧ Rel base ρ' H' w' ∧ Ext base ρ H.next w ρ' H'.next w' ∧ VR ρ' H'.next w' v v'
  | .unit H' => ∃ w' ρ', (execOp (Act.eval ⟨tmps, []⟩) o).run P w = .ok .skip w' ∧ Rel base ρ' H' w' ∧ Ext base ρ H.next w ρ' H'.next w'
  | .call f args => ∃ args' : List Value, (execOp (Act.eval ⟨tmps, []⟩) o).run P w = (callFunc f args'.toArray).run P w ∧ LV ρ H.next w args args'
  | .need p o' => p → OutS P o tmps base ρ H w o'
  | .alias a b c => OutS P o tmps base ρ H w a ∧ (OutS P o tmps base ρ H w b ∨ OutS P o tmps base ρ H w c)
  | .stuck => True
section
variable {P : Program} {o : Oper} {tmps : Array Value} {base : Nat} {ρ : Nat → Nat} {H : AH} {w : World}
theorem OutS.bind {α : Type} {x : Option α} {f : α → Out} (h : ∀ a, x = some a → OutS P o tmps base ρ H w (f a)) : OutS P o tmps base ρ H w (bindO x f) := by
  cases x with
  | none => trivial
  | some a => exact h a rfl
theorem OutS.int {v : Value} {f : IntKind → Int → Out} (h : ∀ k n, v = .int k n → OutS P o tmps base ρ H w (f k n)) : OutS P o tmps base ρ H w (asI v f) := by
  unfold asI; split
  · exact h _ _ rfl
  · trivial
theorem OutS.bool {v : Value} {f : Bool → Out} (h : ∀ b, v = .bool b → OutS P o tmps base ρ H w (f b)) : OutS P o tmps base ρ H w (asB v f) := by
  unfold asB; split
  · exact h _ rfl
  · trivial
theorem OutS.ptr {v : Value} {f : Nat → Nat → Out} (h : ∀ i q, v = .pointer (some ⟨i, q, none⟩) → OutS P o tmps base ρ H w (f i q)) : OutS P o tmps base ρ H w (asP v f) := by
  unfold asP; split
  · exact h _ _ rfl
  · trivial
theorem OutS.sl {v : Value} {n0 : Out} {f : Nat → Nat → Option Nat → Nat → Nat → Out} (h0 : ∀ n c, v = .slice none n c → OutS P o tmps base ρ H w n0)
    (h : ∀ i q s n c, v = .slice (some ⟨i, q, s⟩) n c → OutS P o tmps base ρ H w (f i q s n c)) : OutS P o tmps base ρ H w (asSl v n0 f) := by
  unfold asSl; split
  · exact h0 _ _ rfl
  · exact h _ _ _ _ _ rfl
  · trivial
theorem OutS.agg {v : Value} {f : List Value → Out} (h : ∀ cs, v = .agg cs → OutS P o tmps base ρ H w (f cs.toList)) : OutS P o tmps base ρ H w (asAgg v f) := by
  unfold asAgg; split
  · exact h _ rfl
  · trivial
theorem OutS.tup {v : Value} {f : List Value → Out} (h : ∀ cs, v = .tuple cs → OutS P o tmps base ρ H w (f cs.toList)) : OutS P o tmps base ρ H w (asTup v f) := by
  unfold asTup; split
  · exact h _ rfl
  · trivial
theorem OutS.str {v : Value} {f : ByteArray → Out} (h : ∀ s, v = .string s → OutS P o tmps base ρ H w (f s)) : OutS P o tmps base ρ H w (asStr v f) := by
  unfold asStr; split
  · exact h _ rfl
  · trivial
theorem OutS.fn {v : Value} {f : FuncId → List Value → Out} (h : ∀ g cap, v = .func (.func g) #[] cap → OutS P o tmps base ρ H w (f g cap.toList)) : OutS P o tmps base ρ H w (asFn v f) := by
  unfold asFn; split
  · rename_i g first cap
    split
    · rename_i hs
      obtain rfl : first = #[] := Array.eq_empty_of_size_eq_zero hs
      exact h _ _ rfl
    · trivial
  · trivial
theorem OutS.cells {v : Value} {f : List Value → Out} (h : (∀ xs, v ≠ .tuple xs) → OutS P o tmps base ρ H w (f v.cells.toList)) : OutS P o tmps base ρ H w (zcI v f) := by
  unfold zcI; split
  · exact h (fun _ e => by cases e)
  · trivial
  · rename_i h1 h2
    have := h (fun xs e => h2 xs e)
    have e : v.cells.toList = [v] := by cases v <;> simp_all [Value.cells]
    rwa [e] at this
theorem OutS.slt {d : TD} {f : TypeId → Out} (h : ∀ e, d = .slice e → OutS P o tmps base ρ H w (f e)) : OutS P o tmps base ρ H w (slT d f) := by
  unfold slT; split
  · exact h _ rfl
  · trivial
theorem OutS.stt {d : TD} {f : List (Nat × TypeId) → Out} (h : ∀ e, d = .struct e → OutS P o tmps base ρ H w (f e)) : OutS P o tmps base ρ H w (stT d f) := by
  unfold stT; split
  · exact h _ rfl
  · trivial
theorem OutS.keep (R : Rel base ρ H w) {v v' : Value} (hr : (execOp (Act.eval ⟨tmps, []⟩) o).run P w = .ok (.value v') w) (hv : VR ρ H.next w v v') :
    OutS P o tmps base ρ H w (.val v H) := ⟨v', w, ρ, hr, R, Ext.refl _ _ _ _, hv⟩
end
/-! ### Lists -/
theorem zdJ (l : List Value) (o n : Nat) (vs : List Value) (h : o + vs.length ≤ n) (hn : n ≤ l.length) : (splice l o vs).take n = splice (l.take n) o vs := by
  unfold splice
  have e1 : (l.take n).take o = l.take o := by rw [List.take_take]; congr 1; omega
  have e2 : (l.take n).drop (o + vs.length) = (l.drop (o + vs.length)).take (n - (o + vs.length)) := by rw [List.drop_take]
  rw [e1, e2, List.take_append, List.take_append]
  have l1 : (l.take o).length = o := by simp; omega
  have l2 : (l.take o ++ vs).length = o + vs.length := by simp; omega
  rw [l1, l2]
  congr 1
  congr 1
  · exact List.take_of_length_le (by omega)
  · exact List.take_of_length_le (by omega)
theorem zbI (l : List Value) (o : Nat) (vs : List Value) (h : o + vs.length ≤ l.length) : (splice l o vs).length = l.length := by
  unfold splice; simp; omega
theorem splice_one (l : List Value) (o : Nat) (v : Value) (h : o < l.length) : splice l o [v] = l.set o v := by
  unfold splice
  simp only [List.length_singleton]
  rw [List.set_eq_take_append_cons_drop, if_pos h]
  simp
theorem L1.splice {ρ : Nat → Nat} {nx : Nat} {w : World} {a b u v : List Value} (h : L1 ρ nx w a b) (k : L1 ρ nx w u v) (o : Nat) : L1 ρ nx w (splice a o u) (splice b o v) := by
  unfold Abs.splice
  rw [← k.1]
  exact ((h.take o).append k).append (h.drop _)
/-! ### The operations -/
section
variable {P : Program} {base : Nat} {ρ : Nat → Nat} {H : AH} {w : World} {t : T} {tmps : Array Value} {dst : Option Tmp} {ty : TypeId} {pos : String} {af : Array Edge} {gd : Option (Nat × Bool)}
theorem s_move (R : Rel base ρ H w) (hT : TR ρ H.next w t tmps) (x : Operand) : OutS P ⟨dst, .move x, ty, pos, af, gd⟩ tmps base ρ H w (evalOp P t H (.move x)) := by
  unfold evalOp
  exact .bind fun v hv => .keep R rfl (evo_ok hT hv)
theorem s_assign (R : Rel base ρ H w) (hT : TR ρ H.next w t tmps) (x : Operand) : OutS P ⟨dst, .assign x, ty, pos, af, gd⟩ tmps base ρ H w (evalOp P t H (.assign x)) := by
  unfold evalOp
  exact .bind fun v hv => .keep R rfl (evo_ok hT hv)
theorem s_pick (R : Rel base ρ H w) (hT : TR ρ H.next w t tmps) (c a b : Operand) : OutS P ⟨dst, .pick c a b, ty, pos, af, gd⟩ tmps base ρ H w (evalOp P t H (.pick c a b)) := by
  unfold evalOp
  refine .bind fun vc hc => .bind fun va ha => .bind fun vb hb => .bool fun q hq => ?_
  subst hq
  have ec := (evo_ok hT hc).bool
  refine .keep R (v' := if q = true then Act.eval ⟨tmps, []⟩ a else Act.eval ⟨tmps, []⟩ b) ?_ ?_
  · simp [execOp, ec, asBool]
  · cases q
    · simpa using evo_ok hT hb
    · simpa using evo_ok hT ha
theorem zeY (w : World) (e : TypeId) (v : Value) : (newVar e v).run P w = .ok ⟨w.heap.size, 0, none⟩ (w.alloc (.cells v.cells e)) := by
  simp [newVar, newRow]
theorem zfU (R : Rel base ρ H w) (e : TypeId) {xs : List Value} {cs : Array Value} (h : L1 ρ H.next w xs cs.toList) :
    Rel base (ren ρ H.next w.heap.size) (H.push ⟨e, true, xs⟩) (w.alloc (.cells cs e)) ∧ Ext base ρ H.next w (ren ρ H.next w.heap.size) (H.push ⟨e, true, xs⟩).next (w.alloc (.cells cs e)) :=
  R.push e xs cs (by rw [List.take_of_length_le (by have := h.1; omega)]; exact h)
theorem zdR (ρ : Nat → Nat) (i b : Nat) : ren ρ i b i = b := by unfold ren; rw [if_pos rfl]
theorem s_alloc (R : Rel base ρ H w) (e : TypeId) : OutS P ⟨dst, .alloc e, ty, pos, af, gd⟩ tmps base ρ H w (evalOp P t H (.alloc e)) := by
  unfold evalOp
  refine .bind fun I hI => ?_
  have K := ti_ok hI
  obtain ⟨i, z, hi, hz, _, _, hzz, _, _⟩ := K.info
  obtain ⟨R', E⟩ := zfU R e (xs := I.zero) (cs := z.cells) (by rw [hzz]; exact L1.self (fun v hv => K.flat v (by rw [hzz]; exact hv)))
  refine ⟨.pointer (some ⟨w.heap.size, 0, none⟩), _, _, ?_, R', E, ?_⟩
  · simp [execOp, Instr.alloc, zeroValue, typeInfo, hi, hz, zeY]
  · have h := VR.one (V1.ptr (ρ := ren ρ H.next w.heap.size) (nx := H.next + 1) (w := w.alloc (.cells z.cells e)) H.next 0 (Nat.lt_succ_self _))
    rw [zdR] at h
    exact h
theorem s_box (R : Rel base ρ H w) (hT : TR ρ H.next w t tmps) (e : TypeId) (x : Operand) : OutS P ⟨dst, .box e x, ty, pos, af, gd⟩ tmps base ρ H w (evalOp P t H (.box e x)) := by
  unfold evalOp
  refine .bind fun v hv => .cells fun ht => ?_
  obtain ⟨R', E⟩ := zfU R e ((evo_ok hT hv).cells ht)
  refine ⟨.pointer (some ⟨w.heap.size, 0, none⟩), _, _, ?_, R', E, ?_⟩
  · simp [execOp, Instr.box, zeY]
  · have h := VR.one (V1.ptr (ρ := ren ρ H.next w.heap.size) (nx := H.next + 1) (w := w.alloc (.cells (Act.eval ⟨tmps, []⟩ x).cells e)) H.next 0 (Nat.lt_succ_self _))
    rw [zdR] at h
    exact h
theorem zeG (R : Rel base ρ H w) {T0 : TypeId} {I : TI} (K : TIOK P T0 I) (hd : I.d.isAgg = true) {i q : Nat} {r : Row} (hr : H.row i = some r) (hn : q + I.size ≤ r.cells.length) (hk : r.ok (seg r.cells q I.size)) :
    ∃ ys : List Value, (loadVar T0 ⟨ρ i, q, none⟩).run P w = .ok (.agg ys.toArray) w ∧ L1 ρ H.next w (seg r.cells q I.size) ys := by
  obtain ⟨ys, hl, hc, h1⟩ := R.cells hr hn hk
  refine ⟨ys, ?_, h1⟩
  have hld := run_loadCells_list (P := P) w ⟨ρ i, q, none⟩ ys (fun j v hj => by rw [Addr.add_lit]; exact hc j v hj)
  rw [hl] at hld
  simp [loadVar, K.isAgg, hd, K.sizeOf, hld]
theorem zeE (R : Rel base ρ H w) {T0 : TypeId} {I : TI} (K : TIOK P T0 I) (hd : I.d.isAgg = false) {i q : Nat} {r : Row} {v : Value} (hr : H.row i = some r) (hv : r.cells[q]? = some v) (hk : r.ok [v]) :
    ∃ v', (loadVar T0 ⟨ρ i, q, none⟩).run P w = .ok v' w ∧ V1 ρ H.next w v v' := by
  obtain ⟨v', hc, h1⟩ := R.cell hr hv hk
  exact ⟨v', by simp [loadVar, K.isAgg, hd, hc], h1⟩
theorem s_load (R : Rel base ρ H w) (hT : TR ρ H.next w t tmps) (e : TypeId) (a : Operand) : OutS P ⟨dst, .load e a, ty, pos, af, gd⟩ tmps base ρ H w (evalOp P t H (.load e a)) := by
  unfold evalOp
  refine .bind fun I hI => .bind fun v hv => .ptr fun i q hp => .bind fun r hr => ?_
  have K := ti_ok hI
  subst hp
  obtain ⟨_, _, ev⟩ := (evo_ok hT hv).ptr
  split
  · rename_i hd
    rintro ⟨hn, hk⟩
    obtain ⟨ys, hl, h1⟩ := zeG R K hd hr hn hk
    refine .keep R (v' := .agg ys.toArray) ?_ h1.vr
    simp [execOp, Instr.loadAt, ev, Instr.sureAddr, hl]
  · rename_i hd
    refine .bind fun x hx => ?_
    intro hk
    obtain ⟨v', hl, h1⟩ := zeE R K (by simpa using hd) hr hx hk
    refine .keep R (v' := v') ?_ (.one h1)
    simp [execOp, Instr.loadAt, ev, Instr.sureAddr, hl]
theorem zh2 (R : Rel base ρ H w) {i q : Nat} {r : Row} {xs ys : List Value} (hr : H.row i = some r) (hb : r.rw = true) (hx : L1 ρ H.next w xs ys) (hn : q + xs.length ≤ r.cells.length) :
    ∃ w', (storeCells ⟨ρ i, q, none⟩ ys).run P w = .ok () w' ∧ Rel base ρ (H.setCells i (splice r.cells q xs)) w' ∧ Ext base ρ H.next w ρ (H.setCells i (splice r.cells q xs)).next w' := by
  obtain ⟨_, cs, hcs, hl⟩ := R.rwr i r hr hb
  have hle := Rel.lenLe hl
  have hrun := run_storeCells_at P (ρ i) q r.ty ys 0 cs w hcs (by have := hx.1; omega) hx.all
  simp only [Nat.add_zero] at hrun
  refine ⟨_, hrun, ?_⟩
  refine R.set hr hb hcs ?_ ?_
  · have := hx.1; simp; omega
  · have e : (cs.toList.take q ++ ys ++ cs.toList.drop (q + ys.length)) = splice cs.toList q ys := rfl
    rw [e, zbI _ _ _ (by omega)]
    simp only [List.toList_toArray]
    rw [zdJ _ _ _ _ (by have := hx.1; omega) (by simpa using hle)]
    exact hl.splice hx q
theorem s_store (R : Rel base ρ H w) (hT : TR ρ H.next w t tmps) (e : TypeId) (a x : Operand) : OutS P ⟨dst, .store e a x, ty, pos, af, gd⟩ tmps base ρ H w (evalOp P t H (.store e a x)) := by
  unfold evalOp
  refine .bind fun I hI => .bind fun va hva => .ptr fun i q hp => .bind fun v hv => .bind fun r hr => ?_
  have K := ti_ok hI
  subst hp
  obtain ⟨_, _, ev⟩ := (evo_ok hT hva).ptr
  split
  · refine .agg fun cs hcs => ?_
    rintro ⟨hb, hl, hn⟩
    subst hcs
    obtain ⟨ys, ey, h1⟩ := (evo_ok hT hv).aggs
    obtain ⟨w', hrun, R', E⟩ := zh2 (P := P) R hr hb h1 (q := q) (by omega)
    refine ⟨w', ρ, ?_, R', E⟩
    have hs : ys.size = I.size := by have := h1.1; simp at this; simp at hl; omega
    simp [execOp, Instr.storeAt, ev, Instr.sureAddr, storeVar, ey, Value.cells, K.sizeOf, hs, hrun]
  · rintro ⟨hb, h1, hn, hs⟩
    have hv1 := (evo_ok hT hv).to1 h1
    obtain ⟨w', hrun, R', E⟩ := zh2 (P := P) R hr hb (L1.cons hv1 L1.nil) (q := q) (by simp; omega)
    rw [splice_one _ _ _ hn] at R' E
    refine ⟨w', ρ, ?_, R', E⟩
    have hc : (Act.eval ⟨tmps, []⟩ x).cells = #[Act.eval ⟨tmps, []⟩ x] := by
      have := hv1.oneCell
      cases hz : Act.eval ⟨tmps, []⟩ x <;> simp_all [Value.cells, Value.oneCell']
    simp [execOp, Instr.storeAt, ev, Instr.sureAddr, storeVar, hc, K.sizeOf, hs, hrun]
theorem s_nilCheck (R : Rel base ρ H w) (hT : TR ρ H.next w t tmps) (x : Operand) : OutS P ⟨dst, .nilCheck x, ty, pos, af, gd⟩ tmps base ρ H w (evalOp P t H (.nilCheck x)) := by
  unfold evalOp
  refine .bind fun v hv => ?_
  have hR := evo_ok hT hv
  unfold okNil
  split
  · rename_i a
    obtain ⟨i, q, s⟩ := a
    obtain ⟨h1, h2, h3⟩ := hR.ptr
    exact .keep R (by simp [execOp, h3]) hR
  · obtain ⟨rfl, ys, h3, h4⟩ := hR.func
    exact .keep R (by simp [execOp, h3]) hR
  · trivial
theorem s_unOp (R : Rel base ρ H w) (hT : TR ρ H.next w t tmps) (op : UnOp) (e : TypeId) (x : Operand) : OutS P ⟨dst, .unOp op e x, ty, pos, af, gd⟩ tmps base ρ H w (evalOp P t H (.unOp op e x)) := by
  unfold evalOp
  refine .bind fun v hv => ?_
  have hR := evo_ok hT hv
  unfold unE
  split
  · have e1 := hR.int
    exact .keep R (by simp [execOp, e1, Op.unary, Op.intArith]) (VR.scal rfl)
  · have e1 := hR.bool
    exact .keep R (by simp [execOp, e1, Op.unary]) (VR.scal rfl)
  · trivial
theorem s_convert (R : Rel base ρ H w) (hT : TR ρ H.next w t tmps) (s d : TypeId) (x : Operand) : OutS P ⟨dst, .convert s d x, ty, pos, af, gd⟩ tmps base ρ H w (evalOp P t H (.convert s d x)) := by
  unfold evalOp
  refine .bind fun S hS => .bind fun I hI => .bind fun v hv => ?_
  have hR := evo_ok hT hv
  unfold convE
  split
  · rename_i hs hd
    have e1 := hR.int
    exact .keep R (by simp [execOp, e1, convert, run_underlying ((ti_ok hS).int hs), run_underlying ((ti_ok hI).int hd), Conv.intToInt]) (VR.scal rfl)
  · rename_i hs hd
    have e1 := hR.str
    exact .keep R (by simp [execOp, e1, convert, run_underlying ((ti_ok hS).str hs), run_underlying ((ti_ok hI).str hd)]) (VR.scal rfl)
  · trivial
theorem s_makeFunc (R : Rel base ρ H w) (hT : TR ρ H.next w t tmps) (fn : Fn) (first cap : Array Operand) : OutS P ⟨dst, .makeFunc fn first cap, ty, pos, af, gd⟩ tmps base ρ H w (evalOp P t H (.makeFunc fn first cap)) := by
  simp only [evalOp]
  split
  · rename_i hf
    obtain rfl : first = #[] := Array.eq_empty_of_size_eq_zero hf
    refine .bind fun vs hvs => ?_
    intro h1
    have hL := evs_ok hT hvs
    refine .keep R (v' := .func fn #[] (cap.map (Act.eval ⟨tmps, []⟩))) (by simp [execOp, Instr.makeFunc]) (.one (.func _ _ _ ?_ ?_))
    · have := hL.1; simp at this ⊢; exact this
    · intro j x y hx hy
      have hx' : vs[j]? = some x := by simpa using hx
      have hy' : (cap.toList.map (Act.eval ⟨tmps, []⟩))[j]? = some y := by
        rw [← Array.toList_map]; simpa using hy
      exact (hL.2 j x y hx' hy').to1 (h1 x (List.mem_of_getElem? hx'))
  · trivial
theorem s_extract (R : Rel base ρ H w) (hT : TR ρ H.next w t tmps) (x : Operand) (i : Nat) : OutS P ⟨dst, .extract x i, ty, pos, af, gd⟩ tmps base ρ H w (evalOp P t H (.extract x i)) := by
  unfold evalOp
  refine .bind fun v hv => .tup fun vs hvs => .bind fun u hu => ?_
  subst hvs
  obtain ⟨ys, ey, hL⟩ := (evo_ok hT hv).tuples
  have hi : i < ys.toList.length := by rw [← hL.1]; exact (List.getElem?_eq_some_iff.1 hu).1
  have hy : ys.toList[i]? = some ys.toList[i] := List.getElem?_eq_getElem hi
  refine .keep R (v' := ys.toList[i]) ?_ (hL.2 i _ _ hu hy)
  have : ys[i]? = some ys.toList[i] := by rw [← hy]; simp
  simp [execOp, ey, Instr.extract, this]
theorem run_fieldPlace (w : World) {ft : TypeId} {F : TI} (K : TIOK P ft F) (h : F.size ≠ 0) (f : Field) (hf : f.type = ft) (b q : Nat) :
    (fieldPlace ⟨b, q, none⟩ f).run P w = .ok ⟨b, q + f.offset, none⟩ w := by
  simp [fieldPlace, hf, K.sizeOf, h, Addr.add_lit]
theorem field_of {F : Array Field} {fs : List (Nat × TypeId)} (h : fs = F.toList.map fun f => (f.offset, f.type)) {f : Nat} {q : Nat × TypeId} (hq : fs[f]? = some q) : ∃ fd, F[f]? = some fd ∧ fd.offset = q.1 ∧ fd.type = q.2 := by
  subst h
  simp only [List.getElem?_map, Array.getElem?_toList, Option.map_eq_some_iff] at hq
  obtain ⟨fd, h1, h2⟩ := hq
  subst h2
  exact ⟨fd, h1, rfl, rfl⟩
theorem s_fieldAddr (R : Rel base ρ H w) (hT : TR ρ H.next w t tmps) (e : TypeId) (x : Operand) (f : Nat) : OutS P ⟨dst, .fieldAddr e x f, ty, pos, af, gd⟩ tmps base ρ H w (evalOp P t H (.fieldAddr e x f)) := by
  unfold evalOp
  refine .bind fun I hI => .stt fun fs hfs => .bind fun q hq => .bind fun F hF => .bind fun v hv => .ptr fun i p hp => ?_
  intro hz
  subst hp
  obtain ⟨hi, _, ev⟩ := (evo_ok hT hv).ptr
  obtain ⟨A, hu, hA⟩ := (ti_ok hI).struct hfs
  obtain ⟨fd, h1, h2, h3⟩ := field_of hA hq
  refine .keep R (v' := .pointer (some ⟨ρ i, p + q.1, none⟩)) ?_ (.one (.ptr i _ hi))
  simp [execOp, ev, Instr.fieldAt, run_underlying hu, h1, Instr.sureAddr, run_fieldPlace w (ti_ok hF) hz fd h3, h2]
theorem run_part (w : World) {ft : TypeId} {F : TI} (K : TIOK P ft F) (cs : Array Value) (q : Nat) :
    (part ft cs q).run P w = if F.d.isAgg = true then .ok (.agg (cs.extract q (q + F.size))) w else match cs[q]? with | some v => .ok v w | none => .halt (.stuck "part: no such cell") w := by
  unfold part
  rw [Sem.run_bind, K.isAgg]
  cases h : F.d.isAgg with
  | true => simp [K.sizeOf]
  | false =>
    simp
    cases cs[q]? <;> simp
theorem extract_seg (cs : Array Value) (q n : Nat) : (cs.extract q (q + n)).toList = seg cs.toList q n := by
  unfold seg
  simp [List.extract_eq_take_drop]
theorem part_ok (R : Rel base ρ H w) {o : Oper} {ft : TypeId} {F : TI} (K : TIOK P ft F) {xs ys : Array Value} (hL : L1 ρ H.next w xs.toList ys.toList) (q : Nat)
    (hr : ∀ v, (part ft ys q).run P w = .ok v w → (execOp (Act.eval ⟨tmps, []⟩) o).run P w = .ok (.value v) w) :
    OutS P o tmps base ρ H w (if F.d.isAgg = true then .need (q + F.size ≤ xs.toList.length) (.val (.agg (seg xs.toList q F.size).toArray) H) else bindO (xs.toList[q]?) fun x => .val x H) := by
  split
  · rename_i hd
    intro hn
    refine .keep R (v' := .agg (ys.extract q (q + F.size))) (hr _ ?_) ?_
    · rw [run_part w K, if_pos hd]
    · have h := ((hL.drop q).take F.size).vr
      have e : ys.extract q (q + F.size) = ((ys.toList.drop q).take F.size).toArray := by
        apply Array.ext'; rw [extract_seg]; rfl
      rw [e]; exact h
  · rename_i hd
    refine .bind fun x hx => ?_
    obtain ⟨y, hy, h1⟩ := hL.get hx
    refine .keep R (v' := y) (hr _ ?_) (.one h1)
    have hy' : ys[q]? = some y := by simpa using hy
    rw [run_part w K, if_neg hd, hy']
theorem s_field (R : Rel base ρ H w) (hT : TR ρ H.next w t tmps) (e : TypeId) (x : Operand) (f : Nat) : OutS P ⟨dst, .field e x f, ty, pos, af, gd⟩ tmps base ρ H w (evalOp P t H (.field e x f)) := by
  unfold evalOp
  refine .bind fun I hI => .stt fun fs hfs => .bind fun q hq => .bind fun F hF => .bind fun v hv => .agg fun cs hcs => ?_
  subst hcs
  obtain ⟨ys, ey, hL⟩ := (evo_ok hT hv).aggs
  obtain ⟨A, hu, hA⟩ := (ti_ok hI).struct hfs
  obtain ⟨fd, h1, h2, h3⟩ := field_of hA hq
  refine part_ok R (ti_ok hF) hL q.1 fun v hp => ?_
  simp [execOp, ey, Instr.field, run_underlying hu, h1, asAgg, Go.asAgg, h2, h3, hp]
theorem s_indexAddr (R : Rel base ρ H w) (hT : TR ρ H.next w t tmps) (e : TypeId) (x ix : Operand) : OutS P ⟨dst, .indexAddr e x ix, ty, pos, af, gd⟩ tmps base ρ H w (evalOp P t H (.indexAddr e x ix)) := by
  unfold evalOp
  refine .bind fun I hI => .bind fun v hv => .bind fun vi hvi => .int fun k n hn => ?_
  subst hn
  have ei := (evo_ok hT hvi).int
  split
  · rename_i e' hd
    refine .bind fun E hE => .sl (fun _ _ _ => trivial) fun i q s len c hs => ?_
    rintro ⟨h0, h1⟩
    have hu := (ti_ok hI).slice hd
    subst hs
    have hfin : ∀ a c', a = ⟨ρ i, q, none⟩ ∨ (len = 0 ∧ 0 < q) → Act.eval ⟨tmps, []⟩ x = .slice (some a) len c' → i < H.next →
        OutS P ⟨dst, .indexAddr e x ix, ty, pos, af, gd⟩ tmps base ρ H w (.val (.pointer (some ⟨i, q + n.toNat * E.size, none⟩)) H) := by
      intro q' c' hq' ev hi
      rcases hq' with rfl | ⟨hl, _⟩
      · refine .keep R (v' := .pointer (some ⟨ρ i, q + n.toNat * E.size, none⟩)) ?_ (.one (.ptr i _ hi))
        simp [execOp, ev, ei, Instr.indexAt, asIntOf, run_underlying hu, h0, h1, (ti_ok hE).sizeOf, Addr.add_lit]
      · omega
    cases s with
    | none =>
      obtain ⟨hi, ev⟩ := (evo_ok hT hv).sle
      exact hfin _ c (.inl rfl) ev hi
    | some z =>
      obtain ⟨hi, q', c', ev, _, hq⟩ := (evo_ok hT hv).slu
      exact hfin q' c' (hq.imp (fun h => h.1) id) ev hi
  · rename_i m e' hd
    refine .bind fun E hE => .ptr fun i q hp => ?_
    rintro ⟨h0, h1⟩
    have hu := (ti_ok hI).array hd
    subst hp
    obtain ⟨hi, _, ev⟩ := (evo_ok hT hv).ptr
    refine .keep R (v' := .pointer (some ⟨ρ i, q + n.toNat * E.size, none⟩)) ?_ (.one (.ptr i _ hi))
    simp [execOp, ev, ei, Instr.indexAt, asIntOf, run_underlying hu, Instr.sureAddr, h0, h1, (ti_ok hE).sizeOf, Addr.add_lit]
  · trivial
theorem s_index (R : Rel base ρ H w) (hT : TR ρ H.next w t tmps) (e : TypeId) (x ix : Operand) : OutS P ⟨dst, .index e x ix, ty, pos, af, gd⟩ tmps base ρ H w (evalOp P t H (.index e x ix)) := by
  unfold evalOp
  refine .bind fun I hI => .bind fun v hv => .bind fun vi hvi => .int fun k n hn => ?_
  subst hn
  have ei := (evo_ok hT hvi).int
  split
  · rename_i m e' hd
    refine .bind fun E hE => .agg fun cs hcs => ?_
    rintro ⟨h0, h1⟩
    have hu := (ti_ok hI).array hd
    subst hcs
    obtain ⟨ys, ey, hL⟩ := (evo_ok hT hv).aggs
    refine part_ok R (ti_ok hE) hL _ fun v hp => ?_
    simp [execOp, ey, ei, Instr.index, asIntOf, run_underlying hu, h0, h1, (ti_ok hE).sizeOf, hp]
  · rename_i hd
    refine .str fun s hs => ?_
    rintro ⟨h0, h1⟩
    have hu := (ti_ok hI).str hd
    subst hs
    have es := (evo_ok hT hv).str
    refine .keep R ?_ (VR.scal rfl)
    have hlt : n.toNat < s.size := by omega
    have hg : s[n.toNat]? = some s[n.toNat] := by simp [hlt]
    have hd2 : s.data.toList.getD n.toNat 0 = s[n.toNat] := by
      rw [List.getD_eq_getElem?_getD]
      have : s.data.toList[n.toNat]? = some s[n.toNat] := by
        rw [List.getElem?_eq_getElem (by simpa using hlt)]; rfl
      rw [this]; rfl
    rw [hd2]
    simp [execOp, es, ei, Instr.index, asIntOf, run_underlying hu, h0, hg]
  · trivial
theorem zeP {nx : Nat} (place : Nat → Option (Nat × Nat)) : ∀ (ps qs : List (Nat × Value)) (xs : List Value) (ys : Array Value) (out : List Value), PV ρ nx w ps qs → L1 ρ nx w xs ys.toList →
    fillL place xs ps = some out → ∃ zs : Array Value, Instr.fill place ys qs = some zs ∧ L1 ρ nx w out zs.toList
  | [], [], xs, ys, out, _, hL, h => by
    simp [fillL] at h; subst h
    exact ⟨ys, rfl, hL⟩
  | [], q :: qs, _, _, _, hP, _, _ => by have := hP.1; simp at this
  | p :: ps, [], _, _, _, hP, _, _ => by have := hP.1; simp at this
  | (i, u) :: ps, (j, v) :: qs, xs, ys, out, hP, hL, h => by
    obtain ⟨hij, huv⟩ := hP.2 0 (i, u) (j, v) rfl rfl
    simp only at hij huv
    subst hij
    have hP' : PV ρ nx w ps qs := ⟨by have := hP.1; simp at this; exact this, fun m x y hx hy => hP.2 (m + 1) x y (by simpa using hx) (by simpa using hy)⟩
    simp only [fillL] at h
    cases hp : place i with
    | none => simp [hp] at h
    | some pq =>
      obtain ⟨off, sz⟩ := pq
      simp only [hp, Option.bind_some] at h
      split at h
      · rename_i hc
        obtain ⟨h1, h2, h3⟩ := hc
        have hcv := huv.cells (fun xs e => by subst e; simp [zcV] at h3)
        have hsz : v.cells.size = u.cells.size := by have := hcv.1; simp at this; exact this.symm
        have hlen := hL.1
        have key : ∀ (l : List Value) (k : Nat) (cs : Array Value), (l.zipIdx k).foldl (fun cs (c, j) => cs.setIfInBounds (off + j) c) cs = cs → True := fun _ _ _ _ => trivial
        have fold : ∀ (l : List Value) (k : Nat) (cs : Array Value), off + k + l.length ≤ cs.size →
            ((l.zipIdx k).foldl (fun cs (c, j) => cs.setIfInBounds (off + j) c) cs).toList = splice cs.toList (off + k) l := by
          intro l
          induction l with
          | nil => intro k cs hk; simp [splice]
          | cons c l ih =>
            intro k cs hk
            simp only [List.zipIdx_cons, List.foldl_cons]
            rw [ih (k + 1) _ (by simp at hk ⊢; omega)]
            have hs := list_seg_step cs.toList (off + k) c l (by simp at hk ⊢; omega)
            have e1 : off + (k + 1) = off + k + 1 := by omega
            unfold splice
            rw [e1, Array.toList_setIfInBounds]
            simpa using hs
        have hfold : v.cells.zipIdx.foldl (fun cs (c, j) => cs.setIfInBounds (off + j) c) ys = (splice ys.toList off v.cells.toList).toArray := by
          apply Array.ext'
          have e0 : v.cells.zipIdx.foldl (fun cs (c, j) => cs.setIfInBounds (off + j) c) ys = (v.cells.toList.zipIdx 0).foldl (fun cs (c, j) => cs.setIfInBounds (off + j) c) ys := by
            rw [← Array.foldl_toList, Array.toList_zipIdx]
          rw [e0]
          have := fold v.cells.toList 0 ys (by simp at hlen ⊢; omega)
          simpa using this
        obtain ⟨zs, hz, hl⟩ := zeP place ps qs (splice xs off u.cells.toList) (splice ys.toList off v.cells.toList).toArray out hP' (by simpa using hL.splice hcv off) h
        refine ⟨zs, ?_, hl⟩
        simp only [Instr.fill, hp]
        rw [if_neg (by simp at hlen ⊢; omega), hfold]
        exact hz
      · cases h
theorem zf5 (w : World) : ∀ {fs : List (Nat × TypeId)} {ps : List (Nat × Nat)} (F : List Field), zc8 P fs = some ps → fs = F.map (fun f => (f.offset, f.type)) →
    (F.mapM fun f => (do pure (f.offset, ← Go.sizeOf f.type) : Go.Sem (Nat × Nat))).run P w = .ok ps w
  | [], ps, [], h, _ => by simp [zc8] at h; subst h; simp
  | [], ps, f :: F, _, e => by simp at e
  | (q, ft) :: fs, ps, [], _, e => by simp at e
  | (q, ft) :: fs, ps, f :: F, h, e => by
    simp at e
    obtain ⟨⟨rfl, rfl⟩, e2⟩ := e
    simp only [zc8] at h
    cases h1 : ti P f.type with
    | none => simp [h1] at h
    | some I =>
      cases h2 : zc8 P fs with
      | none => simp [h1, h2] at h
      | some rest =>
        simp [h1, h2] at h
        subst h
        have ih := zf5 w F h2 e2
        simp only [Sem.run_bind, Sem.run_pure, Sem.run_map, bind_pure_comp] at ih ⊢
        simp [List.mapM_cons, (ti_ok h1).sizeOf, ih]
theorem s_build (R : Rel base ρ H w) (hT : TR ρ H.next w t tmps) (e : TypeId) (parts : Array (Nat × Operand)) : OutS P ⟨dst, .build e parts, ty, pos, af, gd⟩ tmps base ρ H w (evalOp P t H (.build e parts)) := by
  unfold evalOp
  refine .bind fun I hI => .bind fun ps hps => .bind fun pl hpl => .bind fun cs hcs => ?_
  have K := ti_ok hI
  obtain ⟨i, z, hi, hz, _, _, hzz, _, _⟩ := K.info
  have hP := evp_ok hT hps
  have hL : L1 ρ H.next w I.zero z.cells.toList := by rw [hzz]; exact L1.self (fun v hv => K.flat v (by rw [hzz]; exact hv))
  obtain ⟨zs, hf, h1⟩ := zeP pl ps _ _ _ _ hP hL hcs
  refine .keep R (v' := .agg zs) ?_ (by simpa using h1.vr)
  have hpm : (parts.map fun p => (p.1, Act.eval ⟨tmps, []⟩ p.2)).toList = parts.toList.map fun p => (p.1, Act.eval ⟨tmps, []⟩ p.2) := by simp
  unfold placeT at hpl
  split at hpl
  · rename_i fs hd
    cases hpo : zc8 P fs with
    | none => simp [hpo] at hpl
    | some pp =>
      simp [hpo] at hpl
      subst hpl
      obtain ⟨A, hu, hA⟩ := K.struct hd
      have hm := zf5 w A.toList hpo hA
      have hm' : (A.mapM fun f => (do pure (f.offset, ← Go.sizeOf f.type) : Go.Sem (Nat × Nat))).run P w = .ok pp.toArray w := by
        rw [Array.mapM_eq_mapM_toList]
        simp only [Sem.run_map, hm, Result.andThen_ok]
      have hfe : (fun i : Nat => pp.toArray[i]?) = fun i : Nat => pp[i]? := by funext i; simp
      simp only [execOp, Instr.build, Sem.run_bind, zeroValue, typeInfo, run_program, hi, hz, Result.andThen_ok, Sem.run_pure, run_underlying hu, hm', hpm, hfe, hf]
  · rename_i n e' hd
    cases hE : ti P e' with
    | none => simp [hE] at hpl
    | some E =>
      simp [hE] at hpl
      subst hpl
      have hu := K.array hd
      simp only [execOp, Instr.build, Sem.run_bind, zeroValue, typeInfo, run_program, hi, hz, Result.andThen_ok, Sem.run_pure, run_underlying hu, (ti_ok hE).sizeOf, hpm, hf]
  · cases hpl
theorem zd3 (z : Array Value) : ∀ n : Nat, 0 < z.size → (madeCells z (n * z.size)).toList = zeros n z.toList
  | 0, _ => by simp [madeCells, zeros]
  | n + 1, h => by
    have ih := zd3 z n h
    unfold zeros at ih ⊢
    rw [List.replicate_succ', List.flatten_append, ← ih]
    unfold madeCells
    rw [Nat.succ_mul]
    simp only [Array.toList_map, Array.toList_range, List.flatten_cons, List.flatten_nil, List.append_nil]
    rw [List.range_add, List.map_append]
    congr 1
    apply List.ext_getElem
    · simp
    · intro j h1 h2
      simp at h1 h2
      have : (n * z.size + j) % z.size = j := by rw [Nat.add_comm, Nat.add_mul_mod_self_right, Nat.mod_eq_of_lt h1]
      simp [this, h1]
theorem zd6 (n : Nat) (z : List Value) : (zeros n z).length = n * z.length := by simp [zeros]
theorem zeA {n : Nat} {z : List Value} (h : ∀ v ∈ z, scal v = true) : ∀ v ∈ zeros n z, scal v = true := by
  intro v hv
  unfold zeros at hv
  obtain ⟨l, hl, hv2⟩ := List.mem_flatten.1 hv
  obtain ⟨_, rfl⟩ := List.mem_replicate.1 hl
  exact h v hv2
theorem made_ok {e : TypeId} {E : TI} (K : TIOK P e E) (n : Nat) : ∃ i z, P.info? e = some i ∧ i.zero = some z ∧ E.size = i.size ∧ E.bytes = i.bytes ∧ (madeCells z.cells (n * i.size)).toList = zeros n E.zero := by
  obtain ⟨i, z, hi, hz, hs, hb, hzz, _, hsz⟩ := K.info
  refine ⟨i, z, hi, hz, hs, hb, ?_⟩
  rw [hzz, ← hsz]
  rcases Nat.eq_zero_or_pos z.cells.size with h0 | h0
  · have : z.cells.toList = [] := by simpa using h0
    rw [this, h0]
    simp [madeCells, zeros]
  · exact zd3 z.cells n h0
theorem zh0 (R : Rel base ρ H w) (cs : Array Value) (e : TypeId) (r : Row) (n k c z : Nat) (hn : n ≤ c) (hc : cs.size = c * z) (hm : c ≤ 9223372036854775807) : VR (ren ρ H.next w.heap.size) (H.push r).next (w.alloc (.cells cs e)) (.slice (some ⟨H.next, 0, some z⟩) n k) (.slice (some ⟨w.heap.size, 0, none⟩) n c) := by
  have h := VR.one (V1.slu (ρ := ren ρ H.next w.heap.size) (nx := H.next + 1) (w := w.alloc (.cells cs e)) H.next 0 n k z ⟨ren ρ H.next w.heap.size H.next, 0, none⟩ c (Nat.lt_succ_self _) hn
    (.inl ⟨rfl, by
      rw [zdR, ← hc]
      unfold bsz
      have : (w.alloc (.cells cs e)).heap[w.heap.size]? = some (.cells cs e) := by
        show (w.heap.push _)[w.heap.size]? = _
        simp
      rw [this]
      simp, hm⟩))
  rw [zdR] at h
  exact h
theorem zeK (place : Nat → Option (Nat × Nat)) : ∀ (ps : List (Nat × Value)) (xs out : List Value), fillL place xs ps = some out → out.length = xs.length
  | [], xs, out, h => by simp [fillL] at h; rw [h]
  | (i, v) :: ps, xs, out, h => by
    simp only [fillL] at h
    cases hp : place i with
    | none => simp [hp] at h
    | some pq =>
      simp only [hp, Option.bind_some] at h
      split at h
      · rename_i hc
        rw [zeK place ps _ out h, zbI _ _ _ (by have := hc.2.1; have := hc.1; simp; omega)]
      · cases h
theorem s_makeSlice (R : Rel base ρ H w) (hT : TR ρ H.next w t tmps) (e : TypeId) (l c : Operand) : OutS P ⟨dst, .makeSlice e l c, ty, pos, af, gd⟩ tmps base ρ H w (evalOp P t H (.makeSlice e l c)) := by
  unfold evalOp
  refine .bind fun I hI => .slt fun e' hd => .bind fun E hE => .bind fun vl hvl => .bind fun vc hvc => .int fun k n hn => .int fun k' m hm => ?_
  rintro ⟨h0, h1, h2, h3⟩
  subst hn; subst hm
  have el := (evo_ok hT hvl).int
  have ec := (evo_ok hT hvc).int
  obtain ⟨i, z, hi, hz, hs, hb, hmade⟩ := made_ok (ti_ok hE) m.toNat
  have hbytes : (i.bytes : Int) * m ≤ 281474976710656 := by
    have : (i.bytes : Int) ≤ 65536 := by omega
    calc (i.bytes : Int) * m ≤ 65536 * m := Int.mul_le_mul_of_nonneg_right this (by omega)
      _ ≤ 281474976710656 := by omega
  have hrun := run_make (P := P) w e e' i z ((ti_ok hI).slice hd) hi hz k k' n m h0 h1 hbytes (by omega)
  have hL : L1 ρ H.next w (zeros m.toNat E.zero) (madeCells z.cells (m.toNat * i.size)).toList := by
    rw [hmade]; exact L1.self (zeA (ti_ok hE).flat)
  obtain ⟨R', X⟩ := zfU R e' hL
  have hsz : (madeCells z.cells (m.toNat * i.size)).size = m.toNat * E.size := by
    have := congrArg List.length hmade
    simp only [Array.length_toList, zd6] at this
    rw [this, (ti_ok hE).len]
  exact ⟨_, _, _, by simp [execOp, el, ec, hrun], R', X, zh0 R _ _ _ _ _ _ _ (by omega) hsz (by omega)⟩
theorem s_buildSlice (R : Rel base ρ H w) (hT : TR ρ H.next w t tmps) (e : TypeId) (len : Nat) (parts : Array (Nat × Operand)) : OutS P ⟨dst, .buildSlice e len parts, ty, pos, af, gd⟩ tmps base ρ H w (evalOp P t H (.buildSlice e len parts)) := by
  unfold evalOp
  refine .bind fun I hI => .slt fun e' hd => .bind fun E hE => .bind fun ps hps => .bind fun cs hcs => ?_
  rintro ⟨hlen, hsz⟩
  obtain ⟨i, z, hi, hz, hs, hb, hmade⟩ := made_ok (ti_ok hE) len
  have hP := evp_ok hT hps
  have hL : L1 ρ H.next w (zeros len E.zero) (madeCells z.cells (len * i.size)).toList := by
    rw [hmade]; exact L1.self (zeA (ti_ok hE).flat)
  obtain ⟨zs, hf, h1⟩ := zeP _ ps _ _ _ _ hP hL hcs
  obtain ⟨R', X⟩ := zfU R e' h1
  have hzsz : zs.size = len * E.size := by
    have h2 := h1.1
    have h3 := zeK _ _ _ _ hcs
    rw [zd6, (ti_ok hE).len] at h3
    simp at h2; omega
  refine ⟨_, _, _, ?_, R', X, zh0 R _ _ _ _ _ len _ (Nat.le_refl _) hzsz (by omega)⟩
  have hu := (ti_ok hI).slice hd
  have hpm : (parts.map fun p => (p.1, Act.eval ⟨tmps, []⟩ p.2)).toList = parts.toList.map fun p => (p.1, Act.eval ⟨tmps, []⟩ p.2) := by simp
  have n1 : ¬ (len * i.size > 2 ^ 24) := by rw [← hs]; omega
  rw [hs] at hf
  unfold madeCells at hf
  by_cases h00 : len * i.size = 0
  · rw [h00] at hf
    simp only [Array.range_zero', Array.map_empty] at hf
    have hr0 : ∀ f : Nat → Value, (Array.range 0).map f = #[] := fun f => by simp [Array.range_zero']
    simp only [execOp, Instr.buildSlice, Sem.run_bind, run_underlying hu, Go.sizeOf, typeInfo, run_program, hi, Result.andThen_ok, Sem.run_pure, Sem.run_ite, h00, hpm, hr0, hf]
    simp [newRow]
  · simp only [execOp, Instr.buildSlice, Sem.run_bind, run_underlying hu, Go.sizeOf, typeInfo, run_program, hi, Result.andThen_ok, Sem.run_pure, Sem.run_ite, n1, h00, if_false, zeroValue, hz, hpm, hf]
    simp [newRow]
end
end Go.Abs
end

section
namespace Go.Abs
open Go Go.RowKit
section
variable {P : Program} {base : Nat} {ρ : Nat → Nat} {H : AH} {w : World} {t : T} {tmps : Array Value} {dst : Option Tmp} {ty : TypeId} {pos : String} {af : Array Edge} {gd : Option (Nat × Bool)}
theorem zdK (op : BinOp) (e : TypeId) (x y : Operand) (k : IntKind) (a : Int) (b : Value) : (eqGuard op e x y (.int k a) b).run P w = .ok () w := by
  cases op <;> simp [eqGuard]
theorem zeS (op : BinOp) (e : TypeId) (x y : Operand) (a : Bool) (b : Value) : (eqGuard op e x y (.bool a) b).run P w = .ok () w := by
  cases op <;> simp [eqGuard]
theorem zdI (op : BinOp) (e : TypeId) (x y : Operand) (a : ByteArray) (b : Value) : (eqGuard op e x y (.string a) b).run P w = .ok () w := by
  cases op <;> simp [eqGuard]
theorem zd8 (op : BinOp) (e : TypeId) (x y : Operand) (a : Option Addr) (n c : Nat) (b : Value) : (eqGuard op e x y (.slice a n c) b).run P w = .ok () w := by
  cases op <;> simp [eqGuard]
theorem run_eq_bool (w : World) (e : TypeId) (p q : Bool) (h : P.underlying e = some .bool) : (binOp .eql e (.bool p) (.bool q)).run P w = .ok (.bool (p == q)) w := by
  simp only [binOp]
  simp [Op.equal, Op.maxDepth, run_equalIn_bool w 9999 e p q h]
theorem run_ne_bool (w : World) (e : TypeId) (p q : Bool) (h : P.underlying e = some .bool) : (binOp .neq e (.bool p) (.bool q)).run P w = .ok (.bool (!(p == q))) w := by
  simp only [binOp]
  simp [Op.equal, Op.maxDepth, run_equalIn_bool w 9999 e p q h]
theorem s_binI (R : Rel base ρ H w) {o : Oper} (op : BinOp) (k : IntKind) (a b : Int)
    (e : TypeId) (hr : ∀ v, (binOp op e (.int k a) (.int k b)).run P w = .ok v w → (execOp (Act.eval ⟨tmps, []⟩) o).run P w = .ok (.value v) w) (hs : op ≠ .shl ∧ op ≠ .shr) :
    OutS P o tmps base ρ H w (binI op k a b H) := by
  unfold binI
  split
  all_goals first
    | exact .keep R (hr _ (by simp [binOp, Op.intArith, Op.intBits, Op.intCmp])) (VR.scal rfl)
    | (intro h0; exact .keep R (hr _ (by simp [binOp, Op.intDiv, h0])) (VR.scal rfl))
    | trivial
theorem l1_ints {l : List Int} {ys : List Value} (h : L1 ρ H.next w (l.map (Value.int .i64)) ys) : ys = l.map (Value.int .i64) := by
  apply List.ext_getElem?
  intro j
  by_cases hj : j < l.length
  · have hx : (l.map (Value.int .i64))[j]? = some (.int .i64 l[j]) := by rw [List.getElem?_map, List.getElem?_eq_getElem hj]; rfl
    obtain ⟨y, hy, hv⟩ := h.get hx
    have := VR.int (VR.one hv)
    rw [hy, hx, this]
  · rw [List.getElem?_eq_none (by rw [← h.1]; simpa using hj), List.getElem?_eq_none (by simpa using hj)]
theorem zeL {e : TypeId} (he : P.underlying e = some (.int .i64)) : P.plainKey e = true := by
  simp [Program.plainKey, he]
theorem zcR (w : World) (d : Nat) {e : TypeId} (he : P.underlying e = some (.int .i64)) (hc : P.cellsOf e = 1) (l m : List Int) : ∀ is : List Nat, (∀ i ∈ is, i < l.length ∧ i < m.length) →
    (Op.eqItems (d + 1) e (P.cellsOf e) (l.map (Value.int .i64)).toArray (m.map (Value.int .i64)).toArray is).run P w = .ok (is.all fun i => l.getD i 0 == m.getD i 0) w
  | [], _ => by simp [Op.eqItems]
  | i :: is, h => by
    have h0 := h i List.mem_cons_self
    have ih := zcR w d he hc l m is fun j hj => h j (List.mem_cons_of_mem _ hj)
    have pa : (part e (l.map (Value.int .i64)).toArray (i * P.cellsOf e)).run P w = .ok (.int .i64 (l.getD i 0)) w := run_part_plain w (zeL he) (by
      rw [hc, Nat.mul_one]
      simp [List.getD_eq_getElem?_getD, List.getElem?_eq_getElem h0.1])
    have pb : (part e (m.map (Value.int .i64)).toArray (i * P.cellsOf e)).run P w = .ok (.int .i64 (m.getD i 0)) w := run_part_plain w (zeL he) (by
      rw [hc, Nat.mul_one]
      simp [List.getD_eq_getElem?_getD, List.getElem?_eq_getElem h0.2])
    have pe : (Op.equalIn (d + 1) e (.int .i64 (l.getD i 0)) (.int .i64 (m.getD i 0))).run P w = .ok (l.getD i 0 == m.getD i 0) w := by
      simp [Op.equalIn, run_underlying he]
    simp only [Op.eqItems, Sem.run_bind, pa, pb, pe, Result.andThen_ok, List.all_cons]
    cases l.getD i 0 == m.getD i 0
    · simp
    · simpa using ih
theorem all_beq {l m : List Int} {n : Nat} (hl : l.length = n) (hm : m.length = n) : ((List.range n).all fun i => l.getD i 0 == m.getD i 0) = (l == m) := by
  rw [Bool.eq_iff_iff, List.all_eq_true, beq_iff_eq]
  constructor
  · intro h
    apply List.ext_getElem (by omega)
    intro i h1 h2
    have := beq_iff_eq.1 (h i (List.mem_range.2 (by omega)))
    rw [List.getD_eq_getElem?_getD, List.getD_eq_getElem?_getD, List.getElem?_eq_getElem h1, List.getElem?_eq_getElem h2] at this
    exact this
  · rintro rfl i _; exact beq_self_eq_true _
theorem run_equalIn_ints (w : World) {ty e : TypeId} {n : Nat} (ht : P.underlying ty = some (.array n e)) (he : P.underlying e = some (.int .i64)) {i : TypeInfo} (hi : P.info? e = some i) (hc : P.cellsOf e = 1) {l m : List Int} (hl : l.length = n) (hm : m.length = n) :
    (Op.equalIn 10000 ty (.agg (l.map (Value.int .i64)).toArray) (.agg (m.map (Value.int .i64)).toArray)).run P w = .ok (l == m) w := by
  rw [show (10000 : Nat) = 9999 + 1 from rfl, run_equalIn_array w 9999 _ _ ht hi, show (9999 : Nat) = 9998 + 1 from rfl, zcR w 9998 he hc l m _ (fun i hi => by have := List.mem_range.1 hi; omega), all_beq hl hm]
theorem s_binOp (R : Rel base ρ H w) (hT : TR ρ H.next w t tmps) (op : BinOp) (e e2 : TypeId) (x y : Operand) : OutS P ⟨dst, .binOp op e x y e2, ty, pos, af, gd⟩ tmps base ρ H w (evalOp P t H (.binOp op e x y e2)) := by
  unfold evalOp
  refine .bind fun I hI => .bind fun a ha => .bind fun b hb => ?_
  have hA := evo_ok hT ha
  have hB := evo_ok hT hb
  have K := ti_ok hI
  unfold binA
  split
  · rename_i xs ys
    split
    · rename_i n e' hd
      unfold arrE
      refine .bind fun E hE => ?_
      split
      · rename_i hEd
        have KE := ti_ok hE
        obtain ⟨a', ea, la⟩ := hA.aggs
        obtain ⟨b', eb, lb⟩ := hB.aggs
        intro hn
        obtain ⟨⟨hg, hsz⟩, ⟨hx, hy⟩, hxl, hyl⟩ := hn
        rw [hx] at la
        rw [hy] at lb
        have ha' := l1_ints la
        have hb' := l1_ints lb
        have lxn : (aggI xs.toList).length = n := by rw [← hxl]; simp [aggI]
        have lyn : (aggI ys.toList).length = n := by rw [← hyl]; simp [aggI]
        generalize aggI xs.toList = l at ha' lxn ⊢
        generalize aggI ys.toList = m at hb' lyn ⊢
        have ea2 : a' = (l.map (Value.int .i64)).toArray := by apply Array.ext'; simpa using ha'
        have eb2 : b' = (m.map (Value.int .i64)).toArray := by apply Array.ext'; simpa using hb'
        subst ea2; subst eb2
        obtain ⟨i, z, hi, _, hs, _⟩ := KE.info
        have hu : P.underlying e' = some (.int .i64) := by
          obtain ⟨d, hu, e1⟩ := KE.und
          rw [e1] at hEd
          cases d <;> simp [tdOf] at hEd
          subst hEd; exact hu
        have hc : P.cellsOf e' = 1 := by rw [Program.cellsOf, hi]; show i.size = 1; omega
        have key := run_equalIn_ints w (K.array hd) hu hi hc lxn lyn
        split
        · refine .keep R ?_ (VR.scal rfl)
          simp [execOp, ea, eb, run_eqGuard_agg w _ e x y _ _ hg, run_eql_struct, key]
        · refine .keep R ?_ (VR.scal rfl)
          simp [execOp, ea, eb, run_eqGuard_agg w _ e x y _ _ hg, run_neq_struct, key]
        · trivial
      · trivial
    · trivial
  rename_i hno
  clear hno
  unfold binE
  split
  · rename_i k p k' q
    have ea := hA.int
    have eb := hB.int
    split
    · intro h0
      refine .keep R ?_ (VR.scal rfl)
      have : ¬ q < 0 := by omega
      simp [execOp, ea, eb, zdK, binOp, Op.shift, this]
    · intro h0
      refine .keep R ?_ (VR.scal rfl)
      have : ¬ q < 0 := by omega
      simp [execOp, ea, eb, zdK, binOp, Op.shift, this]
    · rename_i op' h1 h2
      intro hk
      subst hk
      refine s_binI R op k p q e (fun v hv => ?_) ⟨fun e => h1 e, fun e => h2 e⟩
      simp [execOp, ea, eb, zdK, hv]
  · rename_i p q
    have ea := hA.bool
    have eb := hB.bool
    split
    · rename_i hd
      refine .keep R ?_ (VR.scal rfl)
      simp [execOp, ea, eb, zeS, run_eq_bool w e p q (K.bool hd)]
    · rename_i hd
      refine .keep R ?_ (VR.scal rfl)
      simp [execOp, ea, eb, zeS, run_ne_bool w e p q (K.bool hd)]
    · trivial
  · rename_i p q
    have ea := hA.str
    have eb := hB.str
    split
    · intro h0
      refine .keep R ?_ (VR.scal rfl)
      have : ¬ (9223372036854775807 < ((p.size : Int) + (q.size : Int))) := by omega
      simp [execOp, ea, eb, zdI, binOp, Op.stringOp, this]
    · refine .keep R ?_ (VR.scal rfl)
      simp [execOp, ea, eb, zdI, binOp, Op.stringOp]
    · refine .keep R ?_ (VR.scal rfl)
      simp [execOp, ea, eb, zdI, binOp, Op.stringOp]
    · trivial
  · rename_i n c q n' c'
    obtain ⟨rfl, rfl, ea⟩ := hA.nils
    have hq : ∃ q' m k, Act.eval ⟨tmps, []⟩ y = .slice q' m k ∧ q'.isNone = q.isNone := by
      cases q with
      | none => obtain ⟨_, _, eb⟩ := hB.nils; exact ⟨_, _, _, eb, rfl⟩
      | some qa =>
        obtain ⟨i, o', s⟩ := qa
        cases s with
        | none => obtain ⟨_, eb⟩ := hB.sle; exact ⟨_, _, _, eb, rfl⟩
        | some z => obtain ⟨_, _, _, eb, _⟩ := hB.slu; exact ⟨_, _, _, eb, rfl⟩
    obtain ⟨q', m, k, eb, hq⟩ := hq
    split
    · rename_i e' hd
      refine .keep R ?_ (VR.scal rfl)
      simp [execOp, ea, eb, zd8, run_eql_nil_slice w e e' q' m k 0 0 (K.slice hd), hq]
    · rename_i e' hd
      refine .keep R ?_ (VR.scal rfl)
      simp [execOp, ea, eb, zd8, run_neq_nil_slice w e e' q' m k 0 0 (K.slice hd), hq]
    · trivial
  · rename_i qa n c n' c'
    obtain ⟨_, _, eb⟩ := hB.nils
    have hq : ∃ q' m k, Act.eval ⟨tmps, []⟩ x = .slice (some q') m k := by
      obtain ⟨i, o', s⟩ := qa
      cases s with
      | none => obtain ⟨_, eb⟩ := hA.sle; exact ⟨_, _, _, eb⟩
      | some z => obtain ⟨_, _, _, eb, _⟩ := hA.slu; exact ⟨_, _, _, eb⟩
    obtain ⟨q', m, k, ea⟩ := hq
    split
    · rename_i e' hd
      refine .keep R ?_ (VR.scal rfl)
      simp [execOp, ea, eb, zd8, Lib.run_eql_slice_nil w e e' (some q') m k 0 0 (K.slice hd)]
    · rename_i e' hd
      refine .keep R ?_ (VR.scal rfl)
      simp [execOp, ea, eb, zd8, run_neq_slice_nil_any w e e' (some q') m k 0 0 (K.slice hd)]
    · trivial
  · trivial
/-! ### Slices -/
def OI (tmps : Array Value) (x : Option Operand) (n : Option Int) : Prop :=
  (x = none ∧ n = none) ∨ ∃ y k m, x = some y ∧ Act.eval ⟨tmps, []⟩ y = .int k m ∧ n = some m
theorem OutS.oi {o : Oper} (hT : TR ρ H.next w t tmps) {x : Option Operand} {f : Option Int → Out} (h : ∀ n, OI tmps x n → OutS P o tmps base ρ H w (f n)) : OutS P o tmps base ρ H w (oI t x f) := by
  unfold oI
  split
  · exact h none (.inl ⟨rfl, rfl⟩)
  · rename_i y
    refine .bind fun v hv => .int fun k n hn => ?_
    subst hn
    exact h (some n) (.inr ⟨y, k, n, rfl, (evo_ok hT hv).int, rfl⟩)
theorem zcG (isS : Bool) (len cap : Nat) {lo hi mx : Option Operand} {l h m : Option Int} (hl : OI tmps lo l) (hh : OI tmps hi h) (hm : OI tmps mx m)
    (hmh : ¬ (m.isSome = true ∧ h.isSome = false)) (h0 : 0 ≤ l.getD 0) (h1 : l.getD 0 ≤ h.getD len) (h2 : h.getD len ≤ m.getD cap) (h3 : m.getD cap ≤ cap) :
    (Instr.sliceBounds isS len cap (lo.map (Act.eval ⟨tmps, []⟩)) (hi.map (Act.eval ⟨tmps, []⟩)) (mx.map (Act.eval ⟨tmps, []⟩))).run P w =
      .ok ((l.getD 0).toNat, (h.getD len).toNat, (m.getD cap).toNat) w := by
  rcases hl with ⟨rfl, rfl⟩ | ⟨yl, kl, nl, rfl, el, rfl⟩ <;> rcases hh with ⟨rfl, rfl⟩ | ⟨yh, kh, nh, rfl, eh, rfl⟩ <;> rcases hm with ⟨rfl, rfl⟩ | ⟨ym, km, nm, rfl, em, rfl⟩ <;>
    simp only [Option.getD_some, Option.getD_none, Option.isSome_some, Option.isSome_none, Bool.false_eq_true, and_false, not_true, and_self, and_true, Option.map_some, Option.map_none] at *
  all_goals first
    | (exfalso; exact hmh)
    | skip
  · simp [Instr.sliceBounds]
  · have e1 : (nh.toNat : Int) = nh := Int.toNat_of_nonneg (by omega)
    simp [Instr.sliceBounds, eh, run_sliceBound (P := P) w kh nh cap _ (by omega) (by omega)]
  · have e1 : (nm.toNat : Int) = nm := Int.toNat_of_nonneg (by omega)
    simp [Instr.sliceBounds, eh, em, run_sliceBound (P := P) w km nm cap _ (by omega) (by omega), run_sliceBound (P := P) w kh nh nm.toNat _ (by omega) (by omega)]
  · simp [Instr.sliceBounds, el, run_sliceBound (P := P) w kl nl len _ (by omega) (by omega)]
  · have e1 : (nh.toNat : Int) = nh := Int.toNat_of_nonneg (by omega)
    simp [Instr.sliceBounds, el, eh, run_sliceBound (P := P) w kh nh cap _ (by omega) (by omega), run_sliceBound (P := P) w kl nl nh.toNat _ (by omega) (by omega)]
  · have e1 : (nm.toNat : Int) = nm := Int.toNat_of_nonneg (by omega)
    have e2 : (nh.toNat : Int) = nh := Int.toNat_of_nonneg (by omega)
    simp [Instr.sliceBounds, el, eh, em, run_sliceBound (P := P) w km nm cap _ (by omega) (by omega), run_sliceBound (P := P) w kh nh nm.toNat _ (by omega) (by omega), run_sliceBound (P := P) w kl nl nh.toNat _ (by omega) (by omega)]
theorem zdC {e e' : TypeId} {E : TI} (hu : P.underlying e = some (.slice e')) (K : TIOK P e' E) (a : Option Addr) (len cap : Nat) (lo hi mx : Option Value) {l h m : Nat}
    (hb : (Instr.sliceBounds true len cap lo hi mx).run P w = .ok (l, h, m) w) :
    (Instr.sliceAt e (.slice a len cap) lo hi mx).run P w = .ok (.slice (if m = l then a else a.map (·.add (l * E.size))) (h - l) (m - l)) w := by
  simp only [Instr.sliceAt, Instr.slice, Sem.run_bind, run_underlying hu, Result.andThen_ok, hb, K.sizeOf, Sem.run_pure]
theorem s_slice (R : Rel base ρ H w) (hT : TR ρ H.next w t tmps) (e : TypeId) (x : Operand) (lo hi mx : Option Operand) : OutS P ⟨dst, .slice e x lo hi mx, ty, pos, af, gd⟩ tmps base ρ H w (evalOp P t H (.slice e x lo hi mx)) := by
  simp only [evalOp]
  refine .bind fun I hI => .bind fun v hv => ?_
  have hA := evo_ok hT hv
  split
  · rename_i e' hd
    refine .bind fun E hE => .oi hT fun l hl => .oi hT fun h hh => .oi hT fun m hm => ?_
    have hu := (ti_ok hI).slice hd
    have K := ti_ok hE
    unfold sliceE
    split
    · trivial
    · rename_i hmh
      refine .sl (fun n c hn => ?_) fun i o u n c hs => ?_
      · rintro ⟨h0, h1, h2⟩
        subst hn
        obtain ⟨rfl, rfl, ev⟩ := hA.nils
        have hb := zcG (P := P) (w := w) true 0 0 hl hh hm hmh (by omega) (by rcases hh with ⟨_, rfl⟩ | ⟨_, _, q, _, _, rfl⟩ <;> simp at h1 ⊢ <;> omega)
          (by rcases hh with ⟨_, rfl⟩ | ⟨_, _, q, _, _, rfl⟩ <;> rcases hm with ⟨_, rfl⟩ | ⟨_, _, q', _, _, rfl⟩ <;> simp at h1 h2 ⊢ <;> omega) (by rcases hm with ⟨_, rfl⟩ | ⟨_, _, q, _, _, rfl⟩ <;> simp at h2 ⊢ <;> omega)
        have hr := zdC (P := P) (w := w) hu K none 0 0 _ _ _ hb
        refine .keep R (v' := .slice none 0 0) ?_ (VR.scal rfl)
        have z1 : (h.getD ((0 : Nat) : Int)).toNat - (l.getD 0).toNat = 0 := by rcases hh with ⟨_, rfl⟩ | ⟨_, _, q, _, _, rfl⟩ <;> simp at h1 ⊢ <;> omega
        have z2 : (m.getD ((0 : Nat) : Int)).toNat - (l.getD 0).toNat = 0 := by rcases hm with ⟨_, rfl⟩ | ⟨_, _, q, _, _, rfl⟩ <;> simp at h2 ⊢ <;> omega
        simp only [execOp, ev, Sem.run_bind, hr, Result.andThen_ok, Sem.run_pure, z1, z2, Option.map_none, ite_self]
      · subst hs
        cases u with
        | none =>
          rintro ⟨h0, h1, h2, h3⟩
          obtain ⟨hi', ev⟩ := hA.sle
          have hb := zcG (P := P) (w := w) true n c hl hh hm hmh h0 h1 h2 h3
          have hr := zdC (P := P) (w := w) hu K (some ⟨ρ i, o, none⟩) n c _ _ _ hb
          refine .keep R (v' := .slice (some ⟨ρ i, if m.getD c = l.getD 0 then o else o + (l.getD 0).toNat * E.size, none⟩) ((h.getD n).toNat - (l.getD 0).toNat) ((m.getD c).toNat - (l.getD 0).toNat)) ?_ (.one (.sle _ _ _ _ hi'))
          simp only [execOp, ev, Sem.run_bind, hr, Result.andThen_ok, Sem.run_pure, Option.map_some, Addr.add_lit]
          have : ((m.getD c).toNat = (l.getD 0).toNat) ↔ (m.getD c = l.getD 0) := by omega
          by_cases hml : m.getD c = l.getD 0
          · rw [if_pos (this.2 hml), if_pos hml]
          · rw [if_neg (fun q => hml (this.1 q)), if_neg hml]
        | some z =>
          obtain ⟨hi', o', c', ev, hnc, hoff⟩ := hA.slu
          cases m with
          | none =>
            rintro ⟨h0, h1, h2, h3⟩
            have hb := zcG (P := P) (w := w) true n c' hl hh hm hmh h0 h1 (by simp; omega) (by simp)
            have hr := zdC (P := P) (w := w) hu K (some o') n c' _ _ _ hb
            simp only [Option.getD_none, Int.toNat_natCast] at hr
            have hx : ∃ o2, (execOp (Act.eval ⟨tmps, []⟩) ⟨dst, .slice e x lo hi mx, ty, pos, af, gd⟩).run P w = .ok (.value (.slice (some o2) ((h.getD n).toNat - (l.getD 0).toNat) (c' - (l.getD 0).toNat))) w ∧
                ((o2 = ⟨ρ i, o + (l.getD 0).toNat * E.size, none⟩ ∧ bsz w (ρ i) = some (o + (l.getD 0).toNat * E.size + (c' - (l.getD 0).toNat) * z) ∧ c' - (l.getD 0).toNat ≤ 9223372036854775807) ∨ ((h.getD n).toNat - (l.getD 0).toNat = 0 ∧ 0 < o + (l.getD 0).toNat * E.size)) := by
              by_cases hml : c' = (l.getD 0).toNat
              · refine ⟨o', ?_, ?_⟩
                · simp only [execOp, ev, Sem.run_bind, hr, Result.andThen_ok, Sem.run_pure, if_pos hml]
                · rcases hoff with ⟨rfl, hb2, hm2⟩ | ⟨hn0, ho⟩
                  · by_cases hz : (l.getD 0).toNat * E.size = 0
                    · left
                      refine ⟨?_, ?_, by omega⟩
                      · rw [hz]; rfl
                      · rw [hb2, ← hml, h3]
                        rw [hml, hz]
                        simp
                    · right
                      constructor
                      · omega
                      · omega
                  · right; constructor
                    · omega
                    · omega
              · refine ⟨o'.add ((l.getD 0).toNat * E.size), ?_, ?_⟩
                · simp only [execOp, ev, Sem.run_bind, hr, Result.andThen_ok, Sem.run_pure, if_neg hml, Option.map_some]
                · rcases hoff with ⟨rfl, hb2, hm2⟩ | ⟨hn0, ho⟩
                  · left
                    refine ⟨Addr.add_lit .., ?_, by omega⟩
                    rw [hb2, h3, Nat.sub_mul]
                    have hle : (l.getD 0).toNat * E.size ≤ c' * E.size := Nat.mul_le_mul_right _ (by omega)
                    congr 1
                    omega
                  · right; constructor
                    · omega
                    · omega
            obtain ⟨o2, hrun, hcond⟩ := hx
            exact .keep R hrun (.one (.slu _ _ _ _ _ _ _ hi' (by omega) hcond))
          | some mm =>
            rintro ⟨h0, h1, h2, h3, h4⟩
            have ho : o' = ⟨ρ i, o, none⟩ := by
              rcases hoff with ⟨h, _⟩ | ⟨h, _⟩
              · exact h
              · omega
            subst ho
            have hb := zcG (P := P) (w := w) true n c' hl hh hm hmh h0 h1 (by simpa using h2) (by simp; omega)
            have hr := zdC (P := P) (w := w) hu K (some ⟨ρ i, o, none⟩) n c' _ _ _ hb
            simp only [Option.getD_some] at hr
            refine .keep R (v' := .slice (some ⟨ρ i, if mm = l.getD 0 then o else o + (l.getD 0).toNat * E.size, none⟩) ((h.getD n).toNat - (l.getD 0).toNat) (mm.toNat - (l.getD 0).toNat)) ?_ (.one (.sle _ _ _ _ hi'))
            simp only [execOp, ev, Sem.run_bind, hr, Result.andThen_ok, Sem.run_pure, Option.map_some, Addr.add_lit]
            have : (mm.toNat = (l.getD 0).toNat) ↔ (mm = l.getD 0) := by omega
            by_cases hml : mm = l.getD 0
            · rw [if_pos (this.2 hml), if_pos hml]
            · rw [if_neg (fun q => hml (this.1 q)), if_neg hml]
  · rename_i hd
    split
    · rename_i hmx
      refine .str fun s hs => .oi hT fun l hl => .oi hT fun h hh => ?_
      rintro ⟨h0, h1, h2⟩
      subst hs
      have ev := hA.str
      have hm : OI tmps mx none := .inl ⟨by simpa using hmx, rfl⟩
      have hb := zcG (P := P) (w := w) false s.size s.size hl hh hm (by simp) h0 h1 (by simpa using h2) (by simp)
      have hu := (ti_ok hI).str hd
      obtain rfl : mx = none := by simpa using hmx
      refine .keep R ?_ (VR.scal rfl)
      simp only [Option.map_none] at hb
      simp only [execOp, ev, Instr.sliceAt, Instr.slice, Sem.run_bind, run_underlying hu, Result.andThen_ok, Option.map_none, Option.isSome_none, Bool.false_eq_true, if_false, Sem.run_pure, hb]
    · trivial
  · rename_i n e' hd
    refine .bind fun E hE => ?_
    split
    · rename_i hmx
      refine .ptr fun i o hp => .oi hT fun l hl => .oi hT fun h hh => ?_
      rintro ⟨h0, h1, h2⟩
      subst hp
      obtain ⟨hi', _, ev⟩ := hA.ptr
      have hm : OI tmps mx none := .inl ⟨by simpa using hmx, rfl⟩
      have hb := zcG (P := P) (w := w) false n n hl hh hm (by simp) h0 h1 (by simpa using h2) (by simp)
      have hu := (ti_ok hI).array hd
      refine .keep R (v' := .slice (some ⟨ρ i, if (n : Int) = l.getD 0 then o else o + (l.getD 0).toNat * E.size, none⟩) ((h.getD n).toNat - (l.getD 0).toNat) (n - (l.getD 0).toNat)) ?_ (.one (.sle _ _ _ _ hi'))
      simp only [Option.getD_none, Int.toNat_natCast] at hb
      simp only [execOp, ev, Instr.sliceAt, Sem.run_bind, run_underlying hu, Result.andThen_ok, Instr.sureAddr, Sem.run_pure, hb, (ti_ok hE).sizeOf, Addr.add_lit]
      have : (n = (l.getD 0).toNat) ↔ ((n : Int) = l.getD 0) := by omega
      by_cases hml : (n : Int) = l.getD 0
      · rw [if_pos (this.2 hml), if_pos hml]
      · rw [if_neg (fun q => hml (this.1 q)), if_neg hml]
    · trivial
  · trivial
end
end Go.Abs
end

section
namespace Go.Abs
open Go Go.RowKit
section
variable {P : Program} {base : Nat} {ρ : Nat → Nat} {H : AH} {w : World} {t : T} {tmps : Array Value} {dst : Option Tmp} {ty : TypeId} {pos : String} {af : Array Edge} {gd : Option (Nat × Bool)}
theorem zcD (w : World) {T0 e : TypeId} {i : TypeInfo} (ht : P.underlying T0 = some (.slice e)) (hi : P.info? e = some i) (b a : Option Addr) (n c c' : Nat) (hle : n ≤ c) :
    (Builtin.append_ #[T0, T0] ty #[.slice b n c, .slice a 0 c']).run P w = .ok (.slice b n c) w := by
  have hf : (Builtin.firstCells i.size 0 (.slice a 0 c')).run P w = .ok #[] w := by
    cases a with
    | none => simp [Builtin.firstCells]
    | some a => simp [Builtin.firstCells, loadCells, loadCellsFrom]
  cases b with
  | none => simp [Builtin.append_, run_underlying ht, Go.sizeOf, typeInfo, hi, Builtin.lenOf, hle, hf]
  | some b => simp [Builtin.append_, run_underlying ht, Go.sizeOf, typeInfo, hi, Builtin.lenOf, hle, hf, storeCells]
theorem run_append_fits' (w : World) {T0 e : TypeId} {i : TypeInfo} (ht : P.underlying T0 = some (.slice e)) (hi : P.info? e = some i) (g q sLen sCap : Nat) (cur : Array Value) (rt : TypeId) (hg : w.heap[g]? = some (.cells cur rt (0, 0)))
    (a : Addr) (m c : Nat) (news : List Value) (hl : news.length = m * i.size) (hnews : ∀ j u, news[j]? = some u → w.cell? (a.add j) = some u) (h1 : ∀ u ∈ news, u.oneCell' = true)
    (hroom : sLen + m ≤ sCap) (hfit : q + sLen * i.size + news.length ≤ cur.size) :
    (Builtin.append_ #[T0, T0] ty #[.slice (some ⟨g, q, none⟩) sLen sCap, .slice (some a) m c]).run P w =
      .ok (.slice (some ⟨g, q, none⟩) (sLen + m) sCap) (w.setRow g (splice cur.toList (q + sLen * i.size) news).toArray) := by
  have hf := run_firstCells_some (P := P) w i.size m a m c news hl hnews
  have hst := run_storeCells_at P g (q + sLen * i.size) rt news 0 cur w hg (by simpa using hfit) h1
  simp only [Nat.add_zero] at hst
  simp [Builtin.append_, run_underlying ht, Go.sizeOf, typeInfo, hi, Builtin.lenOf, hroom, hf, Addr.add_lit, hst, splice]
theorem grownCap_ge (w : World) (need old : Nat) (e : TypeId) : need ≤ grownCap w need old e := by
  unfold grownCap Question.cut
  simp
theorem bsz_new (w : World) (cs : Array Value) (e : TypeId) : bsz (w.alloc (.cells cs e)) w.heap.size = some cs.size := by
  unfold bsz
  have : (w.alloc (.cells cs e)).heap[w.heap.size]? = some (.cells cs e) := by
    show (w.heap.push _)[w.heap.size]? = _
    simp
  rw [this]
theorem zgY (R : Rel base ρ H w) {H0 : AH} (R0 : Rel base ρ H0 w) (hn : H0.next = H.next) {e : TypeId} {E : TI} {i : TypeInfo} {z : Value} (hs : E.size = i.size) (hz : z.cells.size = i.size)
    {xs : List Value} {ys : List Value} (hL : L1 ρ H.next w xs ys) (m need old : Nat) (hm : xs.length = need * E.size) (hneed : need ≤ 4294967296) :
    ∃ ρ', Rel base ρ' (H0.push ⟨e, true, xs⟩) (w.drew.alloc (.cells (ys.toArray ++ Builtin.zeroCells z.cells (grownCap w need old e - need)) e)) ∧
      Ext base ρ H.next w ρ' (H0.push ⟨e, true, xs⟩).next (w.drew.alloc (.cells (ys.toArray ++ Builtin.zeroCells z.cells (grownCap w need old e - need)) e)) ∧
      VR ρ' (H0.push ⟨e, true, xs⟩).next (w.drew.alloc (.cells (ys.toArray ++ Builtin.zeroCells z.cells (grownCap w need old e - need)) e))
        (.slice (some ⟨H.next, 0, some E.size⟩) need need) (.slice (some ⟨w.heap.size, 0, none⟩) need (grownCap w need old e)) := by
  have Rd := R0.drew
  have Ed : Ext base ρ H.next w ρ H.next w.drew := zc9 w
  have hL' : L1 ρ H0.next w.drew xs ((ys.toArray ++ Builtin.zeroCells z.cells (grownCap w need old e - need)).toList.take xs.length) := by
    rw [hn]
    have : (ys.toArray ++ Builtin.zeroCells z.cells (grownCap w need old e - need)).toList.take xs.length = ys := by
      simp [hL.1]
    rw [this]
    exact hL.ext Ed
  obtain ⟨R', X⟩ := Rd.push e xs _ hL'
  refine ⟨_, R', ?_, ?_⟩
  · exact Ed.trans (hn ▸ X)
  · have hge := grownCap_ge w need old e
    have h := VR.one (V1.slu (ρ := ren ρ H0.next w.drew.heap.size) (nx := H0.next + 1) (w := w.drew.alloc (.cells (ys.toArray ++ Builtin.zeroCells z.cells (grownCap w need old e - need)) e)) H0.next 0 need need E.size ⟨ren ρ H0.next w.drew.heap.size H0.next, 0, none⟩ (grownCap w need old e) (Nat.lt_succ_self _) hge
      (.inl ⟨rfl, by
        rw [zdR, bsz_new]
        have h1 : ys.length = need * E.size := by rw [← hL.1]; exact hm
        simp only [Array.size_append, List.size_toArray, size_zeroCells, h1, hz, ← hs]
        congr 1
        rw [Nat.zero_add, ← Nat.add_mul]
        congr 1
        omega, Go.grownCap_le_maxLen w need old e (by show need ≤ 9223372036854775807; omega)⟩))
    rw [zdR] at h
    rw [← hn]
    exact h
theorem s_grow (R : Rel base ρ H w) {o : Oper} {t t' : TypeId} {s s' x x' : Value} (hS : VR ρ H.next w s s') (hX : VR ρ H.next w x x')
    (hr : ∀ v w', (Builtin.append_ #[t, t'] ty #[s', x']).run P w = .ok v w' → (execOp (Act.eval ⟨tmps, []⟩) o).run P w = .ok (.value v) w') :
    OutS P o tmps base ρ H w (growE P t t' s x H) := by
  unfold growE
  refine .bind fun I hI => .slt fun e hd => .bind fun E hE => .bind fun I' hI' => ?_
  split
  · rename_i kn hdi
    refine .sl (fun n c hs => .int fun k m hm => ?_) fun i' o' u n c hs => trivial
    rintro ⟨⟨h0, h1⟩, h2, h3⟩
    subst hm; subst hs
    obtain ⟨_, _, es⟩ := hS.nils
    have ex := hX.int
    subst es; subst ex
    obtain ⟨i, z, hi, hz, hs, hb, hmade⟩ := made_ok (ti_ok hE) m.toNat
    obtain ⟨i2, z2, hi2, hz2, hs2, hb2, hzz, _, hzsz⟩ := (ti_ok hE).info
    have ei : i2 = i := by rw [hi] at hi2; exact (Option.some.inj hi2).symm
    subst ei
    have ez : z2 = z := by rw [hz] at hz2; exact (Option.some.inj hz2).symm
    subst ez
    obtain ⟨mN, rfl⟩ : ∃ mN : Nat, m = mN := ⟨m.toNat, by omega⟩
    rw [Int.toNat_natCast] at hmade ⊢
    have h48 : mN * i2.bytes ≤ 281474976710656 := by
      rw [← hb]
      calc mN * E.bytes ≤ 4294967296 * 32768 := Nat.mul_le_mul (by omega) h3
        _ ≤ 281474976710656 := by decide
    have hrun := Lib.run_append_nil_zeros (P := P) w t t' ty e i2 z2 k kn ((ti_ok hI).slice hd) ((ti_ok hI').int hdi) hi hz mN (by omega) (by omega) (by omega) h48
    have hzc : (Builtin.zeroCells z2.cells mN).toList = zeros mN E.zero := by
      rw [← hmade]
      unfold Builtin.zeroCells madeCells
      rw [hzsz]
    have hL : L1 ρ H.next w (zeros mN E.zero) (Builtin.zeroCells z2.cells mN).toList := by
      rw [hzc]; exact L1.self (zeA (ti_ok hE).flat)
    have hlen : (zeros mN E.zero).length = mN * E.size := by rw [zd6, (ti_ok hE).len]
    obtain ⟨ρ', R', X, hV⟩ := zgY R R rfl hs hzsz hL mN mN 0 hlen (by omega) (e := e)
    rw [Array.toArray_toList] at R' X hV
    exact ⟨_, _, ρ', hr _ _ hrun, R', X, hV⟩
  · trivial
theorem s_append (R : Rel base ρ H w) {o : Oper} {T0 e : TypeId} {E : TI} (hu : P.underlying T0 = some (.slice e)) (K : TIOK P e E) {s s' x x' : Value} (hS : VR ρ H.next w s s') (hX : VR ρ H.next w x x')
    (hr : ∀ v w', (Builtin.append_ #[T0, T0] ty #[s', x']).run P w = .ok v w' → (execOp (Act.eval ⟨tmps, []⟩) o).run P w = .ok (.value v) w') :
    OutS P o tmps base ρ H w (zaL H E.size x fun xs m => appE E e s xs m H) := by
  obtain ⟨i, z, hi, hz, hsz, hbz, hzz, _, hzsz⟩ := K.info
  -- nothing is appended
  have none0 : ∀ a c, x' = .slice a 0 c → OutS P o tmps base ρ H w (asSl s (.val s H) fun _ _ u n c => .need (u.isNone = true → n ≤ c) (.val s H)) := by
    intro a c hx
    subst hx
    refine .sl (fun n c hs => ?_) fun i' o' u n c hs => ?_
    · subst hs
      obtain ⟨rfl, rfl, es⟩ := hS.nils
      subst es
      exact .keep R (hr _ _ (zcD w hu hi _ _ _ _ _ (Nat.le_refl _))) hS
    · intro hle
      subst hs
      cases u with
      | none =>
        obtain ⟨_, es⟩ := hS.sle
        subst es
        exact .keep R (hr _ _ (zcD w hu hi _ _ _ _ _ (hle rfl))) hS
      | some zz =>
        obtain ⟨_, _, _, es, hle, _⟩ := hS.slu
        subst es
        exact .keep R (hr _ _ (zcD w hu hi _ _ _ _ _ hle)) hS
  unfold zaL
  refine .sl (fun n c hx => ?_) fun ix ox ux m cx hx => .bind fun rx hrx => ?_
  · subst hx
    obtain ⟨rfl, rfl, ex⟩ := hX.nils
    show OutS P o tmps base ρ H w (appE E e s [] 0 H)
    unfold appE
    rw [if_pos rfl]
    exact none0 _ _ ex
  · rintro ⟨hxl, hxk⟩
    subst hx
    have hx2 : ∃ ax cx', x' = .slice (some ax) m cx' ∧ (ax = ⟨ρ ix, ox, none⟩ ∨ m = 0) := by
      cases ux with
      | none => obtain ⟨_, ex⟩ := hX.sle; exact ⟨_, _, ex, .inl rfl⟩
      | some zz => obtain ⟨_, ox', cx', ex, _, hq⟩ := hX.slu; exact ⟨ox', cx', ex, hq.imp (fun h => h.1) (fun h => h.1)⟩
    obtain ⟨ax, cx', ex, hox⟩ := hx2
    show OutS P o tmps base ρ H w (appE E e s (seg rx.cells ox (m * E.size)) m H)
    unfold appE
    split
    · rename_i hm0
      subst hm0
      exact none0 _ _ ex
    · rename_i hm0
      have hox : ax = ⟨ρ ix, ox, none⟩ := by rcases hox with h | h; exact h; exact absurd h hm0
      subst hox
      obtain ⟨ys, hyl, hyc, hL⟩ := R.cells hrx hxl hxk
      have hnews : ∀ j u, ys[j]? = some u → w.cell? ((⟨ρ ix, ox, none⟩ : Addr).add j) = some u := fun j u hj => by rw [Addr.add_lit]; exact hyc j u hj
      have hyl' : ys.length = m * i.size := by rw [hyl, hsz]
      subst ex
      change L1 ρ H.next w (seg rx.cells ox (m * E.size)) ys at hL
      have hxlen : (seg rx.cells ox (m * E.size)).length = m * E.size := by rw [hL.1, hyl]
      refine .sl (fun n c hs => ?_) fun is os us n c hs => .bind fun rs hrs => ?_
      · rintro ⟨h1, h2⟩
        subst hs
        obtain ⟨rfl, rfl, es⟩ := hS.nils
        subst es
        have h48 : m * i.bytes ≤ 281474976710656 := by
          rw [← hbz]
          calc m * E.bytes ≤ 4294967296 * 32768 := Nat.mul_le_mul h1 h2
            _ ≤ 281474976710656 := by decide
        have hrun := run_append_nil (P := P) w T0 ty e i z hu hi hz ⟨ρ ix, ox, none⟩ m cx' ys hyl' hnews (by omega) (by omega) h48
        obtain ⟨ρ', R', X, hV⟩ := zgY R R rfl hsz hzsz hL m m 0 hxlen h1 (e := e)
        exact ⟨_, _, ρ', hr _ _ hrun, R', X, hV⟩
      · rintro ⟨h1, h2, h3, h4⟩
        subst hs
        have hnz : (n + m) * i.bytes ≤ 140737488355328 := by
          rw [← hbz]
          calc (n + m) * E.bytes ≤ 4294967296 * 32768 := Nat.mul_le_mul h1 h2
            _ = 140737488355328 := by decide
        obtain ⟨ysO, holl, holc, hLo⟩ := R.cells hrs h3 h4
        change L1 ρ H.next w (seg rs.cells os (n * E.size)) ysO at hLo
        have holen : (seg rs.cells os (n * E.size)).length = n * E.size := by rw [hLo.1, holl]
        have hcat : L1 ρ H.next w (seg rs.cells os (n * E.size) ++ seg rx.cells ox (m * E.size)) (ysO ++ ys) := hLo.append hL
        have hcatl : (seg rs.cells os (n * E.size) ++ seg rx.cells ox (m * E.size)).length = (n + m) * E.size := by
          rw [List.length_append, holen, hxlen, Nat.add_mul]
        -- it grows
        have grow : ∀ (c' : Nat) (H0 : AH), Rel base ρ H0 w → H0.next = H.next → s' = .slice (some ⟨ρ is, os, none⟩) n c' → c' < n + m →
            OutS P o tmps base ρ H w (.val (.slice (some ⟨H.next, 0, some E.size⟩) (n + m) (n + m)) (H0.push ⟨e, true, seg rs.cells os (n * E.size) ++ seg rx.cells ox (m * E.size)⟩)) := by
          intro c' H0 R0 hn0 es hlt
          subst es
          have hfit : Builtin.nextslicecap (n + m) c' * i.bytes ≤ 281474976710656 := by
            have hh := nextslicecap_le (need := n + m) (old := c') hlt
            calc Builtin.nextslicecap (n + m) c' * i.bytes ≤ 2 * (n + m) * i.bytes := Nat.mul_le_mul_right _ hh
              _ = 2 * ((n + m) * i.bytes) := Nat.mul_assoc _ _ _
              _ ≤ 281474976710656 := by omega
          have hrun := run_append_grow (P := P) w T0 ty e i z hu hi hz ⟨ρ is, os, none⟩ n c' ysO (by rw [holl, hsz]) (fun j u hj => by rw [Addr.add_lit]; exact holc j u hj) ⟨ρ ix, ox, none⟩ m cx' ys hyl' hnews hlt (by omega) hfit
          obtain ⟨ρ', R', X, hV⟩ := zgY R R0 hn0 hsz hzsz hcat m (n + m) c' hcatl h1 (e := e)
          refine ⟨_, _, ρ', hr _ _ hrun, ?_, ?_, ?_⟩
          · simpa using R'
          · simpa using X
          · simpa using hV
        -- it fits
        have fits : ∀ (c' : Nat), s' = .slice (some ⟨ρ is, os, none⟩) n c' → n + m ≤ c' → rs.rw = true → ∀ cs : Array Value, w.heap[ρ is]? = some (.cells cs rs.ty (0, 0)) → os + (n + m) * E.size ≤ cs.size →
            (execOp (Act.eval ⟨tmps, []⟩) o).run P w = .ok (.value (.slice (some ⟨ρ is, os, none⟩) (n + m) c')) (w.setRow (ρ is) (splice cs.toList (os + n * E.size) ys).toArray) := by
          intro c' es hle hb cs hcs hsize
          subst es
          have := run_append_fits' (P := P) (ty := ty) w hu hi (ρ is) os n c' cs rs.ty hcs ⟨ρ ix, ox, none⟩ m cx' ys hyl' hnews hL.all hle (by rw [hyl', Nat.add_assoc, ← Nat.add_mul, ← hsz]; exact hsize)
          rw [← hsz] at this
          exact hr _ _ this
        cases us with
        | none =>
          obtain ⟨his, es⟩ := hS.sle
          simp only
          split
          · rename_i hle
            rintro ⟨hb, hlen⟩
            obtain ⟨_, cs, hcs, hl⟩ := R.rwr is rs hrs hb
            have hlecs := Rel.lenLe hl
            have hrun := fits c es hle hb cs hcs (by omega)
            have hspl : (splice cs.toList (os + n * E.size) ys).length = cs.size := by
              rw [zbI _ _ _ (by rw [hyl, Nat.add_assoc, ← Nat.add_mul]; simp; omega)]; simp
            have hsl : (splice rs.cells (os + n * E.size) (seg rx.cells ox (m * E.size))).length = rs.cells.length := zbI _ _ _ (by rw [hxlen, Nat.add_assoc, ← Nat.add_mul]; exact hlen)
            obtain ⟨R', X⟩ := R.set hrs hb hcs (cs := (splice cs.toList (os + n * E.size) ys).toArray) (xs := splice rs.cells (os + n * E.size) (seg rx.cells ox (m * E.size))) (by simpa using hspl) (by
              rw [hsl]
              simp only [List.toList_toArray]
              rw [zdJ _ _ _ _ (by rw [hyl, Nat.add_assoc, ← Nat.add_mul]; exact hlen) (by simpa using hlecs)]
              exact hl.splice hL _)
            exact ⟨_, _, ρ, hrun, R', X, .one (.sle _ _ _ _ his)⟩
          · rename_i hle
            exact grow c H R rfl es (by omega)
        | some zz =>
          obtain ⟨his, os', c', es, hnc, hoff⟩ := hS.slu
          simp only
          split
          · rename_i hlen
            rintro ⟨hb, hzE, hE0, hn0⟩
            have ho : os' = ⟨ρ is, os, none⟩ := by
              rcases hoff with h | h
              · exact h.1
              · omega
            subst ho
            have hmx : c' ≤ 9223372036854775807 := by rcases hoff with h | h; exact h.2.2; omega
            have hbs : bsz w (ρ is) = some (os + c' * zz) := by rcases hoff with h | h; exact h.2.1; omega
            obtain ⟨_, cs, hcs, hl⟩ := R.rwr is rs hrs hb
            have hlecs := Rel.lenLe hl
            have hcsz : cs.size = os + c' * E.size := by
              unfold bsz at hbs; rw [hcs] at hbs; simp at hbs; rw [hbs, hzE]
            have hle : n + m ≤ c' := by
              have : (n + m) * E.size ≤ c' * E.size := by omega
              exact Nat.le_of_mul_le_mul_right this hE0
            have hrun := fits c' es hle hb cs hcs (by omega)
            have hspl : (splice cs.toList (os + n * E.size) ys).length = cs.size := by
              rw [zbI _ _ _ (by rw [hyl, Nat.add_assoc, ← Nat.add_mul]; simp; omega)]; simp
            have hsl : (splice rs.cells (os + n * E.size) (seg rx.cells ox (m * E.size))).length = rs.cells.length := zbI _ _ _ (by rw [hxlen, Nat.add_assoc, ← Nat.add_mul]; exact hlen)
            obtain ⟨R', X⟩ := R.set hrs hb hcs (cs := (splice cs.toList (os + n * E.size) ys).toArray) (xs := splice rs.cells (os + n * E.size) (seg rx.cells ox (m * E.size))) (by simpa using hspl) (by
              rw [hsl]
              simp only [List.toList_toArray]
              rw [zdJ _ _ _ _ (by rw [hyl, Nat.add_assoc, ← Nat.add_mul]; exact hlen) (by simpa using hlecs)]
              exact hl.splice hL _)
            exact ⟨_, _, ρ, hrun, R', X, .one (.slu _ _ _ _ _ _ _ his hle (.inl ⟨rfl, X.st _ _ hbs, hmx⟩))⟩
          · rename_i hlen
            rintro ⟨hb, hzE, hE0, ho0, hty⟩
            subst ho0
            have ho : os' = ⟨ρ is, 0, none⟩ := by
              rcases hoff with h | h
              · exact h.1
              · omega
            subst ho
            have hmx : c' ≤ 9223372036854775807 := by rcases hoff with h | h; exact h.2.2; omega
            have hbs : bsz w (ρ is) = some (0 + c' * zz) := by rcases hoff with h | h; exact h.2.1; omega
            obtain ⟨_, cs, hcs, hl⟩ := R.rwr is rs hrs hb
            have hcsz : cs.size = c' * E.size := by
              unfold bsz at hbs; rw [hcs] at hbs; simp at hbs; rw [hbs, hzE]
            have hlecs := Rel.lenLe hl
            rcases Nat.lt_or_ge c' (n + m) with hlt | hge
            · exact ⟨grow c' (H.drop is) (R.dropRow is) rfl es hlt, .inr (grow c' H R rfl es hlt)⟩
            · have hsz2 : 0 + (n + m) * E.size ≤ cs.size := by
                rw [hcsz, Nat.zero_add]; exact Nat.mul_le_mul_right _ hge
              have hrun := fits c' es hge hb cs hcs hsz2
              have hspl : (splice cs.toList (0 + n * E.size) ys).length = cs.size := by
                rw [zbI _ _ _ (by rw [hyl, Nat.add_assoc, ← Nat.add_mul]; simp; omega)]; simp
              have hpre : (splice cs.toList (0 + n * E.size) ys).take ((n + m) * E.size) = cs.toList.take (n * E.size) ++ ys := by
                unfold splice
                rw [Nat.zero_add]
                have hl2 : (cs.toList.take (n * E.size) ++ ys).length = (n + m) * E.size := by
                  rw [List.length_append, hyl, Nat.add_mul, List.length_take]
                  have : n * E.size ≤ cs.toList.length := by simp; omega
                  omega
                rw [← hl2, List.take_left']
                rfl
              have hLo' : L1 ρ H.next w (seg rs.cells 0 (n * E.size)) (cs.toList.take (n * E.size)) := by
                unfold seg
                rw [List.drop_zero]
                have h5 := hl.take (n * E.size)
                rw [List.take_take] at h5
                have h6 : min (n * E.size) rs.cells.length = n * E.size := by omega
                rw [h6] at h5
                exact h5
              have hpre2 : L1 ρ H.next w (seg rs.cells 0 (n * E.size) ++ seg rx.cells ox (m * E.size)) ((splice cs.toList (0 + n * E.size) ys).toArray.toList.take (seg rs.cells 0 (n * E.size) ++ seg rx.cells ox (m * E.size)).length) := by
                rw [hcatl]
                simp only [List.toList_toArray]
                rw [hpre]
                exact hLo'.append hL
              refine ⟨?_, .inl ?_⟩
              · obtain ⟨R', X⟩ := R.move hrs hb hcs (cs := (splice cs.toList (0 + n * E.size) ys).toArray) (xs := seg rs.cells 0 (n * E.size) ++ seg rx.cells ox (m * E.size)) (by simpa using hspl) hpre2
                rw [hty] at R' X
                refine ⟨_, _, _, hrun, R', X, ?_⟩
                have hv := VR.one (V1.slu (ρ := ren ρ H.next (ρ is)) (nx := H.next + 1) (w := w.setRow (ρ is) (splice cs.toList (0 + n * E.size) ys).toArray) H.next 0 (n + m) (n + m) E.size ⟨ren ρ H.next (ρ is) H.next, 0, none⟩ c' (Nat.lt_succ_self _) hge
                  (.inl ⟨rfl, by rw [zdR]; rw [X.st _ _ hbs, hzE], hmx⟩))
                rw [zdR] at hv
                exact hv
              · obtain ⟨R', X⟩ := R.set hrs hb hcs (cs := (splice cs.toList (0 + n * E.size) ys).toArray) (xs := seg rs.cells 0 (n * E.size) ++ seg rx.cells ox (m * E.size)) (by simpa using hspl) hpre2
                exact ⟨_, _, ρ, hrun, R', X, .one (.slu _ _ _ _ _ _ _ his hge (.inl ⟨rfl, by rw [X.st _ _ hbs, hzE], hmx⟩))⟩
end
end Go.Abs
end

section
namespace Go.Abs
open Go Go.RowKit
section
variable {P : Program} {base : Nat} {ρ : Nat → Nat} {H : AH} {w : World} {t : T} {tmps : Array Value} {dst : Option Tmp} {ty : TypeId} {pos : String} {af : Array Edge} {gd : Option (Nat × Bool)}
theorem s_call (R : Rel base ρ H w) (hT : TR ρ H.next w t tmps) (c : Call) : OutS P ⟨dst, .call c, ty, pos, af, gd⟩ tmps base ρ H w (evalOp P t H (.call c)) := by
  obtain ⟨callee, args, argTypes⟩ := c
  cases callee with
  | value f =>
    simp only [evalOp]
    refine .bind fun fv hf => .bind fun vs hvs => .fn fun g cap hg => ?_
    subst hg
    obtain ⟨_, ys, ev, hsz, hys⟩ := (evo_ok hT hf).func
    have hL := evs_ok hT hvs
    refine ⟨(args.toList.map (Act.eval ⟨tmps, []⟩)) ++ ys.toList, ?_, hL.append (LV.of1 ⟨by simpa using hsz, fun j x y hx hy => hys j x y (by simpa using hx) (by simpa using hy)⟩)⟩
    have e : (args.toList.map (Act.eval ⟨tmps, []⟩) ++ ys.toList).toArray = args.map (Act.eval ⟨tmps, []⟩) ++ ys := by
      apply Array.ext'; simp
    rw [e]
    simp [execOp, resolve, ev, Deferred.ofValue, invoke]
  | invoke r m => trivial
  | builtin b =>
    simp only [evalOp]
    refine .bind fun vs hvs => ?_
    have hL := evs_ok hT hvs
    unfold builtE
    split
    · rename_i t0 v hat
      refine .bind fun I hI => ?_
      have hat' : argTypes = #[t0] := by apply Array.ext'; simpa using hat
      have hlen := hL.1
      obtain ⟨x, hx⟩ : ∃ x, args.toList = [x] := by
        simp only [List.length_map, List.length_cons, List.length_nil] at hlen
        match h : args.toList, hlen with
        | [x], _ => exact ⟨x, rfl⟩
      have hargs : args = #[x] := by apply Array.ext'; simpa using hx
      have hv := hL.2 0 v (Act.eval ⟨tmps, []⟩ x) (by simp) (by simp [hx])
      subst hat'
      subst hargs
      have K := ti_ok hI
      split
      · rename_i n e hd
        refine .keep R ?_ (VR.scal rfl)
        simp [execOp, resolve, invoke, builtin, Builtin.len_, run_underlying (K.array hd), goInt]
      · rename_i e hd
        refine .sl (fun n c hs => ?_) fun i q s n c hs => ?_
        · subst hs
          obtain ⟨_, _, ev⟩ := hv.nils
          refine .keep R ?_ (VR.scal rfl)
          simp [execOp, resolve, invoke, builtin, Builtin.len_, run_underlying (K.slice hd), ev, goInt]
        · subst hs
          refine .keep R ?_ (VR.scal rfl)
          cases s with
          | none =>
            obtain ⟨_, ev⟩ := hv.sle
            simp [execOp, resolve, invoke, builtin, Builtin.len_, run_underlying (K.slice hd), ev, goInt]
          | some z =>
            obtain ⟨_, _, _, ev, _⟩ := hv.slu
            simp [execOp, resolve, invoke, builtin, Builtin.len_, run_underlying (K.slice hd), ev, goInt]
      · rename_i hd
        refine .str fun s hs => ?_
        subst hs
        have ev := hv.str
        refine .keep R ?_ (VR.scal rfl)
        simp [execOp, resolve, invoke, builtin, Builtin.len_, run_underlying (K.str hd), ev, goInt]
      · trivial
    · rename_i t1 t2 s x hat
      have hat0 : argTypes = #[t1, t2] := by apply Array.ext'; simpa using hat
      have hlen := hL.1
      obtain ⟨a, b, hab⟩ : ∃ a b, args.toList = [a, b] := by
        simp only [List.length_map, List.length_cons, List.length_nil] at hlen
        match h : args.toList, hlen with
        | [a, b], _ => exact ⟨a, b, rfl⟩
      have hargs : args = #[a, b] := by apply Array.ext'; simpa using hab
      have hv := hL.2 0 s (Act.eval ⟨tmps, []⟩ a) (by simp) (by simp [hab])
      have hx := hL.2 1 x (Act.eval ⟨tmps, []⟩ b) (by simp) (by simp [hab])
      subst hat0
      subst hargs
      split
      · rename_i h01
        subst h01
        refine .bind fun I hI => .slt fun e hd => .bind fun E hE => ?_
        refine s_append (ty := ty) R ((ti_ok hI).slice hd) (ti_ok hE) hv hx fun v w' hr => ?_
        simp [execOp, resolve, invoke, builtin, hr]
      · refine s_grow (ty := ty) R hv hx fun v w' hr => ?_
        simp [execOp, resolve, invoke, builtin, hr]
    · rename_i t0 v hat
      refine .bind fun I hI => .slt fun e hd => ?_
      have hat' : argTypes = #[t0] := by apply Array.ext'; simpa using hat
      have hlen := hL.1
      obtain ⟨x, hx⟩ : ∃ x, args.toList = [x] := by
        simp only [List.length_map, List.length_cons, List.length_nil] at hlen
        match h : args.toList, hlen with
        | [x], _ => exact ⟨x, rfl⟩
      have hargs : args = #[x] := by apply Array.ext'; simpa using hx
      have hv := hL.2 0 v (Act.eval ⟨tmps, []⟩ x) (by simp) (by simp [hx])
      subst hat'
      subst hargs
      have K := ti_ok hI
      refine .sl (fun n c hs => ?_) fun i q s n c hs => trivial
      subst hs
      obtain ⟨_, _, ev⟩ := hv.nils
      refine .keep R ?_ (VR.scal rfl)
      simp [execOp, resolve, invoke, builtin, Builtin.cap_, run_underlying (K.slice hd), ev, goInt]
    · rename_i x y
      refine .int fun k a ha => .int fun k2 b hb => ?_
      subst ha; subst hb
      have hlen := hL.1
      obtain ⟨xa, xb, hab⟩ : ∃ a b, args.toList = [a, b] := by
        simp only [List.length_map, List.length_cons, List.length_nil] at hlen
        match h : args.toList, hlen with
        | [a, b], _ => exact ⟨a, b, rfl⟩
      have hargs : args = #[xa, xb] := by apply Array.ext'; simpa using hab
      have ev := VR.int (hL.2 0 (.int k a) (Act.eval ⟨tmps, []⟩ xa) (by simp) (by simp [hab]))
      have ev2 := VR.int (hL.2 1 (.int k2 b) (Act.eval ⟨tmps, []⟩ xb) (by simp) (by simp [hab]))
      subst hargs
      refine .keep R ?_ (VR.scal rfl)
      simp [execOp, resolve, invoke, builtin, Builtin.max_, Builtin.max2, ev, ev2]
    · rename_i x y
      refine .int fun k a ha => .int fun k2 b hb => ?_
      subst ha; subst hb
      have hlen := hL.1
      obtain ⟨xa, xb, hab⟩ : ∃ a b, args.toList = [a, b] := by
        simp only [List.length_map, List.length_cons, List.length_nil] at hlen
        match h : args.toList, hlen with
        | [a, b], _ => exact ⟨a, b, rfl⟩
      have hargs : args = #[xa, xb] := by apply Array.ext'; simpa using hab
      have ev := VR.int (hL.2 0 (.int k a) (Act.eval ⟨tmps, []⟩ xa) (by simp) (by simp [hab]))
      have ev2 := VR.int (hL.2 1 (.int k2 b) (Act.eval ⟨tmps, []⟩ xb) (by simp) (by simp [hab]))
      subst hargs
      refine .keep R ?_ (VR.scal rfl)
      simp [execOp, resolve, invoke, builtin, Builtin.min_, Builtin.min2, ev, ev2]
    · trivial
theorem zhF (R : Rel base ρ H w) (hT : TR ρ H.next w t tmps) (op : Op) : OutS P ⟨dst, op, ty, pos, af, gd⟩ tmps base ρ H w (evalOp P t H op) := by
  cases op with
  | move x => exact s_move R hT x
  | assign x => exact s_assign R hT x
  | pick c a b => exact s_pick R hT c a b
  | alloc e => exact s_alloc R e
  | box e x => exact s_box R hT e x
  | build e ps => exact s_build R hT e ps
  | buildSlice e n ps => exact s_buildSlice R hT e n ps
  | load e a => exact s_load R hT e a
  | store e a x => exact s_store R hT e a x
  | nilCheck x => exact s_nilCheck R hT x
  | binOp op e x y e2 => exact s_binOp R hT op e e2 x y
  | unOp op e x => exact s_unOp R hT op e x
  | convert s d x => exact s_convert R hT s d x
  | makeFunc fn f c => exact s_makeFunc R hT fn f c
  | makeSlice e l c => exact s_makeSlice R hT e l c
  | slice e x lo hi mx => exact s_slice R hT e x lo hi mx
  | fieldAddr e x f => exact s_fieldAddr R hT e x f
  | field e x f => exact s_field R hT e x f
  | indexAddr e x i => exact s_indexAddr R hT e x i
  | index e x i => exact s_index R hT e x i
  | extract x i => exact s_extract R hT x i
  | call c => exact s_call R hT c
  | _ => trivial
theorem callable_run {f : FuncId} (h : zeB P f = true) (args : Array Value) (w : World) : (callFunc f args).run P w = .ok (.enter f args) w := by
  unfold zeB at h
  split at h
  · rename_i fn hf
    simp only [Bool.and_eq_true, Bool.not_eq_true', Option.isSome_iff_ne_none, ne_eq] at h
    obtain ⟨h1, h2⟩ := h
    have hn : fn.body.isNone = false := by cases hb : fn.body <;> simp_all
    unfold callFunc
    simp only [Sem.run_bind, run_program, Result.andThen_ok, hf, h2, hn]
    rfl
  · cases h
theorem TR.ext {ρ' : Nat → Nat} {nx nx' : Nat} {w' : World} (h : TR ρ nx w t tmps) (E : Ext base ρ nx w ρ' nx' w') : TR ρ' nx' w' t tmps := fun i => (h i).ext E
theorem TR.put {nx : Nat} (h : TR ρ nx w t tmps) {v v' : Value} (hv : VR ρ nx w v v') (d : Option Tmp) (hd : ∀ i, d = some i → i < tmps.size) :
    TR ρ nx w (updO t d v) ((Act.put ⟨tmps, []⟩ d v').tmps) := by
  cases d with
  | none => exact h
  | some i =>
    have hi := hd i rfl
    intro j
    simp only [updO, upd, Act.put, Array.getD_eq_getD_getElem?, Array.getElem?_setIfInBounds]
    by_cases e : j = i
    · subst e
      simp [hi]; exact hv
    · have e' : ¬ i = j := fun q => e q.symm
      simp only [e, e', if_false]
      have := h j
      simpa [Array.getD_eq_getD_getElem?] using this
theorem zdN (d : Option Tmp) (v : Value) : (Act.put ⟨tmps, []⟩ d v).tmps.size = tmps.size := by cases d <;> simp [Act.put]
theorem put_eta (d : Option Tmp) (v : Value) : Act.put ⟨tmps, []⟩ d v = ⟨(Act.put ⟨tmps, []⟩ d v).tmps, []⟩ := by cases d <;> rfl
theorem zcY (R : Rel base ρ H w) (o : Oper) (next : Act → World → Prop) (QC : Exit → Act → World → Prop) {K : Value → AH → Prop}
    (hn : ∀ v v' H' ρ' w', K v H' → Rel base ρ' H' w' → Ext base ρ H.next w ρ' H'.next w' → VR ρ' H'.next w' v v' → next (Act.put ⟨tmps, []⟩ o.dst v') w') :
    ∀ out, OutS P o tmps base ρ H w out → runOut P H out K → o.wp P ⟨tmps, []⟩ w next QC
  | .val v H', ⟨v', w', ρ', hr, R', E, hV⟩, hK => by
    unfold Oper.wp; rw [hr]; exact hn v v' H' ρ' w' hK R' E hV
  | .unit H', ⟨w', ρ', hr, R', E⟩, hK => by
    unfold Oper.wp; rw [hr]; exact hn undef undef H' ρ' w' hK R' E VR.undef
  | .call f args, ⟨args', hr, hL⟩, hK => by
    unfold Oper.wp
    obtain ⟨hc, hcall⟩ := hK
    rw [hr, callable_run hc]
    refine (hcall base ρ w args' R hL).mono ?_
    rintro e w' ⟨v', v, H', ρ', rfl, hK', R', hV, E⟩
    exact hn v v' H' ρ' w' hK' R' E hV
  | .need p out, hS, hK => zcY R o next QC hn out (hS hK.1) hK.2
  | .alias a b c, hS, hK => hK.elim (zcY R o next QC hn a hS.1) fun k => hS.2.elim (fun h => zcY R o next QC hn b h k.1) fun h => zcY R o next QC hn c h k.2
  | .stuck, _, hK => hK.elim
theorem ops_ok (all : List Oper) (ops : Array Oper) (hall : ops.toList = all) (Q : T → AH → Prop) (QC : Exit → Act → World → Prop) :
    ∀ (os : List Oper) (t : T) (H : AH) (ρ : Nat → Nat) (w : World) (tmps : Array Value), awpOps P all Q os t H → St base ρ t H tmps w →
      (∀ o ∈ os, ∀ i, o.dst = some i → i < tmps.size) →
      (∀ t' H' ρ' w' tmps', Q t' H' → St base ρ' t' H' tmps' w' → Ext base ρ H.next w ρ' H'.next w' → tmps'.size = tmps.size → QC .normal ⟨tmps', []⟩ w') →
      wpList P ops QC os ⟨tmps, []⟩ w
  | [], t, H, ρ, w, tmps, h, hS, _, hQ => hQ t H ρ w tmps h hS (Ext.refl _ _ _ _) rfl
  | o :: os, t, H, ρ, w, tmps, h, hS, hd, hQ => by
    have hgo : ∀ v v' H' ρ' w', awpOps P all Q os (updO t o.dst v) H' → Rel base ρ' H' w' → Ext base ρ H.next w ρ' H'.next w' → VR ρ' H'.next w' v v' →
        wpList P ops QC os (Act.put ⟨tmps, []⟩ o.dst v') w' := by
      intro v v' H' ρ' w' hK R' E hV
      rw [put_eta]
      refine ops_ok all ops hall Q QC os _ H' ρ' w' _ hK ⟨R', (hS.2.ext E).put hV o.dst (hd o (by simp))⟩ (fun o' ho' i hi => by rw [zdN]; exact hd o' (by simp [ho']) i hi) ?_
      intro t' H'' ρ'' w'' tmps' hq hs he hz
      exact hQ t' H'' ρ'' w'' tmps' hq hs (E.trans he) (by rw [hz, zdN])
    have hrun : runOut P H (evalOp P t H o.op) (fun v H' => awpOps P all Q os (updO t o.dst v) H') → o.wp P ⟨tmps, []⟩ w (wpList P ops QC os) QC := by
      intro hr
      obtain ⟨dst, op, ty, pos, af, gd⟩ := o
      exact zcY hS.1 _ _ QC (fun v v' H' ρ' w' hK R' E hV => hgo v v' H' ρ' w' hK R' E hV) _ (zhF hS.1 hS.2 op) hr
    have hskip : awpOps P all Q os (updO t o.dst undef) H → wpList P ops QC os (Act.put ⟨tmps, []⟩ o.dst undef) w :=
      fun hs => hgo undef undef H ρ w hs hS.1 (Ext.refl _ _ _ _) VR.undef
    unfold wpList
    unfold awpOps at h
    cases hg : o.guard with
    | none =>
      rw [hg] at h
      rw [if_pos (by simp [Region.wanted, hg])]
      exact .inl (hrun h)
    | some g =>
      rw [hg] at h
      obtain ⟨j, want⟩ := g
      simp only at h
      have hw : Region.wanted o (yielded ops tmps) = (yielded ops tmps j == some want) := by simp [Region.wanted, hg]
      have hget : ops[j]? = all[j]? := by rw [← hall]; simp
      have hyb : ∀ b, gv all t j = .bool b → yielded ops tmps j = some b := by
        intro b hb
        unfold gv at hb
        unfold yielded
        rw [hget]
        cases hd2 : (all[j]?).bind (·.dst) with
        | none => rw [hd2] at hb; cases hb
        | some d =>
          rw [hd2] at hb
          simp only at hb
          have h1 := hS.2 d
          rw [hb] at h1
          have h2 := h1.bool
          have h3 : tmps[d]? = some (.bool b) := by
            rw [Array.getD_eq_getD_getElem?] at h2
            cases h4 : tmps[d]? with
            | none => rw [h4] at h2; cases h2
            | some u => rw [h4] at h2; simp at h2; rw [h2]
          simp [h3]
      have hyn : ∀ xs, gv all t j = .tuple xs → yielded ops tmps j = none := by
        intro xs hb
        unfold gv at hb
        unfold yielded
        rw [hget]
        cases hd2 : (all[j]?).bind (·.dst) with
        | none => rfl
        | some d =>
          rw [hd2] at hb
          simp only at hb
          have h1 := hS.2 d
          rw [hb] at h1
          obtain ⟨ys, h2, _⟩ := h1.tuples
          rw [Array.getD_eq_getD_getElem?] at h2
          cases h4 : tmps[d]? with
          | none => simp [h4]
          | some u => rw [h4] at h2; simp at h2; simp [h4, h2]
      rw [hw]
      unfold condW at h
      split at h
      · rename_i b hb
        rw [hyb b hb]
        by_cases e : b = want
        · rw [if_pos e] at h; subst e; simp only [beq_self_eq_true, if_true]; exact .inl (hrun h)
        · rw [if_neg e] at h
          rw [if_neg (by simpa using e)]
          exact hskip h
      · rename_i xs hb
        rw [hyn xs hb]
        split at h
        · rw [if_neg (by simp)]
          exact hskip h
        · exact h.elim
      · exact h.elim
/-! ### Code -/
theorem awp_ok : ∀ (c : Code) (Q : Exit → T → AH → Prop) (t : T) (H : AH), awp P c Q t H → Sem P c Q t H
  | .skip, Q, t, H, h => fun base ρ w tmps QC hS hd hQ => wp_skip (hQ _ t H ρ w tmps h hS (Ext.refl _ _ _ _) rfl)
  | .exit id, Q, t, H, h => fun base ρ w tmps QC hS hd hQ => wp_exit (hQ _ t H ρ w tmps h hS (Ext.refl _ _ _ _) rfl)
  | .ret, Q, t, H, h => fun base ρ w tmps QC hS hd hQ => wp_ret (hQ _ t H ρ w tmps h hS (Ext.refl _ _ _ _) rfl)
  | .region id ops false, Q, t, H, h => fun base ρ w tmps QC hS hd hQ => by
    refine wp_region_list (ops_ok ops.toList ops rfl (Q .normal) QC ops.toList t H ρ w tmps h hS ?_ fun t' H' ρ' w' tmps' hq hs he hz => hQ _ t' H' ρ' w' tmps' hq hs he hz)
    intro o ho i hi
    have := List.all_eq_true.1 hd o ho
    simp only [hi, decide_eq_true_eq] at this
    exact this
  | .region id ops true, Q, t, H, h => fun base ρ w tmps QC hS hd hQ => by
    refine h base ρ w tmps QC hS hd fun e t' H' ρ' w' tmps' hq hs he hz => ?_
    cases e with
    | normal => exact hQ _ t' H' ρ' w' tmps' hq hs he hz
    | _ => exact hq.elim
  | .seq a b, Q, t, H, h => fun base ρ w tmps QC hS hd hQ => by
    have hd' : dstB tmps.size a = true ∧ dstB tmps.size b = true := by simpa [dstB] using hd
    refine wp_seq (awp_ok a _ t H h base ρ w tmps _ hS hd'.1 fun e t' H' ρ' w' tmps' hq hs he hz => ?_)
    cases e with
    | normal =>
      refine awp_ok b Q t' H' hq base ρ' w' tmps' QC hs (hz ▸ hd'.2) fun e2 t2 H2 ρ2 w2 tmps2 hq2 hs2 he2 hz2 => ?_
      exact hQ e2 t2 H2 ρ2 w2 tmps2 hq2 hs2 (he.trans he2) (hz2.trans hz)
    | _ => exact hQ _ t' H' ρ' w' tmps' hq hs he hz
  | .cond c a b, Q, t, H, h => fun base ρ w tmps QC hS hd hQ => by
    have hd' : dstB tmps.size a = true ∧ dstB tmps.size b = true := by simpa [dstB] using hd
    unfold awp condC at h
    split at h
    · rename_i q hc
      have hv := (evo_ok hS.2 hc).bool
      refine wp_cond hv ?_
      cases q
      · simp only [Bool.false_eq_true, if_false] at h ⊢
        exact awp_ok b Q t H h base ρ w tmps QC hS hd'.2 hQ
      · simp only [if_true] at h ⊢
        exact awp_ok a Q t H h base ρ w tmps QC hS hd'.1 hQ
    · exact h.elim
  | .block id c, Q, t, H, h => fun base ρ w tmps QC hS hd hQ => by
    refine wp_block (awp_ok c _ t H h base ρ w tmps _ hS (by simpa [dstB] using hd) fun e t' H' ρ' w' tmps' hq hs he hz => ?_)
    cases e with
    | exit i =>
      simp only [blockQ] at hq
      simp only [Exit.inBlock]
      by_cases e : i = id
      · rw [if_pos e] at hq ⊢; exact hQ _ t' H' ρ' w' tmps' hq hs he hz
      · rw [if_neg e] at hq ⊢; exact hQ _ t' H' ρ' w' tmps' hq hs he hz
    | _ => exact hQ _ t' H' ρ' w' tmps' hq hs he hz
  | .loop c, Q, t, H, h => fun base ρ w tmps QC hS hd hQ => by
    obtain ⟨I, ⟨n, hI⟩, hround⟩ := h
    intro b k cs
    have key : ∀ n t' H' ρ' w' tmps', I n t' H' → St base ρ' t' H' tmps' w' → Ext base ρ H.next w ρ' H'.next w' → tmps'.size = tmps.size →
        ∃ e a' w2, QC e a' w2 ∧ Arrives P (lone (b.at ⟨tmps', []⟩ (.code c :: .inLoop c :: k)) cs w') b k cs e a' w2 := by
      intro n
      induction n using Nat.strongRecOn with
      | _ n ih =>
        intro t' H' ρ' w' tmps' hI hS' hE hz
        have hb := awp_ok c _ t' H' (hround n t' H' hI) base ρ' w' tmps'
          (Exit.then (fun a2 w2 => ∃ m t2 H2 ρ2 tmps2, m < n ∧ a2 = ⟨tmps2, []⟩ ∧ I m t2 H2 ∧ St base ρ2 t2 H2 tmps2 w2 ∧ Ext base ρ H.next w ρ2 H2.next w2 ∧ tmps2.size = tmps.size) QC) hS' (hz ▸ (by simpa [dstB] using hd))
          (fun e t2 H2 ρ2 w2 tmps2 hq hs he hz2 => by
            cases e with
            | normal =>
              obtain ⟨m, hm, hIm⟩ := hq
              exact ⟨m, t2, H2, ρ2, tmps2, hm, rfl, hIm, hs, hE.trans he, hz2.trans hz⟩
            | _ => exact hQ _ t2 H2 ρ2 w2 tmps2 hq hs (hE.trans he) (hz2.trans hz))
        obtain ⟨e, a₁, w₁, hq, harr⟩ := hb b (.inLoop c :: k) cs
        cases e with
        | normal =>
          obtain ⟨m, t2, H2, ρ2, tmps2, hm, rfl, hIm, hs, hE2, hz2⟩ := hq
          obtain ⟨e₂, a₂, w₂, hq₂, harr₂⟩ := ih m hm t2 H2 ρ2 w₁ tmps2 hIm hs hE2 hz2
          exact ⟨e₂, a₂, w₂, hq₂, .of_steps (Steps.trans harr (.one step_inLoop)) harr₂⟩
        | exit id => exact ⟨_, a₁, w₁, hq, .pass (x := .inLoop c) rfl (fun _ _ => .inl (by simp)) harr⟩
        | goto l => exact ⟨_, a₁, w₁, hq, .pass (x := .inLoop c) rfl (fun _ _ => .inl (by simp)) harr⟩
        | ret => exact ⟨_, a₁, w₁, hq, .pass (x := .inLoop c) rfl (fun _ _ => .inl (by simp)) harr⟩
        | panic ch => exact ⟨_, a₁, w₁, hq, .pass (x := .inLoop c) rfl (fun _ _ => .inl (by simp)) harr⟩
        | outgrown => exact ⟨_, a₁, w₁, hq, .pass (x := .inLoop c) rfl (fun _ _ => .inl (by simp)) harr⟩
    obtain ⟨e, a', w2, hq, harr⟩ := key n t H ρ w tmps hI hS (Ext.refl _ _ _ _) rfl
    exact ⟨e, a', w2, hq, .of_steps (.one step_loop) harr⟩
  | .rangeFunc .., _, _, _, h => h.elim
  | .scope .., _, _, _, h => h.elim
  | .label .., _, _, _, h => h.elim
  | .goto .., _, _, _, h => h.elim
  | .refuse .., _, _, _, h => h.elim
/-! ### Functions -/
theorem res1_ok (R : Rel base ρ H w) (hT : TR ρ H.next w t tmps) (r : ResultVar) (v : Value) (h : res1 P t H r = some v) :
    ∃ v', (match r with | .tmp t => (pure (tmps.getD t undef) : Go.Sem Value) | .cell a t => do loadVar t (← asAddr (tmps.getD a undef))).run P w = .ok v' w ∧ VR ρ H.next w v v' := by
  cases r with
  | tmp i => simp [res1] at h; subst h; exact ⟨_, rfl, hT i⟩
  | cell a e =>
    simp only [res1] at h
    cases hI : ti P e with
    | none => simp [hI] at h
    | some I =>
      simp only [hI, Option.bind_some] at h
      split at h
      · rename_i i o hp
        cases hr : H.row i with
        | none => simp [hr] at h
        | some r =>
          simp only [hr, Option.bind_some] at h
          have hv := hT a
          rw [hp] at hv
          obtain ⟨_, _, ev⟩ := hv.ptr
          split at h
          · rename_i hd
            split at h
            · rename_i hn
              cases h
              obtain ⟨ys, hl, h1⟩ := zeG R (ti_ok hI) hd hr hn.1 (.inl hn.2)
              exact ⟨_, by simp only [Sem.run_bind, ev, asAddr, Sem.run_pure, Result.andThen_ok, hl], h1.vr⟩
            · cases h
          · rename_i hd
            split at h
            · rename_i hrw
              obtain ⟨v', hl, h1⟩ := zeE R (ti_ok hI) (by simpa using hd) hr h (.inl hrw)
              exact ⟨_, by simp only [Sem.run_bind, ev, asAddr, Sem.run_pure, Result.andThen_ok, hl], .one h1⟩
            · cases h
      · cases h
theorem resL_ok (R : Rel base ρ H w) (hT : TR ρ H.next w t tmps) : ∀ (rs : List ResultVar) (vs : List Value), resL P t H rs = some vs →
    ∃ vs' : List Value, (rs.mapM fun (r : ResultVar) => (match r with | .tmp t => (pure (tmps.getD t undef) : Go.Sem Value) | .cell a t => do loadVar t (← asAddr (tmps.getD a undef)))).run P w = .ok vs' w ∧ LV ρ H.next w vs vs'
  | [], vs, h => by simp [resL] at h; subst h; exact ⟨[], by simp, LV.nil⟩
  | r :: rs, vs, h => by
    simp only [resL] at h
    cases h1 : res1 P t H r with
    | none => simp [h1] at h
    | some v =>
      cases h2 : resL P t H rs with
      | none => simp [h1, h2] at h
      | some us =>
        simp [h1, h2] at h
        subst h
        obtain ⟨v', hv, hV⟩ := res1_ok R hT r v h1
        obtain ⟨us', hu, hU⟩ := resL_ok R hT rs us h2
        refine ⟨v' :: us', ?_, LV.cons hV hU⟩
        simp only [List.mapM_cons, Sem.run_bind, hv, Result.andThen_ok, hu, Sem.run_pure]
theorem results_ok (R : Rel base ρ H w) (hT : TR ρ H.next w t tmps) {fn : Func} {v : Value} (h : resV P fn.results.toList t H = some v) :
    ∃ v', (results fn tmps).run P w = .ok v' w ∧ VR ρ H.next w v v' := by
  unfold resV at h
  cases h1 : resL P t H fn.results.toList with
  | none => simp [h1] at h
  | some vs =>
    simp [h1] at h
    subst h
    obtain ⟨vs', hv, hV⟩ := resL_ok R hT _ _ h1
    have hm : (fn.results.mapM fun (r : ResultVar) => (match r with | .tmp t => (pure (tmps.getD t undef) : Go.Sem Value) | .cell a t => do loadVar t (← asAddr (tmps.getD a undef)))).run P w = .ok vs'.toArray w := by
      rw [Array.mapM_eq_mapM_toList]
      simp only [Sem.run_map, hv, Result.andThen_ok]
    refine ⟨pack vs', ?_, ?_⟩
    · unfold results
      rw [Sem.run_bind]
      refine (congrArg (fun r : Result (Array Value) => r.andThen fun a w' => Sem.run P (pure (if h : a.size = 1 then a[0] else Value.tuple a)) w') hm).trans ?_
      simp only [Result.andThen_ok, Sem.run_pure]
      congr 1
      match vs' with
      | [] => rfl
      | [x] => rfl
      | x :: y :: l => simp [pack]
    · match vs, vs', hV with
      | [], [], h => exact LV.vr h
      | [x], [y], h => exact h.2 0 x y rfl rfl
      | x :: x2 :: l, y :: y2 :: l', h => exact LV.vr h
      | [], _ :: _, h => exact absurd h.1 (by simp)
      | [x], [], h => exact absurd h.1 (by simp)
      | [x], _ :: _ :: _, h => exact absurd h.1 (by simp)
      | _ :: _ :: _, [], h => exact absurd h.1 (by simp)
      | _ :: _ :: _, [_], h => exact absurd h.1 (by simp)
end
theorem za3 {P : Program} {f : FuncId} {fn : Func} {c : Code} {args : List Value} {H : AH} {R : Value → AH → Prop} (rs : List ResultVar)
    (hf : P.funcs[f]? = some fn) (hcl : zeB P f = true) (hb : fn.body = some c) (hr : fn.results.toList = rs) (hn : args.length ≤ fn.ntmps) (hd : dstB fn.ntmps c = true)
    (h : awp P c (retQ P rs R) (init args) H) : ACalls P f args H R := by
  refine ⟨hcl, fun base ρ w args' hRel hL => ?_⟩
  have hsz : (args'.toArray ++ Array.replicate (fn.ntmps - args'.toArray.size) undef).size = fn.ntmps := by
    have := hL.1; simp; omega
  refine calls_of_wp hf hb (awp_ok c _ _ H h base ρ w _ _ ⟨hRel, fun i => ?_⟩ (by rw [hsz]; exact hd) fun e t' H' ρ' w' tmps' hq hs he hz => ?_)
  · unfold init
    by_cases hi : i < args.length
    · have hi' : i < args'.length := by rw [← hL.1]; exact hi
      have h1 : args.getD i undef = args[i] := by simp [hi]
      have h2 : (args'.toArray ++ Array.replicate (fn.ntmps - args'.toArray.size) undef).getD i undef = args'[i] := by
        rw [Array.getD_eq_getD_getElem?, Array.getElem?_append_left (by simpa using hi')]
        simp [hi']
      rw [h1, h2]
      exact hL.2 i _ _ (List.getElem?_eq_getElem hi) (List.getElem?_eq_getElem hi')
    · have h1 : args.getD i undef = undef := by simp [Nat.le_of_not_lt hi]
      have h2 : (args'.toArray ++ Array.replicate (fn.ntmps - args'.toArray.size) undef).getD i undef = undef := by
        rw [Array.getD_eq_getD_getElem?, Array.getElem?_append_right (by have := hL.1; simp; omega)]
        cases h3 : (Array.replicate (fn.ntmps - args'.toArray.size) undef)[i - args'.toArray.size]? with
        | none => rfl
        | some u =>
          simp only [Array.getElem?_replicate] at h3
          split at h3
          · cases h3; rfl
          · cases h3
      rw [h1, h2]
      exact VR.undef
  · have fin : ∀ v, resV P rs t' H' = some v → R v H' → (⟨tmps', []⟩ : Act).defers = [] ∧ ∃ v', (results fn (⟨tmps', []⟩ : Act).tmps).run P w' = .ok v' w' ∧
        (∃ v2 v3 H2 ρ2, Ending.returned v' = .returned v2 ∧ R v3 H2 ∧ Rel base ρ2 H2 w' ∧ VR ρ2 H2.next w' v3 v2 ∧ Ext base ρ H.next w ρ2 H2.next w') := by
      intro v hv hR
      subst hr
      obtain ⟨v', hrun, hV⟩ := results_ok hs.1 hs.2 hv
      exact ⟨rfl, v', hrun, v', v, H', ρ', rfl, hR, hs.1, hV, he⟩
    cases e with
    | ret => obtain ⟨v, hv, hR⟩ := hq; exact fin v hv hR
    | normal => obtain ⟨v, hv, hR⟩ := hq; exact fin v hv hR
    | _ => exact hq.elim
end Go.Abs
end

section
namespace Go.Abs
open Go Go.RowKit
structure LE (H H' : AH) : Prop where
  next : H.next ≤ H'.next
  row : ∀ i r, H.row i = some r → H'.row i = some r
theorem LE.refl (H : AH) : LE H H := ⟨Nat.le_refl _, fun _ _ h => h⟩
theorem LE.trans {A B C : AH} (h : LE A B) (k : LE B C) : LE A C := ⟨Nat.le_trans h.next k.next, fun i r hr => k.row i r (h.row i r hr)⟩
/-! ### An answer with another heap in it -/
def Out.setH (H' : AH) : Out → Out
  | .val v _ => .val v H'
  | .unit _ => .unit H'
  | .call f a => .call f a
  | .need p o => .need p (o.setH H')
  | .alias a b c => .alias (a.setH H') (b.setH H') (c.setH H')
  | .stuck => .stuck
section
variable (H' : AH)
theorem zaO {α : Type} (x : Option α) (f : α → Out) : (bindO x f).setH H' = bindO x fun a => (f a).setH H' := by cases x <;> rfl
theorem zgO (v : Value) (f : IntKind → Int → Out) : (asI v f).setH H' = asI v fun a b => (f a b).setH H' := by cases v <;> rfl
theorem setH_asB (v : Value) (f : Bool → Out) : (asB v f).setH H' = asB v fun a => (f a).setH H' := by cases v <;> rfl
theorem zgM (v : Value) (f : Nat → Nat → Out) : (asP v f).setH H' = asP v fun a b => (f a b).setH H' := by unfold asP; split <;> rfl
theorem zfH (v : Value) (n : Out) (f : Nat → Nat → Option Nat → Nat → Nat → Out) : (asSl v n f).setH H' = asSl v (n.setH H') fun a b c d e => (f a b c d e).setH H' := by unfold asSl; split <;> rfl
theorem zgJ (v : Value) (f : List Value → Out) : (asAgg v f).setH H' = asAgg v fun a => (f a).setH H' := by cases v <;> rfl
theorem setH_asTup (v : Value) (f : List Value → Out) : (asTup v f).setH H' = asTup v fun a => (f a).setH H' := by cases v <;> rfl
theorem ze9 (v : Value) (f : ByteArray → Out) : (asStr v f).setH H' = asStr v fun a => (f a).setH H' := by cases v <;> rfl
theorem setH_stT (v : TD) (f : List (Nat × TypeId) → Out) : (stT v f).setH H' = stT v fun a => (f a).setH H' := by cases v <;> rfl
theorem setH_oI (t : T) (x : Option Operand) (f : Option Int → Out) : (oI t x f).setH H' = oI t x fun a => (f a).setH H' := by
  unfold oI; split
  · rfl
  · rw [zaO]; congr 1; funext a; rw [zgO]
theorem zeM (c : Prop) [Decidable c] (a b : Out) : (if c then a else b).setH H' = if c then a.setH H' else b.setH H' := by split <;> rfl
theorem zbS (p : Prop) (o : Out) : (Out.need p o).setH H' = .need p (o.setH H') := (rfl)
theorem zbO (v : Value) (H : AH) : (Out.val v H).setH H' = .val v H' := (rfl)
theorem setH_okNil (v : Value) (o : Out) : (okNil v o).setH H' = okNil v (o.setH H') := by unfold okNil; split <;> rfl
theorem setH_binI (op : BinOp) (k : IntKind) (a b : Int) (H : AH) : (binI op k a b H).setH H' = binI op k a b H' := by unfold binI; split <;> rfl
theorem setH_binE (op : BinOp) (d : TD) (a b : Value) (H : AH) : (binE op d a b H).setH H' = binE op d a b H' := by
  unfold binE; split
  · split
    · rfl
    · rfl
    · rw [zbS, setH_binI]
  · split <;> rfl
  · split <;> rfl
  · split <;> rfl
  · split <;> rfl
  · rfl
theorem setH_binA (P : Program) (op : BinOp) (ty : TypeId) (d : TD) (a b : Value) (H : AH) : (binA P op ty d a b H).setH H' = binA P op ty d a b H' := by
  unfold binA; split
  · split
    · unfold arrE
      rw [zaO]; congr 1; funext E
      split
      · rw [zbS]; congr 1
        split <;> rfl
      · rfl
    · rfl
  · exact setH_binE _ _ _ _ _ _
theorem setH_unE (op : UnOp) (a : Value) (H : AH) : (unE op a H).setH H' = unE op a H' := by unfold unE; split <;> rfl
theorem setH_convE (s d : TD) (a : Value) (H : AH) : (convE s d a H).setH H' = convE s d a H' := by unfold convE; split <;> rfl
theorem setH_sliceE (E : TI) (v : Value) (lo hi mx : Option Int) (H : AH) : (sliceE E v lo hi mx H).setH H' = sliceE E v lo hi mx H' := by
  unfold sliceE; split
  · rfl
  · rw [zfH]; congr 1
    funext a b c d e
    cases c with
    | none => rfl
    | some z => cases mx <;> rfl
end
def za2 : Op → Bool
  | .move _ | .assign _ | .pick .. | .build .. | .nilCheck _ | .binOp .. | .unOp .. | .convert .. | .makeFunc .. | .slice .. | .fieldAddr .. | .field .. | .indexAddr .. | .index .. | .extract .. => true
  | .call { callee := .builtin .len, .. } => true
  | _ => false
def za0 : Op → Bool
  | .load .. => true
  | op => za2 op
theorem zgG (P : Program) (t : T) (H H' : AH) (op : Op) (h : za2 op = true) : evalOp P t H' op = (evalOp P t H op).setH H' := by
  cases op with
  | call c =>
    obtain ⟨callee, args, ats⟩ := c
    cases callee with
    | builtin b =>
      cases b <;> simp [za2] at h
      simp only [evalOp, zaO]
      congr 1; funext vs
      unfold builtE
      split
      · rw [zaO]; congr 1; funext I
        split
        · rfl
        · rw [zfH]; rfl
        · rw [ze9]; rfl
        · rfl
      · contradiction
      · contradiction
      · contradiction
      · contradiction
      · rfl
    | value f => simp [za2] at h
    | invoke r m => simp [za2] at h
  | slice ty x lo hi mx =>
    simp only [evalOp, zaO]
    congr 1; funext I; congr 1; funext v
    split
    · simp only [zaO, setH_oI, setH_sliceE]
    · simp only [zeM, ze9, setH_oI, zbS, zbO]; rfl
    · simp only [zaO, zeM, zgM, setH_oI, zbS, zbO]; rfl
    · rfl
  | indexAddr ty x ix =>
    simp only [evalOp, zaO, zgO]
    congr 1; funext I; congr 1; funext v; congr 1; funext vi; congr 1; funext k n
    split
    · simp only [zaO, zfH, zbS, zbO]; rfl
    · simp only [zaO, zgM, zbS, zbO]
    · rfl
  | index ty x ix =>
    simp only [evalOp, zaO, zgO]
    congr 1; funext I; congr 1; funext v; congr 1; funext vi; congr 1; funext k n
    split
    · simp only [zaO, zgJ, zbS, zeM, zbO]
    · simp only [ze9, zbS, zbO]
    · rfl
  | move x => simp only [evalOp, zaO, zbO]
  | assign x => simp only [evalOp, zaO, zbO]
  | pick c a b => simp only [evalOp, zaO, setH_asB, zbO]
  | build ty ps => simp only [evalOp, zaO, zbO]
  | nilCheck x => simp only [evalOp, zaO, setH_okNil, zbO]
  | binOp op ty x y e2 => simp only [evalOp, zaO, setH_binA]
  | unOp op e x => simp only [evalOp, zaO, setH_unE]
  | convert s d x => simp only [evalOp, zaO, setH_convE]
  | makeFunc fn f c => simp only [evalOp, zeM, zaO, zbS, zbO]; rfl
  | fieldAddr ty x f => simp only [evalOp, zaO, setH_stT, zgM, zbS, zbO]
  | field ty x f => simp only [evalOp, zaO, setH_stT, zgJ, zeM, zbS, zbO]
  | extract x i => simp only [evalOp, zaO, setH_asTup, zbO]
  | _ => simp [za2] at h
theorem zaG {P : Program} {H : AH} {K K' : Value → AH → Prop} (h : ∀ v H', K v H' → K' v H') : ∀ out, runOut P H out K → runOut P H out K'
  | .val v H', hk => h v H' hk
  | .unit H', hk => h _ H' hk
  | .call f args, hk => ⟨hk.1, fun base ρ w args' R L => (hk.2 base ρ w args' R L).mono fun e w' ⟨v', v, H2, ρ2, a, b, c⟩ => ⟨v', v, H2, ρ2, a, h v H2 b, c⟩⟩
  | .need p o, hk => ⟨hk.1, zaG h o hk.2⟩
  | .alias a b c, hk => hk.imp (zaG h a) fun k => ⟨zaG h b k.1, zaG h c k.2⟩
  | .stuck, hk => hk.elim
def Sh (H : AH) : Out → Prop
  | .val _ H' => H' = H
  | .need _ o => Sh H o
  | .stuck => True
  | .unit _ => False
  | .call _ _ => False
  | .alias _ _ _ => False
def yl : Out → Value → Prop
  | .val v' _, v => v' = v
  | .need p o, v => p ∧ yl o v
  | _, _ => False
section
variable {H : AH}
theorem Sh.bind {α : Type} {x : Option α} {f : α → Out} (h : ∀ a, Sh H (f a)) : Sh H (bindO x f) := by cases x; trivial; exact h _
theorem Sh.int {v : Value} {f : IntKind → Int → Out} (h : ∀ k n, Sh H (f k n)) : Sh H (asI v f) := by unfold asI; split; exact h _ _; trivial
theorem Sh.bool {v : Value} {f : Bool → Out} (h : ∀ b, Sh H (f b)) : Sh H (asB v f) := by unfold asB; split; exact h _; trivial
theorem Sh.ptr {v : Value} {f : Nat → Nat → Out} (h : ∀ i o, Sh H (f i o)) : Sh H (asP v f) := by unfold asP; split; exact h _ _; trivial
theorem Sh.sl {v : Value} {n0 : Out} {f : Nat → Nat → Option Nat → Nat → Nat → Out} (h0 : Sh H n0) (h : ∀ a b c d e, Sh H (f a b c d e)) : Sh H (asSl v n0 f) := by
  unfold asSl; split; exact h0; exact h _ _ _ _ _; trivial
theorem Sh.agg {v : Value} {f : List Value → Out} (h : ∀ c, Sh H (f c)) : Sh H (asAgg v f) := by unfold asAgg; split; exact h _; trivial
theorem Sh.tup {v : Value} {f : List Value → Out} (h : ∀ c, Sh H (f c)) : Sh H (asTup v f) := by unfold asTup; split; exact h _; trivial
theorem Sh.str {v : Value} {f : ByteArray → Out} (h : ∀ c, Sh H (f c)) : Sh H (asStr v f) := by unfold asStr; split; exact h _; trivial
theorem Sh.slt {v : TD} {f : TypeId → Out} (h : ∀ c, Sh H (f c)) : Sh H (slT v f) := by unfold slT; split; exact h _; trivial
theorem Sh.stt {v : TD} {f : List (Nat × TypeId) → Out} (h : ∀ c, Sh H (f c)) : Sh H (stT v f) := by unfold stT; split; exact h _; trivial
theorem Sh.oi {t : T} {x : Option Operand} {f : Option Int → Out} (h : ∀ c, Sh H (f c)) : Sh H (oI t x f) := by
  unfold oI; split; exact h _; exact .bind fun _ => .int fun _ _ => h _
theorem Sh.ite {c : Prop} [Decidable c] {a b : Out} (h : Sh H a) (k : Sh H b) : Sh H (if c then a else b) := by split; exact h; exact k
theorem zfE (P : Program) (t : T) (op : Op) (h : za0 op = true) : Sh H (evalOp P t H op) := by
  cases op with
  | call c =>
    obtain ⟨callee, args, ats⟩ := c
    cases callee with
    | builtin b =>
      cases b <;> simp [za0, za2] at h
      simp only [evalOp]
      refine .bind fun vs => ?_
      unfold builtE
      split
      · refine .bind fun I => ?_
        split
        · rfl
        · exact .sl rfl fun _ _ _ _ _ => rfl
        · exact .str fun _ => rfl
        · trivial
      · contradiction
      · contradiction
      · contradiction
      · contradiction
      · trivial
    | value f => simp [za0, za2] at h
    | invoke r m => simp [za0, za2] at h
  | slice ty x lo hi mx =>
    simp only [evalOp]
    refine .bind fun I => .bind fun v => ?_
    split
    · refine .bind fun E => .oi fun _ => .oi fun _ => .oi fun mm => ?_
      unfold sliceE
      refine .ite trivial (.sl rfl fun a b c d e => ?_)
      cases c with
      | none => rfl
      | some z => cases mm <;> rfl
    · exact .ite (.str fun _ => .oi fun _ => .oi fun _ => rfl) trivial
    · exact .bind fun _ => .ite (.ptr fun _ _ => .oi fun _ => .oi fun _ => rfl) trivial
    · trivial
  | indexAddr ty x ix =>
    simp only [evalOp]
    refine .bind fun I => .bind fun v => .bind fun _ => .int fun _ _ => ?_
    split
    · exact .bind fun _ => .sl trivial fun _ _ _ _ _ => rfl
    · exact .bind fun _ => .ptr fun _ _ => rfl
    · trivial
  | index ty x ix =>
    simp only [evalOp]
    refine .bind fun I => .bind fun v => .bind fun _ => .int fun _ _ => ?_
    split
    · refine .bind fun _ => .agg fun _ => ?_
      change Sh H (if _ then _ else _)
      refine .ite ?_ (.bind fun _ => ?_)
      · rfl
      · rfl
    · exact .str fun _ => rfl
    · trivial
  | move x => exact .bind fun _ => rfl
  | assign x => exact .bind fun _ => rfl
  | pick c a b => exact .bind fun _ => .bind fun _ => .bind fun _ => .bool fun _ => rfl
  | build ty ps => exact .bind fun _ => .bind fun _ => .bind fun _ => .bind fun _ => rfl
  | nilCheck x => refine .bind fun _ => ?_; unfold okNil; split <;> first | rfl | trivial
  | binOp op ty x y e2 =>
    refine .bind fun _ => .bind fun _ => .bind fun _ => ?_
    unfold binA
    split
    · split
      · unfold arrE
        refine .bind fun _ => ?_
        split
        · split <;> first | rfl | trivial
        · trivial
      · trivial
    unfold binE
    split
    · split
      · rfl
      · rfl
      · unfold binI; split <;> first | rfl | trivial
    · split <;> first | rfl | trivial
    · split <;> first | rfl | trivial
    · split <;> first | rfl | trivial
    · split <;> first | rfl | trivial
    · trivial
  | unOp op e x => refine .bind fun _ => ?_; unfold unE; split <;> first | rfl | trivial
  | convert s d x => refine .bind fun _ => .bind fun _ => .bind fun _ => ?_; unfold convE; split <;> first | rfl | trivial
  | makeFunc fn f c => simp only [evalOp]; exact .ite (.bind fun _ => rfl) trivial
  | fieldAddr ty x f => exact .bind fun _ => .stt fun _ => .bind fun _ => .bind fun _ => .bind fun _ => .ptr fun _ _ => rfl
  | field ty x f => exact .bind fun _ => .stt fun _ => .bind fun _ => .bind fun _ => .bind fun _ => .agg fun _ => .ite rfl (.bind fun _ => rfl)
  | extract x i => exact .bind fun _ => .tup fun _ => .bind fun _ => rfl
  | load ty a => exact .bind fun _ => .bind fun _ => .ptr fun _ _ => .bind fun _ => .ite rfl (.bind fun _ => rfl)
  | _ => simp [za0, za2] at h
theorem Sh.yl {P : Program} {K : Value → AH → Prop} : ∀ out, Sh H out → runOut P H out K → ∃ v, Abs.yl out v ∧ K v H
  | .val v H', hs, hk => ⟨v, rfl, by have : H' = H := hs; subst this; exact hk⟩
  | .need p o, hs, hk => let ⟨v, a, b⟩ := Sh.yl o hs hk.2; ⟨v, ⟨hk.1, a⟩, b⟩
  | .stuck, _, hk => hk.elim
  | .unit _, hs, _ => hs.elim
  | .call _ _, hs, _ => hs.elim
  | .alias _ _ _, hs, _ => hs.elim
theorem yl_run {P : Program} {K : Value → AH → Prop} {v : Value} : ∀ out, Sh H out → Abs.yl out v → K v H → runOut P H out K
  | .val u H', hs, hy, hk => by
    have e1 : H' = H := hs; have e2 : u = v := hy; subst e1; subst e2; exact hk
  | .need p o, hs, hy, hk => ⟨hy.1, yl_run o hs hy.2 hk⟩
  | .stuck, _, hy, _ => hy.elim
  | .unit _, hs, _, _ => hs.elim
  | .call _ _, hs, _, _ => hs.elim
  | .alias _ _ _, hs, _, _ => hs.elim
theorem ziB {H' : AH} {v : Value} : ∀ out, Abs.yl out v → Abs.yl (out.setH H') v
  | .val _ _, h => h
  | .need p o, h => ⟨h.1, ziB o h.2⟩
end
theorem zf8 {P : Program} {t : T} {H H' : AH} {op : Op} {v : Value} (hq : za0 op = true) (hle : za2 op = true ∨ LE H H') (h : yl (evalOp P t H op) v) : yl (evalOp P t H' op) v := by
  by_cases hb : za2 op = true
  · rw [zgG P t H H' op hb]; exact ziB _ h
  · have hle2 : LE H H' := hle.resolve_left hb
    clear hle
    cases op with
    | load ty a =>
      simp only [evalOp] at h ⊢
      cases hI : ti P ty with
      | none => simp only [hI] at h; exact h.elim
      | some I =>
        simp only [hI, zaZ] at h ⊢
        cases hv : evo t a with
        | none => simp only [hv] at h; exact h.elim
        | some u =>
          simp only [hv, zaZ] at h ⊢
          unfold asP at h ⊢
          split at h
          · rename_i i o
            cases hr : H.row i with
            | none => simp only [hr] at h; exact h.elim
            | some r =>
              have hr2 := hle2.row i r hr
              simp only [hr, hr2, zaZ] at h ⊢
              split at h
              · rename_i hd; rw [if_pos hd]; exact h
              · rename_i hd
                rw [if_neg hd]
                cases hx : r.cells[o]? with
                | none => simp only [hx] at h; exact h.elim
                | some x => simp only [hx, zaZ] at h ⊢; exact h
          · exact h.elim
    | _ => simp_all [za0, za2]
/-! ### Any order -/
def aStep (P : Program) (all : List Oper) (i : Nat) (t : T) (H : AH) (K : T → AH → Prop) : Prop :=
  match all[i]? with
  | none => K t H
  | some o =>
    match o.guard with
    | none => runOut P H (evalOp P t H o.op) fun v H' => K (updO t o.dst v) H'
    | some g => condW (gv all t g.1) g.2 (runOut P H (evalOp P t H o.op) fun v H' => K (updO t o.dst v) H') (K (updO t o.dst undef) H)
def befB (ops : Array Oper) (q : Nat) : Nat → Nat → Bool
  | 0, _ => false
  | n + 1, j => match ops[j]? with
    | some o => o.after.toList.any fun e => Region.binds .any e && (e.on == q || befB ops q n e.on)
    | none => false
def sinkB (ops : Array Oper) (j : Nat) : Bool :=
  (List.range ops.size).all fun q => q == j || befB ops q ops.size j || befB ops j ops.size q || (match ops[q]? with | some o => za2 o.op || !za0 o.op | none => true)
def AAny (P : Program) (ops : Array Oper) (Q : T → AH → Prop) : Nat → Array Bool → T → AH → Prop
  | 0, listed, t, H => Region.ready .any ops listed = [] ∧ Q t H
  | f + 1, listed, t, H => (Region.ready .any ops listed = [] → Q t H) ∧
    ∀ i ∈ Region.ready .any ops listed, aStep P ops.toList i t H fun t' H' => (sinkB ops i = true ∨ LE H H') ∧ AAny P ops Q f (listed.setIfInBounds i true) t' H'
def Closed (ops : Array Oper) (listed : Array Bool) : Prop :=
  listed.size = ops.size ∧ ∀ (j : Nat) oj, ops[j]? = some oj → listed.getD j false = true → ∀ e ∈ oj.after, Region.binds .any e = true → listed.getD e.on false = true
theorem Closed.bef {ops : Array Oper} {listed : Array Bool} (h : Closed ops listed) {q : Nat} : ∀ (n j : Nat) oj, ops[j]? = some oj → (∀ e ∈ oj.after, Region.binds .any e = true → listed.getD e.on false = true) →
    befB ops q n j = true → listed.getD q false = true
  | 0, j, oj, _, _, hb => by simp [befB] at hb
  | n + 1, j, oj, hj, hall, hb => by
    simp only [befB, hj, List.any_eq_true, Bool.and_eq_true, Bool.or_eq_true, beq_iff_eq] at hb
    obtain ⟨e, he, hbind, hq⟩ := hb
    have hl := hall e (by simpa using he) hbind
    rcases hq with hq | hq
    · rw [← hq]; exact hl
    · cases ho : ops[e.on]? with
      | none => cases n <;> simp [befB, ho] at hq
      | some oe => exact Closed.bef h n e.on oe ho (fun e2 he2 hb2 => h.2 e.on oe ho hl e2 he2 hb2) hq
theorem ready_iff {ops : Array Oper} {listed : Array Bool} {i : Nat} : i ∈ Region.ready .any ops listed ↔ listed.getD i true = false ∧ ∃ o, ops[i]? = some o ∧ ∀ e ∈ o.after, Region.binds .any e = true → listed.getD e.on false = true := mem_ready
theorem zbC {t : T} {d : Nat} {v : Value} {x : Operand} (h : x ≠ .tmp d) : evo (upd t d v) x = evo t x := by
  cases x with
  | tmp i =>
    have : i ≠ d := fun e => h (by rw [e])
    simp [evo, upd, this]
  | _ => rfl
theorem zhV {t : T} {d : Nat} {v : Value} : ∀ {xs : List Operand}, (∀ x ∈ xs, x ≠ .tmp d) → evs (upd t d v) xs = evs t xs
  | [], _ => rfl
  | x :: xs, h => by
    simp only [evs]
    rw [zbC (h x (by simp)), zhV (fun y hy => h y (by simp [hy]))]
theorem evp_upd {t : T} {d : Nat} {v : Value} : ∀ {xs : List (Nat × Operand)}, (∀ p ∈ xs, p.2 ≠ .tmp d) → evp (upd t d v) xs = evp t xs
  | [], _ => rfl
  | (i, x) :: xs, h => by
    simp only [evp]
    rw [zbC (h (i, x) (by simp)), evp_upd (fun y hy => h y (by simp [hy]))]
theorem oI_upd {t : T} {d : Nat} {v : Value} {x : Option Operand} {f : Option Int → Out} (h : ∀ y, x = some y → y ≠ .tmp d) : oI (upd t d v) x f = oI t x f := by
  cases x with
  | none => rfl
  | some y => simp only [oI]; rw [zbC (h y rfl)]
theorem evalOp_upd {P : Program} {t : T} {H : AH} {d : Nat} {v : Value} (op : Op) (h : ∀ x ∈ op.operands, x ≠ .tmp d) : evalOp P (upd t d v) H op = evalOp P t H op := by
  cases op with
  | call c =>
    obtain ⟨callee, args, ats⟩ := c
    have ha : ∀ x ∈ args.toList, x ≠ .tmp d := fun x hx => h x (by simp [Op.operands, Call.operands, Array.mem_def.2 hx])
    cases callee with
    | value f =>
      have hf : f ≠ .tmp d := h f (by simp [Op.operands, Call.operands])
      simp only [evalOp, zbC hf, zhV ha]
    | builtin b => simp only [evalOp, zhV ha]
    | invoke r m => rfl
  | build ty ps =>
    have hp : ∀ p ∈ ps.toList, p.2 ≠ .tmp d := fun p hp => h p.2 (by simp only [Op.operands]; simp; exact ⟨p.1, by simpa using hp⟩)
    simp only [evalOp, evp_upd hp]
  | buildSlice ty n ps =>
    have hp : ∀ p ∈ ps.toList, p.2 ≠ .tmp d := fun p hp => h p.2 (by simp only [Op.operands]; simp; exact ⟨p.1, by simpa using hp⟩)
    simp only [evalOp, evp_upd hp]
  | makeFunc fn f c =>
    have hc : ∀ x ∈ c.toList, x ≠ .tmp d := fun x hx => h x (by simp [Op.operands, Array.mem_def.2 hx])
    simp only [evalOp, zhV hc]
  | slice ty x lo hi mx =>
    have hx : x ≠ .tmp d := h x (by simp [Op.operands])
    have hl : ∀ y, lo = some y → y ≠ .tmp d := fun y e => h y (by subst e; simp [Op.operands])
    have hh : ∀ y, hi = some y → y ≠ .tmp d := fun y e => h y (by subst e; simp [Op.operands])
    have hm : ∀ y, mx = some y → y ≠ .tmp d := fun y e => h y (by subst e; simp [Op.operands])
    simp only [evalOp, zbC hx, oI_upd hl, oI_upd hh, oI_upd hm]
  | pick c a b =>
    simp only [evalOp]
    rw [zbC (h c (by simp [Op.operands])), zbC (h a (by simp [Op.operands])), zbC (h b (by simp [Op.operands]))]
  | move x => simp only [evalOp]; rw [zbC (h x (by simp [Op.operands]))]
  | assign x => simp only [evalOp]; rw [zbC (h x (by simp [Op.operands]))]
  | alloc e => rfl
  | box e x => simp only [evalOp]; rw [zbC (h x (by simp [Op.operands]))]
  | load e x => simp only [evalOp]; rw [zbC (h x (by simp [Op.operands]))]
  | store e a x => simp only [evalOp]; rw [zbC (h a (by simp [Op.operands])), zbC (h x (by simp [Op.operands]))]
  | nilCheck x => simp only [evalOp]; rw [zbC (h x (by simp [Op.operands]))]
  | binOp op e x y e2 => simp only [evalOp]; rw [zbC (h x (by simp [Op.operands])), zbC (h y (by simp [Op.operands]))]
  | unOp op e x => simp only [evalOp]; rw [zbC (h x (by simp [Op.operands]))]
  | convert s e x => simp only [evalOp]; rw [zbC (h x (by simp [Op.operands]))]
  | makeSlice e l c => simp only [evalOp]; rw [zbC (h l (by simp [Op.operands])), zbC (h c (by simp [Op.operands]))]
  | fieldAddr e x f => simp only [evalOp]; rw [zbC (h x (by simp [Op.operands]))]
  | field e x f => simp only [evalOp]; rw [zbC (h x (by simp [Op.operands]))]
  | indexAddr e x i => simp only [evalOp]; rw [zbC (h x (by simp [Op.operands])), zbC (h i (by simp [Op.operands]))]
  | index e x i => simp only [evalOp]; rw [zbC (h x (by simp [Op.operands])), zbC (h i (by simp [Op.operands]))]
  | extract x i => simp only [evalOp]; rw [zbC (h x (by simp [Op.operands]))]
  | _ => rfl
theorem upd_comm (t : T) {i j : Nat} (u v : Value) (h : i ≠ j) : upd (upd t i u) j v = upd (upd t j v) i u := by
  funext k
  simp only [upd]
  by_cases h1 : k = j
  · subst h1
    rw [if_pos rfl, if_neg (fun e => h e.symm), if_pos rfl]
  · rw [if_neg h1]
    by_cases h2 : k = i
    · rw [if_pos h2, if_pos h2]
    · rw [if_neg h2, if_neg h2, if_neg h1]
theorem updO_comm (t : T) {x y : Option Nat} (u v : Value) (h : ∀ d, x = some d → y ≠ some d) : updO (updO t x u) y v = updO (updO t y v) x u := by
  cases x with
  | none => rfl
  | some i =>
    cases y with
    | none => rfl
    | some j => exact upd_comm t u v (fun e => h i rfl (by rw [e]))
theorem zc3 {P : Program} {t : T} {H : AH} {d : Option Nat} {v : Value} {ops : Array Oper} (o : Oper) (h : ∀ i, d = some i → i ∉ o.looksAt ops) : evalOp P (updO t d v) H o.op = evalOp P t H o.op := by
  cases d with
  | none => rfl
  | some i =>
    refine evalOp_upd o.op fun x hx e => h i rfl ?_
    subst e
    exact List.mem_append_left _ (List.mem_filterMap.2 ⟨.tmp i, by simpa using hx, rfl⟩)
theorem gv_updO {ops : Array Oper} {t : T} {d : Option Nat} {v : Value} (o : Oper) (h : ∀ i, d = some i → i ∉ o.looksAt ops) {g : Nat × Bool} (hg : o.guard = some g) : gv ops.toList (updO t d v) g.1 = gv ops.toList t g.1 := by
  cases d with
  | none => rfl
  | some i =>
    unfold gv
    have e : ops.toList[g.1]? = ops[g.1]? := by simp
    rw [e]
    cases hd : (ops[g.1]?).bind (·.dst) with
    | none => rfl
    | some k =>
      have hne : k ≠ i := fun e => h i rfl (by
        subst e
        refine List.mem_append_right _ ?_
        obtain ⟨j, want⟩ := g
        simp only [hg]
        rw [hd]; simp)
      simp [updO, upd, hne]
def aYield (P : Program) (ops : Array Oper) (o : Oper) (t : T) (H : AH) (v : Value) : Prop :=
  match o.guard with
  | none => yl (evalOp P t H o.op) v
  | some g => condW (gv ops.toList t g.1) g.2 (yl (evalOp P t H o.op) v) (v = undef)
theorem zb7 {v : Value} {w : Bool} {A B A' B' : Prop} (h : condW v w A B) (ha : A → A') (hb : B → B') : condW v w A' B' := by
  unfold condW at *
  split at h
  · split at h
    · rename_i h0; rw [if_pos h0]; exact ha h
    · rename_i h0; rw [if_neg h0]; exact hb h
  · split at h
    · rename_i h0; rw [if_pos h0]; exact hb h
    · exact h.elim
  · exact h.elim
theorem aYield.later {P : Program} {ops : Array Oper} {o : Oper} {t : T} {H H' : AH} {v : Value} (hq : za0 o.op = true) (hle : za2 o.op = true ∨ LE H H') (h : aYield P ops o t H v) : aYield P ops o t H' v := by
  unfold aYield at *
  split at h
  · rename_i hg; exact zf8 hq hle h
  · rename_i g hg; exact zb7 h (zf8 hq hle) id
theorem aYield.upd {P : Program} {ops : Array Oper} {o : Oper} {t : T} {H : AH} {v u : Value} {d : Option Nat} (h : ∀ i, d = some i → i ∉ o.looksAt ops) (k : aYield P ops o t H v) : aYield P ops o (updO t d u) H v := by
  unfold aYield at *
  split at k
  · rename_i hg; rw [zc3 o h]; exact k
  · rename_i g hg; rw [zc3 o h, gv_updO o h hg]; exact k
theorem aYield.step {P : Program} {ops : Array Oper} {i : Nat} {o : Oper} {t : T} {H : AH} {v : Value} {K : T → AH → Prop} (ho : ops[i]? = some o) (hq : za0 o.op = true) (h : aYield P ops o t H v) (hK : K (updO t o.dst v) H) : aStep P ops.toList i t H K := by
  unfold aStep
  have e : ops.toList[i]? = some o := by simpa using ho
  rw [e]
  unfold aYield at h
  cases hg : o.guard with
  | none =>
    simp only [hg] at h ⊢
    exact yl_run _ (zfE P t o.op hq) h hK
  | some g =>
    simp only [hg] at h ⊢
    refine zb7 h (fun hy => yl_run _ (zfE P t o.op hq) hy hK) (fun hv => ?_)
    subst hv; exact hK
theorem zaU {P : Program} {all : List Oper} {i : Nat} {t : T} {H : AH} {K K' : T → AH → Prop} (h : aStep P all i t H K) (hk : ∀ t' H', K t' H' → K' t' H') : aStep P all i t H K' := by
  unfold aStep at *
  split at h
  · exact hk _ _ h
  · split at h
    · exact zaG (fun v H' => hk _ _) _ h
    · exact zb7 h (zaG (fun v H' => hk _ _) _) (hk _ _)
theorem zhA {P : Program} {ops : Array Oper} {j : Nat} {oi oj : Oper} {t : T} {H : AH} {v : Value} {K : T → AH → Prop} (hj : ops[j]? = some oj) (hap : oi.apart ops oj = true)
    (h : aStep P ops.toList j (updO t oi.dst v) H K) : aStep P ops.toList j t H fun t' H' => (∃ u, t' = updO t oj.dst u) ∧ K (updO t' oi.dst v) H' := by
  obtain ⟨h1, h2, h3⟩ := Oper.apart_spec hap
  unfold aStep at *
  have e : ops.toList[j]? = some oj := by simpa using hj
  rw [e] at h ⊢
  have fin : ∀ u H', K (updO (updO t oi.dst v) oj.dst u) H' → (∃ u', updO t oj.dst u = updO t oj.dst u') ∧ K (updO (updO t oj.dst u) oi.dst v) H' := fun u H' hk =>
    ⟨⟨u, rfl⟩, by rw [← updO_comm t v u h2]; exact hk⟩
  cases hg : oj.guard with
  | none =>
    simp only [hg] at h ⊢
    rw [zc3 oj h1] at h
    exact zaG (fun u H' => fin u H') _ h
  | some g =>
    simp only [hg] at h ⊢
    rw [zc3 oj h1, gv_updO oj h1 hg] at h
    exact zb7 h (zaG (fun u H' => fin u H') _) (fin undef H)
theorem zcC {listed : Array Bool} {i : Nat} (h : listed.getD i true = false) : listed.getD i false = false := by
  rcases Nat.lt_or_ge i listed.size with h' | h'
  · simp [h'] at h ⊢; exact h
  · simp [Array.getElem?_eq_none h'] at h
theorem zg0 {ops : Array Oper} {j q : Nat} {oq : Oper} (h : sinkB ops j = true) (hq : ops[q]? = some oq) (hne : q ≠ j) (hr : za0 oq.op = true) (hb : za2 oq.op = false) :
    befB ops q ops.size j = true ∨ befB ops j ops.size q = true := by
  unfold sinkB at h
  have hlt : q < ops.size := (Array.getElem?_eq_some_iff.1 hq).1
  have := List.all_eq_true.1 h q (List.mem_range.2 hlt)
  simp only [hq, hr, hb, Bool.not_true, Bool.or_false, Bool.or_eq_true, beq_iff_eq] at this
  rcases this with (h1 | h1) | h1
  · exact absurd h1 hne
  · exact .inl h1
  · exact .inr h1
theorem Closed.set {ops : Array Oper} {listed : Array Bool} {i : Nat} (h : Closed ops listed) (hi : i ∈ Region.ready .any ops listed) : Closed ops (listed.setIfInBounds i true) := by
  obtain ⟨_, oi, hoi, hall⟩ := ready_iff.1 hi
  refine ⟨by simpa using h.1, fun j oj hj hl e he hb => ?_⟩
  by_cases hij : i = j
  · subst hij
    have : oj = oi := Option.some.inj (hj.symm.trans hoi)
    subst this
    exact getD_set_true (hall e he hb)
  · rw [getD_set_ne false hij] at hl
    exact getD_set_true (h.2 j oj hj hl e he hb)
theorem zgA {P : Program} {ops : Array Oper} {Q : T → AH → Prop} {q : Nat} {oq : Oper} {v : Value} (hoq : ops[q]? = some oq) (hqt : za0 oq.op = true) :
    ∀ (f : Nat) (listed : Array Bool) (t : T) (H : AH), Closed ops listed →
      (∀ j oj, ops[j]? = some oj → j ≠ q → listed.getD j true = false → (∀ e ∈ oj.after, Region.binds .any e = true → e.on ≠ q) → oq.apart ops oj = true) →
      q ∈ Region.ready .any ops listed → aYield P ops oq t H v → AAny P ops Q f (listed.setIfInBounds q true) (updO t oq.dst v) H → AAny P ops Q (f + 1) listed t H := by
  intro f
  induction f with
  | zero =>
    intro listed t H hc _ hr hy hA
    refine ⟨fun h => (by rw [h] at hr; cases hr), fun j hj => ?_⟩
    by_cases hjq : j = q
    · subst hjq; exact hy.step hoq hqt ⟨.inr (LE.refl _), hA⟩
    · have := ready_mono hj hjq
      rw [hA.1] at this
      cases this
  | succ f ih =>
    intro listed t H hc hfree hr hy hA
    refine ⟨fun h => (by rw [h] at hr; cases hr), fun j hj => ?_⟩
    by_cases hjq : j = q
    · subst hjq; exact hy.step hoq hqt ⟨.inr (LE.refl _), hA⟩
    · have h1 := hA.2 j (ready_mono hj hjq)
      obtain ⟨hjun, oj, hoj, hall⟩ := ready_iff.1 hj
      obtain ⟨hqun, oq', hoq', hallq⟩ := ready_iff.1 hr
      have : oq' = oq := Option.some.inj (hoq'.symm.trans hoq)
      subst this
      have hqf : listed.getD q false = false := zcC hqun
      have hjf : listed.getD j false = false := zcC hjun
      have hnot : ∀ e ∈ oj.after, Region.binds .any e = true → e.on ≠ q := fun e he hb heq => by
        have h1 := hall e he hb
        rw [heq, hqf] at h1; cases h1
      have hap := hfree j oj hoj hjq hjun hnot
      obtain ⟨_, _, h3⟩ := Oper.apart_spec hap
      have h2 := zhA hoj hap h1
      refine zaU h2 fun t' H' hk => ?_
      obtain ⟨⟨u, rfl⟩, hs, hk⟩ := hk
      refine ⟨hs, ih (listed.setIfInBounds j true) _ H' (hc.set hj) ?_ (ready_mono hr (Ne.symm hjq)) ?_ ?_⟩
      · intro k ok hk2 hkq hun hno
        refine hfree k ok hk2 hkq ?_ hno
        by_cases hjk : j = k
        · subst hjk; exact hjun
        · rw [getD_set_ne true hjk] at hun; exact hun
      · refine (hy.later (H' := H') hqt ?_).upd h3
        by_cases hb : za2 oq'.op = true
        · exact .inl hb
        · right
          rcases hs with hs | hs
          · rcases zg0 hs hoq (Ne.symm hjq) hqt (by simpa using hb) with hbf | hbf
            · have := hc.bef ops.size j oj hoj hall hbf
              rw [hqf] at this; cases this
            · have := hc.bef ops.size q oq' hoq hallq hbf
              rw [hjf] at this; cases this
          · exact hs
      · rw [Array.setIfInBounds_comm _ _ hjq]
        exact hk
def okOrd (ops : Array Oper) : List Nat → Array Bool → Bool
  | [], listed => (Region.ready .any ops listed).isEmpty
  | i :: is, listed =>
    (match ops[i]? with
     | some o => if za0 o.op = true then (Region.ready .any ops listed).contains i && Region.free .any ops listed i else Region.ready .any ops listed == [i]
     | none => false) && okOrd ops is (listed.setIfInBounds i true)
def awpOrd (P : Program) (ops : Array Oper) (Q : T → AH → Prop) : List Nat → T → AH → Prop
  | [], t, H => Q t H
  | i :: is, t, H =>
    match ops.toList[i]? with
    | none => False
    | some o =>
      if za0 o.op = true then aStep P ops.toList i t H (awpOrd P ops Q is)
      else aStep P ops.toList i t H fun t' H' => (sinkB ops i = true ∨ LE H H') ∧ awpOrd P ops Q is t' H'
theorem zbZ {P : Program} {ops : Array Oper} {i : Nat} {o : Oper} {t : T} {H : AH} {K : T → AH → Prop} (ho : ops[i]? = some o) (hq : za0 o.op = true) (h : aStep P ops.toList i t H K) :
    ∃ v, aYield P ops o t H v ∧ K (updO t o.dst v) H := by
  unfold aStep at h
  have e : ops.toList[i]? = some o := by simpa using ho
  rw [e] at h
  unfold aYield
  cases hg : o.guard with
  | none =>
    simp only [hg] at h ⊢
    exact Sh.yl _ (zfE P t o.op hq) h
  | some g =>
    simp only [hg] at h ⊢
    unfold condW at h ⊢
    split at h
    · rename_i b hb
      split at h
      · rename_i hbw
        obtain ⟨v, h1, h2⟩ := Sh.yl _ (zfE P t o.op hq) h
        exact ⟨v, by rw [if_pos hbw]; exact h1, h2⟩
      · rename_i hbw
        exact ⟨undef, by rw [if_neg hbw], h⟩
    · split at h
      · rename_i hz
        exact ⟨undef, by rw [if_pos hz], h⟩
      · exact h.elim
    · exact h.elim
theorem zgU {P : Program} {ops : Array Oper} {Q : T → AH → Prop} : ∀ (is : List Nat) (listed : Array Bool) (t : T) (H : AH) (f : Nat), is.length ≤ f → Closed ops listed → okOrd ops is listed = true → awpOrd P ops Q is t H → AAny P ops Q f listed t H
  | [], listed, t, H, f, _, _, hok, h => by
    have hr : Region.ready .any ops listed = [] := by simpa [okOrd] using hok
    cases f with
    | zero => exact ⟨hr, h⟩
    | succ f => exact ⟨fun _ => h, by rw [hr]; simp⟩
  | i :: is, listed, t, H, 0, hl, _, _, _ => by simp at hl
  | i :: is, listed, t, H, f + 1, hl, hc, hok, h => by
    simp only [okOrd, Bool.and_eq_true] at hok
    obtain ⟨h1, h2⟩ := hok
    unfold awpOrd at h
    cases ho : ops[i]? with
    | none => simp [ho] at h1
    | some o =>
      have e : ops.toList[i]? = some o := by simpa using ho
      simp only [ho] at h1
      rw [e] at h
      simp only at h
      split at h1
      · rename_i hq
        rw [if_pos hq] at h
        simp only [Bool.and_eq_true] at h1
        obtain ⟨hr, hfr⟩ := h1
        have hr' : i ∈ Region.ready .any ops listed := by simpa using hr
        obtain ⟨v, hy, hk⟩ := zbZ ho hq h
        exact zgA ho hq f listed t H hc (Region.free_spec ho hfr) hr' hy (zgU is _ _ H f (by simp at hl; omega) (hc.set hr') h2 hk)
      · rename_i hq
        rw [if_neg hq] at h
        have hr : Region.ready .any ops listed = [i] := by simpa using h1
        refine ⟨fun h0 => (by rw [hr] at h0; cases h0), fun j hj => ?_⟩
        have hji : j = i := by rw [hr] at hj; simpa using hj
        subst hji
        exact zaU h fun t' H' hk => ⟨hk.1, zgU is _ t' H' f (by simp at hl; omega) (hc.set hj) h2 hk.2⟩
/-! ### Down to the machine -/
theorem zb4 (m j : Nat) : (Array.replicate m false).getD j false = false := by
  rcases Nat.lt_or_ge j m with h | h
  · simp [h]
  · simp [h]
theorem guard_yields {ops : Array Oper} {base : Nat} {ρ : Nat → Nat} {t : T} {H : AH} {tmps : Array Value} {w : World} (hS : St base ρ t H tmps w) (j : Nat) :
    (∀ b, gv ops.toList t j = .bool b → yielded ops tmps j = some b) ∧ (∀ xs, gv ops.toList t j = .tuple xs → yielded ops tmps j = none) := by
  have hget : ops.toList[j]? = ops[j]? := by simp
  constructor
  · intro b hb
    unfold gv at hb
    rw [hget] at hb
    unfold yielded
    cases hd2 : (ops[j]?).bind (·.dst) with
    | none => rw [hd2] at hb; cases hb
    | some d =>
      rw [hd2] at hb
      simp only at hb
      have h1 := hS.2 d
      rw [hb] at h1
      have h2 := h1.bool
      have h3 : tmps[d]? = some (.bool b) := by
        rw [Array.getD_eq_getD_getElem?] at h2
        cases h4 : tmps[d]? with
        | none => rw [h4] at h2; cases h2
        | some u => rw [h4] at h2; simp at h2; rw [h2]
      simp [h3]
  · intro xs hb
    unfold gv at hb
    rw [hget] at hb
    unfold yielded
    cases hd2 : (ops[j]?).bind (·.dst) with
    | none => rfl
    | some d =>
      rw [hd2] at hb
      simp only at hb
      have h1 := hS.2 d
      rw [hb] at h1
      obtain ⟨ys, h2, _⟩ := h1.tuples
      rw [Array.getD_eq_getD_getElem?] at h2
      cases h4 : tmps[d]? with
      | none => simp [h4]
      | some u => rw [h4] at h2; simp at h2; simp [h4, h2]
theorem wp_one {P : Program} {QC : Exit → Act → World → Prop} {base : Nat} {ρ : Nat → Nat} {t : T} {H : AH} {tmps : Array Value} {w : World} (ops : Array Oper) (i : Nat) (o : Oper) (ho : ops[i]? = some o) (hS : St base ρ t H tmps w)
    {hnext : Act → World → Prop} {K : Value → AH → Prop}
    (hgo : ∀ v v' H' ρ' w', K v H' → Rel base ρ' H' w' → Ext base ρ H.next w ρ' H'.next w' → VR ρ' H'.next w' v v' → hnext (Act.put ⟨tmps, []⟩ o.dst v') w')
    (h : match o.guard with | none => runOut P H (evalOp P t H o.op) K | some g => condW (gv ops.toList t g.1) g.2 (runOut P H (evalOp P t H o.op) K) (K undef H)) :
    wpOp P ops QC i hnext ⟨tmps, []⟩ w := by
  have hrun : runOut P H (evalOp P t H o.op) K → o.wp P ⟨tmps, []⟩ w hnext QC := by
    intro hr
    obtain ⟨dst, op, ty, pos, af, gd⟩ := o
    exact zcY hS.1 _ _ QC (fun v v' H' ρ' w' hK R' E hV => hgo v v' H' ρ' w' hK R' E hV) _ (zhF hS.1 hS.2 op) hr
  have hskip : K undef H → hnext (Act.put ⟨tmps, []⟩ o.dst undef) w := fun hs => hgo undef undef H ρ w hs hS.1 (Ext.refl _ _ _ _) VR.undef
  unfold wpOp
  simp only [ho]
  cases hg : o.guard with
  | none =>
    simp only [hg] at h
    rw [if_pos (by simp [Region.wanted, hg])]
    exact .inl (hrun h)
  | some g =>
    obtain ⟨j, want⟩ := g
    simp only [hg] at h
    have hw : Region.wanted o (yielded ops tmps) = (yielded ops tmps j == some want) := by simp [Region.wanted, hg]
    obtain ⟨hyb, hyn⟩ := guard_yields (ops := ops) hS j
    rw [hw]
    unfold condW at h
    split at h
    · rename_i b hb
      rw [hyb b hb]
      by_cases e : b = want
      · rw [if_pos e] at h; subst e; simp only [beq_self_eq_true, if_true]; exact .inl (hrun h)
      · rw [if_neg e] at h
        rw [if_neg (by simpa using e)]
        exact hskip h
    · rename_i xs hb
      rw [hyn xs hb]
      split at h
      · rw [if_neg (by simp)]
        exact hskip h
      · exact h.elim
    · exact h.elim
theorem AAny_ok {P : Program} {ops : Array Oper} {Q : T → AH → Prop} {QC : Exit → Act → World → Prop} {base : Nat} :
    ∀ (f : Nat) (listed : Array Bool) (t : T) (H : AH) (ρ : Nat → Nat) (w : World) (tmps : Array Value), AAny P ops Q f listed t H → St base ρ t H tmps w → (∀ o ∈ ops.toList, ∀ i, o.dst = some i → i < tmps.size) →
      (∀ t' H' ρ' w' tmps', Q t' H' → St base ρ' t' H' tmps' w' → Ext base ρ H.next w ρ' H'.next w' → tmps'.size = tmps.size → QC .normal ⟨tmps', []⟩ w') →
      wpAny P .any ops QC f listed ⟨tmps, []⟩ w
  | 0, listed, t, H, ρ, w, tmps, h, hS, _, hQ => ⟨h.1, hQ t H ρ w tmps h.2 hS (Ext.refl _ _ _ _) rfl⟩
  | f + 1, listed, t, H, ρ, w, tmps, h, hS, hd, hQ => by
    refine ⟨fun h0 => hQ t H ρ w tmps (h.1 h0) hS (Ext.refl _ _ _ _) rfl, fun i hi => ?_⟩
    have hstep := h.2 i hi
    obtain ⟨_, o, ho, _⟩ := ready_iff.1 hi
    have e : ops.toList[i]? = some o := by simpa using ho
    have hom : o ∈ ops.toList := List.mem_of_getElem? e
    unfold aStep at hstep
    rw [e] at hstep
    simp only at hstep
    have hgo : ∀ v v' H' ρ' w', AAny P ops Q f (listed.setIfInBounds i true) (updO t o.dst v) H' → Rel base ρ' H' w' → Ext base ρ H.next w ρ' H'.next w' → VR ρ' H'.next w' v v' →
        wpAny P .any ops QC f (listed.setIfInBounds i true) (Act.put ⟨tmps, []⟩ o.dst v') w' := by
      intro v v' H' ρ' w' hK R' E hV
      rw [put_eta]
      refine AAny_ok f _ _ H' ρ' w' _ hK ⟨R', (hS.2.ext E).put hV o.dst (hd o hom)⟩ (fun o' ho' k hk => by rw [zdN]; exact hd o' ho' k hk) ?_
      intro t' H'' ρ'' w'' tmps' hq hs he hz
      exact hQ t' H'' ρ'' w'' tmps' hq hs (E.trans he) (by rw [hz, zdN])
    have hall := wp_one (P := P) (QC := QC) ops i o ho hS (hnext := fun a w' => wpAny P .any ops QC f (listed.setIfInBounds i true) a w') hgo
      (K := fun v H' => AAny P ops Q f (listed.setIfInBounds i true) (updO t o.dst v) H')
    refine hall ?_
    cases hg : o.guard with
    | none =>
      simp only [hg] at hstep ⊢
      exact zaG (fun v H' hk => hk.2) _ hstep
    | some g =>
      simp only [hg] at hstep ⊢
      exact zb7 hstep (zaG (fun v H' hk => hk.2) _) (fun hk => hk.2)
theorem draw_ok {P : Program} {id : Nat} {ops : Array Oper} {Q : Exit → T → AH → Prop} {t : T} {H : AH} (is : List Nat) (hm : P.follows .mixedOrders = true) (hok : okOrd ops is (Array.replicate ops.size false) = true) (hl : is.length = ops.size)
    (h : awpOrd P ops (Q .normal) is t H) : awp P (.region id ops true) Q t H := by
  intro base ρ w tmps QC hS hd hQ
  have hA := zgU is _ t H ops.size (by omega) ⟨by simp, fun j oj hj hl => by rw [zb4] at hl; cases hl⟩ hok h
  refine wp_region_any hm (AAny_ok ops.size _ t H ρ w.drew tmps hA ⟨hS.1.drew, hS.2.ext (zc9 (base := base) (H := H) w)⟩ ?_ fun t' H' ρ' w' tmps' hq hs he hz => ?_)
  · intro o ho i hi
    have := List.all_eq_true.1 hd o ho
    simp only [hi, decide_eq_true_eq] at this
    exact this
  · exact hQ .normal t' H' ρ' w' tmps' hq hs ((zc9 (base := base) (H := H) (ρ := ρ) w).trans he) hz
def awpD (P : Program) (ops : Array Oper) (Q : T → AH → Prop) : Nat → (os : List Oper) → T → AH → (fun _ => Prop) (ops, Q, os)
  | _, [], t, H => Q t H
  | i, o :: os, t, H =>
    match o.guard with
    | none => runOut P H (evalOp P t H o.op) fun v H' => (za0 o.op = true ∨ sinkB ops i = true ∨ LE H H') ∧ awpD P ops Q (i + 1) os (updO t o.dst v) H'
    | some g => condW (gv ops.toList t g.1) g.2 (runOut P H (evalOp P t H o.op) fun v H' => (za0 o.op = true ∨ sinkB ops i = true ∨ LE H H') ∧ awpD P ops Q (i + 1) os (updO t o.dst v) H') (awpD P ops Q (i + 1) os (updO t o.dst undef) H)
theorem awpD_ord {P : Program} {ops : Array Oper} {Q : T → AH → Prop} : ∀ (os : List Oper) (i : Nat) (t : T) (H : AH), ops.toList.drop i = os → awpD P ops Q i os t H → awpOrd P ops Q (List.range' i os.length) t H
  | [], i, t, H, _, h => h
  | o :: os, i, t, H, hd, h => by
    have e : ops.toList[i]? = some o := by
      have := congrArg (fun l => l[0]?) hd
      simpa using this
    have hd' : ops.toList.drop (i + 1) = os := by
      rw [← List.drop_drop, hd]; rfl
    have ih := fun t H => awpD_ord (P := P) (Q := Q) os (i + 1) t H hd'
    rw [List.length_cons, List.range'_succ]
    unfold awpOrd
    rw [e]
    unfold awpD at h
    have hs : ∀ K K' : T → AH → Prop, (∀ v H', K (updO t o.dst v) H' → K' (updO t o.dst v) H') → (∀ H', K (updO t o.dst undef) H' → K' (updO t o.dst undef) H') → aStep P ops.toList i t H K → aStep P ops.toList i t H K' := by
      intro K K' k1 k2 hh
      unfold aStep at hh ⊢
      rw [e] at hh ⊢
      simp only at hh ⊢
      cases hg : o.guard with
      | none => simp only [hg] at hh ⊢; exact zaG (fun v H' => k1 v H') _ hh
      | some g => simp only [hg] at hh ⊢; exact zb7 hh (zaG (fun v H' => k1 v H') _) (k2 H)
    have base : aStep P ops.toList i t H fun t' H' => (za0 o.op = true ∨ sinkB ops i = true ∨ LE H H') ∧ awpOrd P ops Q (List.range' (i + 1) os.length) t' H' := by
      unfold aStep
      rw [e]
      simp only
      cases hg : o.guard with
      | none => simp only [hg] at h ⊢; exact zaG (fun v H' k => ⟨k.1, ih _ _ k.2⟩) _ h
      | some g => simp only [hg] at h ⊢; exact zb7 h (zaG (fun v H' k => ⟨k.1, ih _ _ k.2⟩) _) (fun k => ⟨.inr (.inr (LE.refl H)), ih _ _ k⟩)
    simp only
    split
    · exact hs _ _ (fun v H' k => k.2) (fun H' k => k.2) base
    · rename_i hq
      refine hs _ _ ?_ ?_ base
      · rintro v H' ⟨k | k, k2⟩
        · exact absurd k hq
        · exact ⟨k, k2⟩
      · rintro H' ⟨k | k, k2⟩
        · exact absurd k hq
        · exact ⟨k, k2⟩
theorem zb2 {P : Program} {id : Nat} {l : List Oper} {Q : Exit → T → AH → Prop} {t : T} {H : AH} (hm : P.follows .mixedOrders = true) (hok : okOrd l.toArray (List.range' 0 l.length) (Array.replicate l.length false) = true)
    (h : awpD P l.toArray (Q .normal) 0 l t H) : awp P (.region id l.toArray true) Q t H :=
  draw_ok (ops := l.toArray) _ hm hok (by simp) (awpD_ord _ _ _ _ rfl h)
theorem awpD_nil (P : Program) (ops : Array Oper) (Q : T → AH → Prop) (i : Nat) (t : T) (H : AH) : awpD P ops Q i [] t H = Q t H := (rfl)
theorem awpD_cons (P : Program) (ops : Array Oper) (Q : T → AH → Prop) (i : Nat) (d : Option Tmp) (op : Op) (ty : TypeId) (pos : String) (af : Array Edge) (os : List Oper) (t : T) (H : AH) :
    awpD P ops Q i (⟨d, op, ty, pos, af, none⟩ :: os) t H = runOut P H (evalOp P t H op) fun v H' => (za0 op = true ∨ sinkB ops i = true ∨ LE H H') ∧ awpD P ops Q (i + 1) os (updO t d v) H' := (rfl)
theorem awpD_guard (P : Program) (ops : Array Oper) (Q : T → AH → Prop) (i : Nat) (d : Option Tmp) (op : Op) (ty : TypeId) (pos : String) (af : Array Edge) (j : Nat) (w : Bool) (os : List Oper) (t : T) (H : AH) :
    awpD P ops Q i (⟨d, op, ty, pos, af, some (j, w)⟩ :: os) t H = condW (gv ops.toList t j) w (runOut P H (evalOp P t H op) fun v H' => (za0 op = true ∨ sinkB ops i = true ∨ LE H H') ∧ awpD P ops Q (i + 1) os (updO t d v) H') (awpD P ops Q (i + 1) os (updO t d undef) H) := (rfl)
@[congr] theorem awpD_congr {P : Program} {ops : Array Oper} {os : List Oper} {Q : T → AH → Prop} {i i' : Nat} {t t' : T} {H H' : AH} (hi : i = i') (h : t = t') (k : H = H') : awpD P ops Q i os t H = awpD P ops Q i' os t' H' := by rw [hi, h, k]
/-- An order given by its numbers. -/
def stepI (P : Program) (ops : Array Oper) (K : T → AH → Prop) (i : Nat) : Option Oper → T → AH → (fun _ => Prop) (ops, K, i)
  | none, _, _ => False
  | some o, t, H =>
    match o.guard with
    | none => runOut P H (evalOp P t H o.op) fun v H' => (za0 o.op = true ∨ sinkB ops i = true ∨ LE H H') ∧ K (updO t o.dst v) H'
    | some g => condW (gv ops.toList t g.1) g.2 (runOut P H (evalOp P t H o.op) fun v H' => (za0 o.op = true ∨ sinkB ops i = true ∨ LE H H') ∧ K (updO t o.dst v) H') (K (updO t o.dst undef) H)
def awpI (P : Program) (ops : Array Oper) (Q : T → AH → Prop) : (is : List Nat) → T → AH → (fun _ => Prop) (ops, Q, is)
  | [], t, H => Q t H
  | i :: is, t, H => stepI P ops (awpI P ops Q is) i (ops.toList[i]?) t H
theorem zi5 {P : Program} {ops : Array Oper} {Q : T → AH → Prop} : ∀ (is : List Nat) (t : T) (H : AH), awpI P ops Q is t H → awpOrd P ops Q is t H
  | [], t, H, h => h
  | i :: is, t, H, h => by
    have ih := fun t H => zi5 (P := P) (ops := ops) (Q := Q) is t H
    unfold awpI at h
    unfold awpOrd
    cases e : ops.toList[i]? with
    | none => rw [e] at h; exact h.elim
    | some o =>
    rw [e] at h
    unfold stepI at h
    have hs : ∀ K K' : T → AH → Prop, (∀ v H', K (updO t o.dst v) H' → K' (updO t o.dst v) H') → (∀ H', K (updO t o.dst undef) H' → K' (updO t o.dst undef) H') → aStep P ops.toList i t H K → aStep P ops.toList i t H K' := by
      intro K K' k1 k2 hh
      unfold aStep at hh ⊢
      rw [e] at hh ⊢
      simp only at hh ⊢
      cases hg : o.guard with
      | none => simp only [hg] at hh ⊢; exact zaG (fun v H' => k1 v H') _ hh
      | some g => simp only [hg] at hh ⊢; exact zb7 hh (zaG (fun v H' => k1 v H') _) (k2 H)
    have base : aStep P ops.toList i t H fun t' H' => (za0 o.op = true ∨ sinkB ops i = true ∨ LE H H') ∧ awpOrd P ops Q is t' H' := by
      unfold aStep
      rw [e]
      simp only
      cases hg : o.guard with
      | none => simp only [hg] at h ⊢; exact zaG (fun v H' k => ⟨k.1, ih _ _ k.2⟩) _ h
      | some g => simp only [hg] at h ⊢; exact zb7 h (zaG (fun v H' k => ⟨k.1, ih _ _ k.2⟩) _) (fun k => ⟨.inr (.inr (LE.refl H)), ih _ _ k⟩)
    simp only
    split
    · exact hs _ _ (fun v H' k => k.2) (fun H' k => k.2) base
    · rename_i hq
      refine hs _ _ ?_ ?_ base
      · rintro v H' ⟨k | k, k2⟩
        · exact absurd k hq
        · exact ⟨k, k2⟩
      · rintro H' ⟨k | k, k2⟩
        · exact absurd k hq
        · exact ⟨k, k2⟩
theorem zhI {P : Program} {id : Nat} {ops : Array Oper} {Q : Exit → T → AH → Prop} {t : T} {H : AH} (is : List Nat) (hm : P.follows .mixedOrders = true) (hok : okOrd ops is (Array.replicate ops.size false) = true) (hl : is.length = ops.size)
    (h : awpI P ops (Q .normal) is t H) : awp P (.region id ops true) Q t H := draw_ok is hm hok hl (zi5 is _ _ h)
theorem zbV (P : Program) (ops : Array Oper) (Q : T → AH → Prop) (t : T) (H : AH) : awpI P ops Q [] t H = Q t H := (rfl)
theorem zbM (P : Program) (ops : Array Oper) (Q : T → AH → Prop) (i : Nat) (is : List Nat) (t : T) (H : AH) : awpI P ops Q (i :: is) t H = stepI P ops (awpI P ops Q is) i (ops.toList[i]?) t H := (rfl)
theorem zbX (P : Program) (ops : Array Oper) (K : T → AH → Prop) (i : Nat) (d : Option Tmp) (op : Op) (ty : TypeId) (pos : String) (af : Array Edge) (t : T) (H : AH) :
    stepI P ops K i (some ⟨d, op, ty, pos, af, none⟩) t H = runOut P H (evalOp P t H op) fun v H' => (za0 op = true ∨ sinkB ops i = true ∨ LE H H') ∧ K (updO t d v) H' := (rfl)
theorem stepI_guard (P : Program) (ops : Array Oper) (K : T → AH → Prop) (i : Nat) (d : Option Tmp) (op : Op) (ty : TypeId) (pos : String) (af : Array Edge) (j : Nat) (w : Bool) (t : T) (H : AH) :
    stepI P ops K i (some ⟨d, op, ty, pos, af, some (j, w)⟩) t H = condW (gv ops.toList t j) w (runOut P H (evalOp P t H op) fun v H' => (za0 op = true ∨ sinkB ops i = true ∨ LE H H') ∧ K (updO t d v) H') (K (updO t d undef) H) := (rfl)
@[congr] theorem stepI_congr {P : Program} {ops : Array Oper} {K : T → AH → Prop} {i : Nat} {o o' : Option Oper} {t t' : T} {H H' : AH} (ho : o = o') (h : t = t') (k : H = H') : stepI P ops K i o t H = stepI P ops K i o' t' H' := by rw [ho, h, k]
@[congr] theorem awpI_congr {P : Program} {ops : Array Oper} {is : List Nat} {Q : T → AH → Prop} {t t' : T} {H H' : AH} (h : t = t') (k : H = H') : awpI P ops Q is t H = awpI P ops Q is t' H' := by rw [h, k]
end Go.Abs
end
