/- A small logic of my own over the kit's walk: an abstract heap of rows without capacities and draws; values, worlds and heaps related by a renaming of blocks. No program is named here. -/
import Derived.WalkKit
import Derived.Laws.CopyRow
import Derived.Laws.MakeOwn
import Derived.Laws.Slices
import Derived.Orders
namespace Go.Abs
open Go Go.RowKit

structure Row where
  ty : TypeId
  rw : Bool
  cells : List Value

/-- What is read from a row that is not ours must be a plain cell: what we know nothing of stands there as 'undef'. -/
def Row.ok (r : Row) (vs : List Value) : Prop := r.rw = true ∨ ∀ v ∈ vs, v.oneCell' = true

structure AH where
  next : Nat
  row : Nat → Option Row

namespace AH
def push (H : AH) (r : Row) : AH := ⟨H.next + 1, fun i => if i = H.next then some r else H.row i⟩
def setCells (H : AH) (i : Nat) (cs : List Value) : AH := ⟨H.next, fun j => if j = i then (H.row i).map (fun r => { r with cells := cs }) else H.row j⟩
def drop (H : AH) (i : Nat) : AH := ⟨H.next, fun j => if j = i then none else H.row j⟩
theorem push_row (H : AH) (r : Row) (i : Nat) : (H.push r).row i = if i = H.next then some r else H.row i := (rfl)
theorem push_next (H : AH) (r : Row) : (H.push r).next = H.next + 1 := (rfl)
theorem setCells_row (H : AH) (i : Nat) (cs : List Value) (j : Nat) : (H.setCells i cs).row j = if j = i then (H.row i).map (fun r => { r with cells := cs }) else H.row j := (rfl)
theorem setCells_next (H : AH) (i : Nat) (cs : List Value) : (H.setCells i cs).next = H.next := (rfl)
theorem drop_row (H : AH) (i j : Nat) : (H.drop i).row j = if j = i then none else H.row j := (rfl)
theorem drop_next (H : AH) (i : Nat) : (H.drop i).next = H.next := (rfl)
end AH

def scal : Value → Bool
  | .bool _ | .int _ _ | .string _ | .pointer none | .slice none 0 0 | .nilFunc | .map none => true
  | _ => false

/-- The number of a block's cells. -/
def bsz (w : World) (b : Nat) : Option Nat :=
  match w.heap[b]? with
  | some (.cells cs _ _) => some cs.size
  | _ => none

section
variable (ρ : Nat → Nat) (nx : Nat) (w : World)

inductive V1 : Value → Value → Prop
  | scal (v : Value) (h : scal v = true) : V1 v v
  | ptr (i o : Nat) (h : i < nx) : V1 (.pointer (some ⟨i, o, none⟩)) (.pointer (some ⟨ρ i, o, none⟩))
  | sle (i o n c : Nat) (h : i < nx) : V1 (.slice (some ⟨i, o, none⟩) n c) (.slice (some ⟨ρ i, o, none⟩) n c)
  | slu (i o n c e : Nat) (a : Addr) (c' : Nat) (h : i < nx) (hn : n ≤ c') (hr : (a = ⟨ρ i, o, none⟩ ∧ bsz w (ρ i) = some (o + c' * e)) ∨ (n = 0 ∧ 0 < o)) :
      V1 (.slice (some ⟨i, o, some e⟩) n c) (.slice (some a) n c')
  | func (fn : Fn) (xs ys : Array Value) (hl : xs.size = ys.size) (h : ∀ (j : Nat) (x y : Value), xs[j]? = some x → ys[j]? = some y → V1 x y) :
      V1 (.func fn #[] xs) (.func fn #[] ys)
  | map (i : Nat) (h : i < nx) : V1 (.map (some i)) (.map (some (ρ i)))

inductive VR : Value → Value → Prop
  | one {v v' : Value} (h : V1 ρ nx w v v') : VR v v'
  | agg (xs ys : Array Value) (hl : xs.size = ys.size) (h : ∀ (j : Nat) (x y : Value), xs[j]? = some x → ys[j]? = some y → V1 ρ nx w x y) : VR (.agg xs) (.agg ys)
  | tuple (xs ys : Array Value) (hl : xs.size = ys.size) (h : ∀ (j : Nat) (x y : Value), xs[j]? = some x → ys[j]? = some y → VR x y) : VR (.tuple xs) (.tuple ys)
end

/-- Two lists, cell by cell. -/
def L1 (ρ : Nat → Nat) (nx : Nat) (w : World) (xs ys : List Value) : Prop :=
  xs.length = ys.length ∧ ∀ (j : Nat) (x y : Value), xs[j]? = some x → ys[j]? = some y → V1 ρ nx w x y
def LV (ρ : Nat → Nat) (nx : Nat) (w : World) (xs ys : List Value) : Prop :=
  xs.length = ys.length ∧ ∀ (j : Nat) (x y : Value), xs[j]? = some x → ys[j]? = some y → VR ρ nx w x y

structure Ext (base : Nat) (ρ : Nat → Nat) (nx : Nat) (w : World) (ρ' : Nat → Nat) (nx' : Nat) (w' : World) : Prop where
  le : nx ≤ nx'
  ag : ∀ i, i < nx → ρ' i = ρ i
  bl : Below base w w'
  st : ∀ b k, bsz w b = some k → bsz w' b = some k

theorem Ext.refl (base : Nat) (ρ : Nat → Nat) (nx : Nat) (w : World) : Ext base ρ nx w ρ nx w :=
  ⟨Nat.le_refl _, fun _ _ => rfl, Below.refl _ _, fun _ _ h => h⟩

theorem Ext.trans {base : Nat} {ρ ρ1 ρ2 : Nat → Nat} {nx nx1 nx2 : Nat} {w w1 w2 : World} (h : Ext base ρ nx w ρ1 nx1 w1) (k : Ext base ρ1 nx1 w1 ρ2 nx2 w2) :
    Ext base ρ nx w ρ2 nx2 w2 :=
  ⟨Nat.le_trans h.le k.le, fun i hi => (k.ag i (Nat.lt_of_lt_of_le hi h.le)).trans (h.ag i hi), h.bl.trans k.bl, fun b n hb => k.st b n (h.st b n hb)⟩

section
variable {base : Nat} {ρ ρ' : Nat → Nat} {nx nx' : Nat} {w w' : World}

theorem V1.ext (h : Ext base ρ nx w ρ' nx' w') {v v' : Value} (k : V1 ρ nx w v v') : V1 ρ' nx' w' v v' := by
  induction k with
  | scal v hs => exact .scal v hs
  | ptr i o hi => rw [← h.ag i hi]; exact .ptr i o (Nat.lt_of_lt_of_le hi h.le)
  | sle i o n c hi => rw [← h.ag i hi]; exact .sle i o n c (Nat.lt_of_lt_of_le hi h.le)
  | slu i o n c e a c' hi hn hr =>
    refine .slu i o n c e a c' (Nat.lt_of_lt_of_le hi h.le) hn (hr.imp (fun ⟨a, b⟩ => ⟨?_, ?_⟩) id)
    · rw [h.ag i hi]; exact a
    · rw [h.ag i hi]; exact h.st _ _ b
  | func fn xs ys hl _ ih => exact .func fn xs ys hl ih
  | map i hi => rw [← h.ag i hi]; exact .map i (Nat.lt_of_lt_of_le hi h.le)

theorem VR.ext (h : Ext base ρ nx w ρ' nx' w') {v v' : Value} (k : VR ρ nx w v v') : VR ρ' nx' w' v v' := by
  induction k with
  | one k => exact .one (k.ext h)
  | agg xs ys hl k => exact .agg xs ys hl fun j x y hx hy => (k j x y hx hy).ext h
  | tuple xs ys hl _ ih => exact .tuple xs ys hl ih

theorem L1.ext (h : Ext base ρ nx w ρ' nx' w') {xs ys : List Value} (k : L1 ρ nx w xs ys) : L1 ρ' nx' w' xs ys :=
  ⟨k.1, fun j x y hx hy => (k.2 j x y hx hy).ext h⟩
theorem LV.ext (h : Ext base ρ nx w ρ' nx' w') {xs ys : List Value} (k : LV ρ nx w xs ys) : LV ρ' nx' w' xs ys :=
  ⟨k.1, fun j x y hx hy => (k.2 j x y hx hy).ext h⟩
end

section
variable {ρ : Nat → Nat} {nx : Nat} {w : World} {v v' : Value}

theorem V1.oneCell (k : V1 ρ nx w v v') : v'.oneCell' = true := by
  cases k with
  | scal v h => cases v <;> simp_all [Abs.scal, Value.oneCell']
  | _ => rfl
theorem V1.oneCellL (k : V1 ρ nx w v v') : v.oneCell' = true := by
  cases k with
  | scal v h => cases v <;> simp_all [Abs.scal, Value.oneCell']
  | _ => rfl

/-- What a one-cell value's relation gives. -/
theorem VR.to1 (k : VR ρ nx w v v') (h : v.oneCell' = true) : V1 ρ nx w v v' := by
  cases k with
  | one k => exact k
  | agg => simp [Value.oneCell'] at h
  | tuple => simp [Value.oneCell'] at h

theorem VR.int {k : IntKind} {n : Int} (h : VR ρ nx w (.int k n) v') : v' = .int k n := by
  cases h with | one h => cases h; rfl
theorem VR.bool {b : Bool} (h : VR ρ nx w (.bool b) v') : v' = .bool b := by
  cases h with | one h => cases h; rfl
theorem VR.str {s : ByteArray} (h : VR ρ nx w (.string s) v') : v' = .string s := by
  cases h with | one h => cases h; rfl
theorem VR.nils {n c : Nat} (h : VR ρ nx w (.slice none n c) v') : n = 0 ∧ c = 0 ∧ v' = .slice none 0 0 := by
  cases h with
  | one h =>
    cases h with
    | scal v hs =>
      rcases n with _ | n <;> rcases c with _ | c <;> simp [Abs.scal] at hs
      exact ⟨rfl, rfl, rfl⟩
theorem VR.ptr {i o : Nat} {s : Option Nat} (h : VR ρ nx w (.pointer (some ⟨i, o, s⟩)) v') : i < nx ∧ s = none ∧ v' = .pointer (some ⟨ρ i, o, none⟩) := by
  cases h with
  | one h =>
    cases h with
    | scal v hs => simp [Abs.scal] at hs
    | ptr i o hi => exact ⟨hi, rfl, rfl⟩
theorem VR.sle {i o n c : Nat} (h : VR ρ nx w (.slice (some ⟨i, o, none⟩) n c) v') : i < nx ∧ v' = .slice (some ⟨ρ i, o, none⟩) n c := by
  cases h with
  | one h =>
    cases h with
    | scal v hs => simp [Abs.scal] at hs
    | sle i o n c hi => exact ⟨hi, rfl⟩
theorem VR.slu {i o n c e : Nat} (h : VR ρ nx w (.slice (some ⟨i, o, some e⟩) n c) v') :
    i < nx ∧ ∃ a c', v' = .slice (some a) n c' ∧ n ≤ c' ∧ ((a = ⟨ρ i, o, none⟩ ∧ bsz w (ρ i) = some (o + c' * e)) ∨ (n = 0 ∧ 0 < o)) := by
  cases h with
  | one h =>
    cases h with
    | scal v hs => simp [Abs.scal] at hs
    | slu i o n c e a c' hi hn hr => exact ⟨hi, a, c', rfl, hn, hr⟩
theorem VR.func {fn : Fn} {f xs : Array Value} (h : VR ρ nx w (.func fn f xs) v') : f = #[] ∧ ∃ ys, v' = .func fn #[] ys ∧ xs.size = ys.size ∧ ∀ (j : Nat) (x y : Value), xs[j]? = some x → ys[j]? = some y → V1 ρ nx w x y := by
  cases h with
  | one h =>
    cases h with
    | scal v hs => simp [Abs.scal] at hs
    | func fn xs ys hl h => exact ⟨rfl, ys, rfl, hl, h⟩
theorem VR.aggs {xs : Array Value} (h : VR ρ nx w (.agg xs) v') : ∃ ys, v' = .agg ys ∧ L1 ρ nx w xs.toList ys.toList := by
  cases h with
  | one h => have := h.oneCellL; simp [Value.oneCell'] at this
  | agg xs ys hl h => exact ⟨ys, rfl, by simpa using hl, fun j x y hx hy => h j x y (by simpa using hx) (by simpa using hy)⟩
theorem VR.tuples {xs : Array Value} (h : VR ρ nx w (.tuple xs) v') : ∃ ys, v' = .tuple ys ∧ LV ρ nx w xs.toList ys.toList := by
  cases h with
  | one h => have := h.oneCellL; simp [Value.oneCell'] at this
  | tuple xs ys hl h => exact ⟨ys, rfl, by simpa using hl, fun j x y hx hy => h j x y (by simpa using hx) (by simpa using hy)⟩

theorem VR.undef : VR ρ nx w Go.undef Go.undef := .tuple #[] #[] rfl (fun j x y hx => by simp at hx)
theorem VR.scal (h : Abs.scal v = true) : VR ρ nx w v v := .one (.scal v h)

/-- The cells of a value that is no tuple. -/
theorem VR.cells (h : VR ρ nx w v v') (ht : ∀ xs, v ≠ .tuple xs) : L1 ρ nx w v.cells.toList v'.cells.toList := by
  cases h with
  | one h =>
    have h1 := h.oneCell
    have h2 := h.oneCellL
    have e1 : v.cells = #[v] := by cases v <;> simp_all [Value.cells, Value.oneCell']
    have e2 : v'.cells = #[v'] := by cases v' <;> simp_all [Value.cells, Value.oneCell']
    rw [e1, e2]
    refine ⟨rfl, fun j x y hx hy => ?_⟩
    rcases j with _ | j <;> simp at hx hy
    subst hx; subst hy; exact h
  | agg xs ys hl h => exact ⟨by simpa [Value.cells] using hl, fun j x y hx hy => h j x y (by simpa [Value.cells] using hx) (by simpa [Value.cells] using hy)⟩
  | tuple xs ys => exact absurd rfl (ht xs)
end

section
variable {ρ : Nat → Nat} {nx : Nat} {w : World}
theorem L1.nil : L1 ρ nx w [] [] := ⟨rfl, fun j x y hx => by simp at hx⟩
theorem L1.append {a b c d : List Value} (h : L1 ρ nx w a b) (k : L1 ρ nx w c d) : L1 ρ nx w (a ++ c) (b ++ d) := by
  refine ⟨by simp [h.1, k.1], fun j x y hx hy => ?_⟩
  by_cases hj : j < a.length
  · rw [List.getElem?_append_left hj] at hx
    rw [List.getElem?_append_left (h.1 ▸ hj)] at hy
    exact h.2 j x y hx hy
  · rw [List.getElem?_append_right (by omega)] at hx
    rw [List.getElem?_append_right (by have := h.1; omega), ← h.1] at hy
    exact k.2 _ x y hx hy
theorem L1.take {a b : List Value} (h : L1 ρ nx w a b) (n : Nat) : L1 ρ nx w (a.take n) (b.take n) := by
  refine ⟨by simp [h.1], fun j x y hx hy => ?_⟩
  rw [List.getElem?_take] at hx hy
  split at hx <;> simp_all
  exact h.2 j x y hx hy
theorem L1.drop {a b : List Value} (h : L1 ρ nx w a b) (n : Nat) : L1 ρ nx w (a.drop n) (b.drop n) := by
  refine ⟨by simp [h.1], fun j x y hx hy => ?_⟩
  rw [List.getElem?_drop] at hx hy
  exact h.2 _ x y hx hy
theorem L1.set {a b : List Value} (h : L1 ρ nx w a b) (n : Nat) {u v : Value} (k : V1 ρ nx w u v) : L1 ρ nx w (a.set n u) (b.set n v) := by
  refine ⟨by simp [h.1], fun j x y hx hy => ?_⟩
  rw [List.getElem?_set] at hx hy
  by_cases e : n = j
  · subst e
    simp only [if_true] at hx hy
    split at hx <;> simp at hx
    split at hy <;> simp at hy
    subst hx; subst hy; exact k
  · rw [if_neg e] at hx hy
    exact h.2 j x y hx hy
theorem L1.get {a b : List Value} (h : L1 ρ nx w a b) {j : Nat} {x : Value} (hx : a[j]? = some x) : ∃ y, b[j]? = some y ∧ V1 ρ nx w x y := by
  have hj : j < a.length := (List.getElem?_eq_some_iff.1 hx).1
  have hy : b[j]? = some (b[j]'(by rw [← h.1]; exact hj)) := List.getElem?_eq_getElem _
  exact ⟨_, hy, h.2 j _ _ hx hy⟩
theorem L1.cons {u v : Value} {a b : List Value} (k : V1 ρ nx w u v) (h : L1 ρ nx w a b) : L1 ρ nx w (u :: a) (v :: b) := by
  refine ⟨by simp [h.1], fun j x y hx hy => ?_⟩
  rcases j with _ | j
  · simp at hx hy; subst hx; subst hy; exact k
  · simp at hx hy; exact h.2 j x y hx hy
theorem L1.all {a b : List Value} (h : L1 ρ nx w a b) : ∀ v ∈ b, v.oneCell' = true := by
  intro v hv
  obtain ⟨j, hj⟩ := List.getElem?_of_mem hv
  have hl : j < a.length := by rw [h.1]; exact (List.getElem?_eq_some_iff.1 hj).1
  exact (h.2 j _ _ (List.getElem?_eq_getElem hl) hj).oneCell
theorem L1.vr {a b : List Value} (h : L1 ρ nx w a b) : VR ρ nx w (.agg a.toArray) (.agg b.toArray) :=
  .agg _ _ (by simpa using h.1) fun j x y hx hy => h.2 j x y (by simpa using hx) (by simpa using hy)
theorem L1.self {a : List Value} (h : ∀ v ∈ a, scal v = true) : L1 ρ nx w a a :=
  ⟨rfl, fun j x y hx hy => by rw [hx] at hy; cases hy; exact .scal x (h x (List.mem_of_getElem? hx))⟩
theorem LV.nil : LV ρ nx w [] [] := ⟨rfl, fun j x y hx => by simp at hx⟩
theorem LV.cons {u v : Value} {a b : List Value} (k : VR ρ nx w u v) (h : LV ρ nx w a b) : LV ρ nx w (u :: a) (v :: b) := by
  refine ⟨by simp [h.1], fun j x y hx hy => ?_⟩
  rcases j with _ | j
  · simp at hx hy; subst hx; subst hy; exact k
  · simp at hx hy; exact h.2 j x y hx hy
theorem LV.append {a b c d : List Value} (h : LV ρ nx w a b) (k : LV ρ nx w c d) : LV ρ nx w (a ++ c) (b ++ d) := by
  refine ⟨by simp [h.1, k.1], fun j x y hx hy => ?_⟩
  by_cases hj : j < a.length
  · rw [List.getElem?_append_left hj] at hx
    rw [List.getElem?_append_left (h.1 ▸ hj)] at hy
    exact h.2 j x y hx hy
  · rw [List.getElem?_append_right (by omega)] at hx
    rw [List.getElem?_append_right (by have := h.1; omega), ← h.1] at hy
    exact k.2 _ x y hx hy
theorem LV.vr {a b : List Value} (h : LV ρ nx w a b) : VR ρ nx w (.tuple a.toArray) (.tuple b.toArray) :=
  .tuple _ _ (by simpa using h.1) fun j x y hx hy => h.2 j x y (by simpa using hx) (by simpa using hy)
theorem LV.of1 {a b : List Value} (h : L1 ρ nx w a b) : LV ρ nx w a b := ⟨h.1, fun j x y hx hy => .one (h.2 j x y hx hy)⟩
end

/-! ### The heap and the world -/
structure Rel (base : Nat) (ρ : Nat → Nat) (H : AH) (w : World) : Prop where
  scope : ∀ i r, H.row i = some r → i < H.next
  ro : ∀ i r, H.row i = some r → r.rw = false → ρ i < base ∧ ∀ (j : Nat) v, r.cells[j]? = some v → v.oneCell' = true → ∃ v', w.cell? ⟨ρ i, j, none⟩ = some v' ∧ V1 ρ H.next w v v'
  rwr : ∀ i r, H.row i = some r → r.rw = true → base ≤ ρ i ∧ ∃ cs, w.heap[ρ i]? = some (.cells cs r.ty (0, 0)) ∧ L1 ρ H.next w r.cells (cs.toList.take r.cells.length)
  inj : ∀ i j r s, H.row i = some r → H.row j = some s → r.rw = true → s.rw = true → ρ i = ρ j → i = j
  sz : base ≤ w.heap.size

section
variable {base : Nat} {ρ : Nat → Nat} {H : AH} {w : World}

theorem Rel.lenLe {r : Row} {cs : Array Value} (h : L1 ρ H.next w r.cells (cs.toList.take r.cells.length)) : r.cells.length ≤ cs.size := by
  have := h.1; simp at this; omega

theorem Rel.cell (R : Rel base ρ H w) {i j : Nat} {r : Row} {v : Value} (hr : H.row i = some r) (hv : r.cells[j]? = some v) (hk : r.ok [v]) :
    ∃ v', w.cell? ⟨ρ i, j, none⟩ = some v' ∧ V1 ρ H.next w v v' := by
  cases hb : r.rw with
  | false => exact (R.ro i r hr hb).2 j v hv (by rcases hk with h | h; rw [hb] at h; cases h; exact h v (List.mem_cons_self))
  | true =>
    obtain ⟨_, cs, hcs, hl⟩ := R.rwr i r hr hb
    obtain ⟨y, hy, hv1⟩ := hl.get hv
    rw [List.getElem?_take] at hy
    split at hy <;> simp at hy
    exact ⟨y, by simp [World.cell?, hcs, hy], hv1⟩

/-- Cells in a row, one behind the other. -/
theorem Rel.cells (R : Rel base ρ H w) {i o n : Nat} {r : Row} (hr : H.row i = some r) (hn : o + n ≤ r.cells.length) (hk : r.ok ((r.cells.drop o).take n)) :
    ∃ ys : List Value, ys.length = n ∧ (∀ j v, ys[j]? = some v → w.cell? ⟨ρ i, o + j, none⟩ = some v) ∧ L1 ρ H.next w ((r.cells.drop o).take n) ys := by
  induction n generalizing o with
  | zero => exact ⟨[], rfl, fun j v h => by simp at h, by simpa using L1.nil⟩
  | succ n ih =>
    rw [List.drop_eq_getElem_cons (by omega : o < r.cells.length), List.take_succ_cons] at hk
    obtain ⟨ys, hl, hc, h1⟩ := ih (o := o + 1) (by omega) (hk.imp id fun h v hv => h v (List.mem_cons_of_mem _ hv))
    have ho : r.cells[o]? = some (r.cells[o]'(by omega)) := List.getElem?_eq_getElem _
    obtain ⟨y, hy, hv⟩ := R.cell hr ho (hk.imp id fun h v hv => h v (by simp at hv; subst hv; exact List.mem_cons_self))
    refine ⟨y :: ys, by simp [hl], fun j v h => ?_, ?_⟩
    · rcases j with _ | j
      · simp at h; subst h; simpa using hy
      · simp at h
        have := hc j v h
        rwa [show o + 1 + j = o + (j + 1) by omega] at this
    · rw [List.drop_eq_getElem_cons (by omega : o < r.cells.length), List.take_succ_cons]
      exact h1.cons hv

/-- What a row in a new block is. -/
theorem bsz_alloc_old (w : World) (o : Obj) (b k : Nat) (h : bsz w b = some k) : bsz (w.alloc o) b = some k := by
  unfold bsz at *
  have hb : b < w.heap.size := by
    rcases Nat.lt_or_ge b w.heap.size with h' | h'
    · exact h'
    · simp [Array.getElem?_eq_none h'] at h
  rw [Below.heap_alloc w o b hb]; exact h

def ren (ρ : Nat → Nat) (i b : Nat) : Nat → Nat := fun j => if j = i then b else ρ j

theorem ext_alloc (R : Rel base ρ H w) (o : Obj) (b : Nat) (m : Nat) (hm : H.next ≤ m) : Ext base ρ H.next w (ren ρ H.next b) m (w.alloc o) :=
  ⟨hm, fun i hi => by unfold ren; rw [if_neg (by omega)], (Below.refl _ _).alloc R.sz o, fun b k h => bsz_alloc_old w o b k h⟩

theorem Rel.lt_heap (R : Rel base ρ H w) {i : Nat} {r : Row} (hr : H.row i = some r) (hb : r.rw = true) : ρ i < w.heap.size := by
  obtain ⟨_, cs, hcs, _⟩ := R.rwr i r hr hb
  exact (Array.getElem?_eq_some_iff.1 hcs).1

theorem Rel.push (R : Rel base ρ H w) (ty : TypeId) (xs : List Value) (cs : Array Value) (hx : L1 ρ H.next w xs (cs.toList.take xs.length)) :
    Rel base (ren ρ H.next w.heap.size) (H.push ⟨ty, true, xs⟩) (w.alloc (.cells cs ty)) ∧
      Ext base ρ H.next w (ren ρ H.next w.heap.size) (H.push ⟨ty, true, xs⟩).next (w.alloc (.cells cs ty)) := by
  have E : Ext base ρ H.next w (ren ρ H.next w.heap.size) (H.next + 1) (w.alloc (.cells cs ty)) := ext_alloc R _ _ _ (Nat.le_succ _)
  have old : ∀ i, i < H.next → ren ρ H.next w.heap.size i = ρ i := fun i hi => by unfold ren; rw [if_neg (by omega)]
  have new : ren ρ H.next w.heap.size H.next = w.heap.size := by unfold ren; rw [if_pos rfl]
  refine ⟨⟨?_, ?_, ?_, ?_, ?_⟩, E⟩
  · intro i r hr
    simp only [AH.push] at hr ⊢
    split at hr
    · omega
    · have := R.scope i r hr; omega
  · intro i r hr hb
    simp only [AH.push] at hr
    split at hr
    · simp at hr; subst hr; simp at hb
    · have hi := R.scope i r hr
      obtain ⟨h1, h2⟩ := R.ro i r hr hb
      rw [old i hi]
      refine ⟨h1, fun j v hv ho => ?_⟩
      obtain ⟨v', hc, hv1⟩ := h2 j v hv ho
      exact ⟨v', by rw [World.cell?_alloc_lt _ _ _ (World.block_lt_of_cell? w _ hc)]; exact hc, hv1.ext E⟩
  · intro i r hr hb
    simp only [AH.push] at hr
    split at hr
    · rename_i e; subst e
      simp at hr; subst hr
      rw [new]
      refine ⟨R.sz, cs, ?_, hx.ext E⟩
      show (w.heap.push _)[w.heap.size]? = _
      simp
    · have hi := R.scope i r hr
      obtain ⟨h1, cs0, h2, h3⟩ := R.rwr i r hr hb
      rw [old i hi]
      exact ⟨h1, cs0, by rw [Below.heap_alloc _ _ _ (R.lt_heap hr hb)]; exact h2, h3.ext E⟩
  · intro i j r s hr hs hb hb' he
    simp only [AH.push] at hr hs
    split at hr <;> split at hs
    · omega
    · rename_i e1 e2; subst e1
      rw [new, old j (R.scope j s hs)] at he
      have := R.lt_heap hs hb'; omega
    · rename_i e1 e2; subst e2
      rw [new, old i (R.scope i r hr)] at he
      have := R.lt_heap hr hb; omega
    · rw [old i (R.scope i r hr), old j (R.scope j s hs)] at he
      exact R.inj i j r s hr hs hb hb' he
  · have := R.sz; simp; omega

theorem bsz_setRow (w : World) (g : Nat) (cs cur : Array Value) (t : TypeId) (fr : Nat × Nat) (hg : w.heap[g]? = some (.cells cur t fr)) (hs : cs.size = cur.size) (b k : Nat) (h : bsz w b = some k) : bsz (w.setRow g cs) b = some k := by
  unfold bsz at *
  by_cases e : b = g
  · subst e
    rw [setRow_heap w b cur cs t fr hg]
    rw [hg] at h
    simp at h ⊢; omega
  · rw [setRow_other w g b cs e]; exact h

theorem below_setRow' {B g : Nat} (hB : B ≤ g) (w : World) (cs : Array Value) : Below B w (w.setRow g cs) :=
  ⟨rfl, rfl, rfl, by simp, fun k hk => setRow_other w g k cs (by omega)⟩

/-- A row is written; the block keeps its size. -/
theorem Rel.set (R : Rel base ρ H w) {i : Nat} {r : Row} {cur cs : Array Value} {xs : List Value} (hr : H.row i = some r) (hb : r.rw = true) (hc : w.heap[ρ i]? = some (.cells cur r.ty (0, 0))) (hs : cs.size = cur.size)
    (hx : L1 ρ H.next w xs (cs.toList.take xs.length)) :
    Rel base ρ (H.setCells i xs) (w.setRow (ρ i) cs) ∧ Ext base ρ H.next w ρ (H.setCells i xs).next (w.setRow (ρ i) cs) := by
  obtain ⟨hbase, _, _, _⟩ := R.rwr i r hr hb
  have E : Ext base ρ H.next w ρ H.next (w.setRow (ρ i) cs) :=
    ⟨Nat.le_refl _, fun _ _ => rfl, below_setRow' hbase w cs, fun b k h => bsz_setRow w _ cs cur _ _ hc hs b k h⟩
  refine ⟨⟨?_, ?_, ?_, ?_, ?_⟩, E⟩
  · intro j s hj
    simp only [AH.setCells] at hj ⊢
    split at hj
    · rename_i e; subst e; exact R.scope j r hr
    · exact R.scope j s hj
  · intro j s hj hbs
    simp only [AH.setCells] at hj
    split at hj
    · rw [hr] at hj; simp at hj; subst hj; simp [hb] at hbs
    · obtain ⟨h1, h2⟩ := R.ro j s hj hbs
      refine ⟨h1, fun m v hv ho => ?_⟩
      obtain ⟨v', hc', hv1⟩ := h2 m v hv ho
      refine ⟨v', ?_, hv1.ext E⟩
      rw [cell_setRow_other w (ρ i) cs ⟨ρ j, m, none⟩ (by simp; omega)]; exact hc'
  · intro j s hj hbs
    simp only [AH.setCells] at hj
    split at hj
    · rename_i e; subst e
      rw [hr] at hj; simp at hj; subst hj
      exact ⟨hbase, cs, setRow_heap w _ cur cs _ _ hc, hx.ext E⟩
    · rename_i e
      obtain ⟨h1, cs0, h2, h3⟩ := R.rwr j s hj hbs
      have hne : ρ j ≠ ρ i := fun e' => e (R.inj j i s r hj hr hbs hb e')
      exact ⟨h1, cs0, by rw [setRow_other w _ _ cs hne]; exact h2, h3.ext E⟩
  · intro j k s s' hj hk hbs hbs' he
    simp only [AH.setCells] at hj hk
    have fix : ∀ m u, (if m = i then (H.row i).map (fun r => { r with cells := xs }) else H.row m) = some u → ∃ u', H.row m = some u' ∧ u'.rw = u.rw := by
      intro m u hu
      split at hu
      · rename_i e; subst e
        rw [hr] at hu; simp at hu; subst hu; exact ⟨r, hr, rfl⟩
      · exact ⟨u, hu, rfl⟩
    obtain ⟨u1, h1, e1⟩ := fix j s hj
    obtain ⟨u2, h2, e2⟩ := fix k s' hk
    exact R.inj j k u1 u2 h1 h2 (e1.trans hbs) (e2.trans hbs') he
  · simp; exact R.sz

/-- A row is let go. -/
theorem Rel.dropRow (R : Rel base ρ H w) (i : Nat) : Rel base ρ (H.drop i) w := by
  have sub : ∀ j s, (H.drop i).row j = some s → H.row j = some s := fun j s h => by
    simp only [AH.drop] at h; split at h
    · simp at h
    · exact h
  exact ⟨fun j s h => R.scope j s (sub j s h), fun j s h hb => R.ro j s (sub j s h) hb, fun j s h hb => R.rwr j s (sub j s h) hb,
    fun j k s s' h h' => R.inj j k s s' (sub j s h) (sub k s' h'), R.sz⟩

/-- A row moves to a new number and keeps its block, what it holds having been written (an append that fits). -/
theorem Rel.move (R : Rel base ρ H w) {i : Nat} {r : Row} {cur cs : Array Value} {xs : List Value} (hr : H.row i = some r) (hb : r.rw = true) (hc : w.heap[ρ i]? = some (.cells cur r.ty (0, 0))) (hs : cs.size = cur.size)
    (hx : L1 ρ H.next w xs (cs.toList.take xs.length)) :
    Rel base (ren ρ H.next (ρ i)) ((H.drop i).push ⟨r.ty, true, xs⟩) (w.setRow (ρ i) cs) ∧
      Ext base ρ H.next w (ren ρ H.next (ρ i)) ((H.drop i).push ⟨r.ty, true, xs⟩).next (w.setRow (ρ i) cs) := by
  obtain ⟨R1, E1⟩ := R.set hr hb hc hs hx
  obtain ⟨hbase, _, _, _⟩ := R.rwr i r hr hb
  have hin := R.scope i r hr
  have E : Ext base ρ H.next w (ren ρ H.next (ρ i)) (H.next + 1) (w.setRow (ρ i) cs) :=
    ⟨Nat.le_succ _, fun j hj => by unfold ren; rw [if_neg (by omega)], E1.bl, E1.st⟩
  have E2 : Ext base ρ H.next (w.setRow (ρ i) cs) (ren ρ H.next (ρ i)) (H.next + 1) (w.setRow (ρ i) cs) :=
    ⟨Nat.le_succ _, fun j hj => by unfold ren; rw [if_neg (by omega)], Below.refl _ _, fun _ _ h => h⟩
  have old : ∀ j, j < H.next → ren ρ H.next (ρ i) j = ρ j := fun j hj => by unfold ren; rw [if_neg (by omega)]
  have new : ren ρ H.next (ρ i) H.next = ρ i := by unfold ren; rw [if_pos rfl]
  have rows : ∀ j s, ((H.drop i).push ⟨r.ty, true, xs⟩).row j = some s → (j = H.next ∧ s = ⟨r.ty, true, xs⟩) ∨ (j ≠ i ∧ j < H.next ∧ H.row j = some s) := by
    intro j s h
    rw [AH.push_row, AH.drop_row, AH.drop_next] at h
    by_cases e : j = H.next
    · rw [if_pos e] at h; simp at h; exact .inl ⟨e, h.symm⟩
    · rw [if_neg e] at h
      by_cases e2 : j = i
      · rw [if_pos e2] at h; simp at h
      · rw [if_neg e2] at h; exact .inr ⟨e2, R.scope j s h, h⟩
  have keep : ∀ j s, j ≠ i → H.row j = some s → (H.setCells i xs).row j = some s := fun j s e h => by simp only [AH.setCells, if_neg e]; exact h
  refine ⟨⟨?_, ?_, ?_, ?_, R1.sz⟩, E⟩
  · intro j s h
    show j < H.next + 1
    rcases rows j s h with ⟨e, _⟩ | ⟨_, e, _⟩ <;> omega
  · intro j s h hbs
    rcases rows j s h with ⟨_, e⟩ | ⟨e1, e2, e3⟩
    · subst e; simp at hbs
    · obtain ⟨h1, h2⟩ := R1.ro j s (keep j s e1 e3) hbs
      rw [old j e2]
      exact ⟨h1, fun m v hv ho => let ⟨v', a, b⟩ := h2 m v hv ho; ⟨v', a, b.ext E2⟩⟩
  · intro j s h hbs
    rcases rows j s h with ⟨e, e'⟩ | ⟨e1, e2, e3⟩
    · subst e; subst e'
      rw [new]
      exact ⟨hbase, cs, setRow_heap w _ cur cs _ _ hc, hx.ext E⟩
    · obtain ⟨h1, cs0, h2, h3⟩ := R1.rwr j s (keep j s e1 e3) hbs
      rw [old j e2]
      exact ⟨h1, cs0, h2, h3.ext E2⟩
  · intro j k s s' hj hk hbs hbs' he
    rcases rows j s hj with ⟨e, _⟩ | ⟨e1, e2, e3⟩ <;> rcases rows k s' hk with ⟨f, _⟩ | ⟨f1, f2, f3⟩
    · omega
    · subst e; rw [new, old k f2] at he
      exact absurd (R.inj i k r s' hr f3 hb hbs' he) (fun e => f1 e.symm)
    · subst f; rw [new, old j e2] at he
      exact absurd (R.inj j i s r e3 hr hbs hb he) e1
    · rw [old j e2, old k f2] at he
      exact R.inj j k s s' e3 f3 hbs hbs' he

theorem Rel.drew (R : Rel base ρ H w) : Rel base ρ H w.drew :=
  have E : Ext base ρ H.next w ρ H.next w.drew := ⟨Nat.le_refl _, fun _ _ => rfl, (Below.refl _ _).drew, fun _ _ h => h⟩
  ⟨R.scope, fun i r h hb => ⟨(R.ro i r h hb).1, fun j v hv ho => let ⟨v', a, b⟩ := (R.ro i r h hb).2 j v hv ho; ⟨v', a, b.ext E⟩⟩,
    fun i r h hb => let ⟨a, cs, b, c⟩ := R.rwr i r h hb; ⟨a, cs, b, c.ext E⟩, R.inj, R.sz⟩
theorem ext_drew (w : World) : Ext base ρ H.next w ρ H.next w.drew := ⟨Nat.le_refl _, fun _ _ => rfl, (Below.refl _ _).drew, fun _ _ h => h⟩
end
end Go.Abs
