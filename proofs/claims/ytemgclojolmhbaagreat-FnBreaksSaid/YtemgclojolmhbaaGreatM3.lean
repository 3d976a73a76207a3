/- The small logic: ownership: a list that is read on while it grows. No program is named here. And what follows. -/
import Derived.Test.YtemgclojolmhbaaGreatM2
import Derived.RangeFuncBox
import Derived.RangeFuncLeaves
import Derived.Shelf.Abstract
import Derived.WalkKit
import Derived.OwnWalkIn
import Derived.TacticsInMore
import Derived.LoopNIn
import Derived.LoopIn
import Derived.Maps.AppendAt
import Derived.KernelRfl
import Derived.Test.YtemgclojolmhbaaGreatProg
import Derived.Sort.OwnSortedInts
import Derived.Laws.AppendOwn
import Derived.Shelf.SortM.Plain
import Derived.Shelf.SortM.SortNone
set_option linter.unusedSimpArgs false
set_option linter.unusedVariables false
section
namespace Go.Abs
open Go Go.RowKit
theorem at_mid (A : List Th) (x : Th) (M : List Th) : (A ++ x :: M)[A.length]? = some x := by
  rw [List.getElem?_append_right (Nat.le_refl _), Nat.sub_self]; rfl
theorem at_mid1 (A : List Th) (x y : Th) (M : List Th) : (A ++ x :: y :: M)[A.length + 1]? = some y := by
  rw [List.getElem?_append_right (by omega), Nat.add_sub_cancel_left]; rfl
theorem Ow.dropMid {B H : AH} (A : List Th) (y : Th) (M : List Th) (h : Ow B H (A ++ y :: M)) : Ow B H (A ++ M) := by
  refine h.sub (fun j => if j < A.length then j else j + 1) (fun j hj => ?_) fun i j hi hj e => ?_
  · split
    · rename_i h1
      rw [List.getElem?_append_left h1, List.getElem?_append_left h1]
    · rename_i h1
      rw [List.getElem?_append_right (by omega), List.getElem?_append_right (by omega), show j + 1 - A.length = (j - A.length) + 1 by omega]
      rfl
  · split at e <;> split at e <;> omega
theorem Ow.fillRow {B H : AH} {L : List Th} (h : Ow B H L) (k : Nat) {p : Th} (hk : L[k]? = some p) (r : Row) : Ow B (H.push r) (L.set k (.row H.next r)) :=
  h.upd hk (Nat.le_succ _) (h.sc.push r) fun S hS _ => ⟨fun i hi _ => by rw [AH.push_row, if_neg (by omega)], fun S' _ h2 => ⟨h2 _ (Nat.le_refl _) (Nat.lt_succ_self _), by rw [AH.push_row, if_pos rfl]⟩⟩
def lvF (i k : Nat) : Value := .slice (some ⟨i, 0, some 1⟩) k k
theorem capRow {B H : AH} {L : List Th} (h : Ow B H L) (k : Nat) {ty : TypeId} {i n : Nat} {vs : List Value} (hk : L[k]? = some (.cap 1 ty (lvF i n) n vs)) : ∃ rest, B.next ≤ i ∧ i < H.next ∧ H.row i = some ⟨ty, true, vs ++ rest⟩ ∧ vs.length = n := by
  obtain ⟨S, hS, hp⟩ := h.at hk
  rcases hp.2 with ⟨h0, h1⟩ | ⟨j, rest, h1, h2, h3⟩
  · cases h1
  · cases h2
    exact ⟨rest, (hS i h1).1, (hS i h1).2, h3, by rw [hp.1, Nat.mul_one]⟩
def GoodK (i : Nat) (vs : List Value) (i' : Nat) (K : List Th) : Prop := (K = [] ∧ i' = i) ∨ ∃ r, K = [.row i r] ∧ PreK i vs r
theorem GoodK.get {B H : AH} {A Z K : List Th} {ty : TypeId} {i i' n : Nat} {vs : List Value} (hG : GoodK i vs i' K) (h : Ow B H (A ++ .cap 1 ty (lvF i' n) n vs :: (K ++ Z))) : ∃ r, H.row i = some r ∧ r.cells.take n = vs := by
  obtain ⟨rest, h1, h2, h3, h4⟩ := capRow h A.length (at_mid _ _ _)
  rcases hG with ⟨rfl, rfl⟩ | ⟨r, rfl, hr⟩
  · exact ⟨_, h3, by rw [← h4, List.take_left' rfl]⟩
  · exact ⟨r, (h.rowAt (A.length + 1) (at_mid1 _ _ _ _)).1, by rw [← h4]; exact hr.2.2⟩
theorem PreK.pre {i : Nat} {vs ms : List Value} {r : Row} (h : PreK i (vs ++ ms) r) : PreK i vs r := by
  obtain ⟨h1, h2, h3⟩ := h
  rw [List.length_append] at h2
  refine ⟨h1, by omega, ?_⟩
  have := congrArg (List.take vs.length) h3
  rw [List.take_take, List.length_append, Nat.min_eq_left (by omega), List.take_left' rfl] at this
  exact this
theorem GoodK.step {B H : AH} {A Z K : List Th} {c : Th} {i i1 i2 : Nat} {vs ms : List Value} (hG : GoodK i vs i1 K) (h : (i2 = i1 ∧ Ow B H (A ++ c :: (K ++ Z))) ∨ ∃ r, PreK i1 (vs ++ ms) r ∧ Ow B H (A ++ c :: (.row i1 r :: (K ++ Z)))) : ∃ K2, GoodK i vs i2 K2 ∧ Ow B H (A ++ c :: (K2 ++ Z)) := by
  rcases h with ⟨rfl, h⟩ | ⟨r, hr, h⟩
  · exact ⟨K, hG, h⟩
  · rcases hG with ⟨rfl, rfl⟩ | ⟨r', rfl, hr'⟩
    · exact ⟨[.row i1 r], .inr ⟨r, rfl, hr.pre⟩, h⟩
    · refine ⟨[.row i r'], .inr ⟨r', rfl, hr'⟩, ?_⟩
      have h2 : Ow B H ((A ++ [c]) ++ .row i1 r :: ([.row i r'] ++ Z)) := by rw [List.append_assoc]; exact h
      have h3 := h2.dropMid
      rw [List.append_assoc] at h3
      exact h3
theorem RowsC.same {vs : List Value} {ll : List (List Int)} {H H' : AH} (h : RowsC vs ll H) (hs : ∀ i r, H.row i = some r → H'.row i = some r) : RowsC vs ll H' := ⟨h.1, fun j hj => by obtain ⟨x, hx, hr⟩ := h.2 j hj; exact ⟨x, hx, hr.same hs⟩⟩
theorem Rc.same {u : Value} {ws : List Value} {ll : List (List Int)} {H H' : AH} (h : Rc u ws ll H) (hs : ∀ i r, H.row i = some r → H'.row i = some r) : Rc u ws ll H' := ⟨h.1.same hs, h.2.imp id fun ⟨i, o, s, c, r, h1, h2, h3⟩ => ⟨i, o, s, c, r, h1, hs _ _ h2, h3⟩⟩
def FinAt (b m : Nat) (Q : AH → Prop) (H : AH) : Prop := ∀ H2 : AH, H.next ≤ H2.next → (∀ j, j < H.next → (j < b ∨ m ≤ j) → H2.row j = H.row j) → Q H2
theorem FinAt.here {b m : Nat} {Q : AH → Prop} {H : AH} (h : FinAt b m Q H) : Q H := h H (Nat.le_refl _) fun _ _ _ => rfl
theorem FinAt.to {b m m' : Nat} {Q : AH → Prop} {H H' : AH} (h : FinAt b m Q H) (hm : m' ≤ m) (hn : H.next ≤ H'.next) (hr : ∀ j, j < H.next → (j < b ∨ m' ≤ j) → H'.row j = H.row j) : FinAt b m' Q H' := fun H2 h2 k => h H2 (by omega) fun j j1 j2 => by rw [k j (by omega) (by omega), hr j j1 (by omega)]
end Go.Abs
end

section
namespace Go.Abs
def sumN (N : Nat) (f : Nat → Nat) : Nat := ((List.range N).map f).sum
theorem zcN (N : Nat) (f : Nat → Nat) : sumN (N + 1) f = sumN N f + f N := by simp [sumN, List.range_succ]
theorem zbL {f g : Nat → Nat} : ∀ N, (∀ i, i < N → f i = g i) → sumN N f = sumN N g
  | 0, _ => rfl
  | N + 1, h => by rw [zcN, zcN, zbL N fun i hi => h i (by omega), h N (by omega)]
theorem zeD (f g : Nat → Nat) : ∀ N, sumN N (fun i => f i + g i) = sumN N f + sumN N g
  | 0 => rfl
  | N + 1 => by rw [zcN, zcN, zcN, zeD f g N]; omega
theorem zcJ : ∀ N, sumN N (fun _ => 0) = 0
  | 0 => rfl
  | N + 1 => by rw [zcN, zcJ N]
theorem zdP (j c : Nat) : ∀ N, j < N → sumN N (fun i => if i = j then c else 0) = c
  | 0, h => by omega
  | N + 1, h => by
    rw [zcN]
    by_cases e : j = N
    · subst e
      rw [if_pos rfl, zbL j (g := fun _ => 0) fun i hi => if_neg (by omega), zcJ]; omega
    · rw [zdP j c N (by omega), if_neg (by omega), Nat.add_zero]
def keyC {α : Type} (k : α → Nat) (P : List α) (i : Nat) : Nat := (P.filter fun p => k p == i).length
structure Con (n G : Nat) (pr : Nat → Nat × Nat) (room0 room : Nat → Nat) (P : List (Nat × Nat)) : Prop where
  team : ∀ b, b < n → keyC Prod.snd P b + room b = room0 b
  pt : ∀ p ∈ P, p.1 < G ∧ p.2 < n ∧ (p.2 = (pr p.1).1 ∨ p.2 = (pr p.1).2)
  two : ∀ g, g < G → keyC Prod.fst P g ≤ 2
end Go.Abs
end

section
namespace Go.Abs
theorem gset_eq {α : Type} (l : List α) (i : Nat) (x d : α) (h : i < l.length) : (l.set i x).getD i d = x := by simp [List.getD_eq_getElem?_getD, h]
theorem gset_ne {α : Type} (l : List α) (i j : Nat) (x d : α) (h : i ≠ j) : (l.set i x).getD j d = l.getD j d := by simp [List.getD_eq_getElem?_getD, List.getElem?_set, h]
structure GS where
  gv : List Int
  rm : List Int
  mt : List Bool
structure GOk (n N : Nat) (s : GS) : Prop where
  gl : s.gv.length = N
  rl : s.rm.length = n
  ml : s.mt.length = n
  gr : ∀ j, j < N → s.gv.getD j 0 = -1 ∨ ∃ c : Nat, c < n ∧ s.gv.getD j 0 = (c : Int)
  rr : ∀ c, c < n → 0 ≤ s.rm.getD c 0
def idle (s : GS) (j : Nat) : Prop := s.gv.getD j 0 = -1 ∨ ∃ c : Nat, s.gv.getD j 0 = (c : Int) ∧ s.mt.getD c false = true
def both (tm : Nat → Nat → Nat) (mt : List Bool) (j : Nat) : Prop := mt.getD (tm j 0) false = true ∧ mt.getD (tm j 1) false = true
structure GRes (tm : Nat → Nat → Nat) (n N i : Nat) (s : GS) (r : Bool × GS) : Prop where
  ok : GOk n N r.2
  mono : ∀ c, s.mt.getD c false = true → r.2.mt.getD c false = true
  frame : ∀ j, j ≠ i → idle s j → r.2.gv.getD j 0 = s.gv.getD j 0
  no : r.1 = false → r.2.gv = s.gv ∧ r.2.rm = s.rm ∧ both tm r.2.mt i ∧ ∀ c, c < n → r.2.mt.getD c false = true → s.mt.getD c false = false → s.rm.getD c 0 = 0 ∧ ∀ j, j < N → s.gv.getD j 0 = (c : Int) → both tm r.2.mt j
  yes : r.1 = true → (∃ k, k < 2 ∧ r.2.gv.getD i 0 = (tm i k : Int)) ∧ (∀ j, j < N → j ≠ i → r.2.gv.getD j 0 = s.gv.getD j 0 ∨ ∃ k, k < 2 ∧ r.2.gv.getD j 0 = (tm j k : Int)) ∧ (∀ j, j < N → j ≠ i → s.gv.getD j 0 ≠ -1 → r.2.gv.getD j 0 ≠ -1) ∧
    ∀ c : Nat, c < n → (r.2.gv.count (c : Int) : Int) + r.2.rm.getD c 0 + (if s.gv.getD i 0 == (c : Int) then 1 else 0) = (s.gv.count (c : Int) : Int) + s.rm.getD c 0
structure JRes (tm : Nat → Nat → Nat) (n N i b : Nat) (js : List Nat) (s : GS) (r : Bool × GS) : Prop where
  ok : GOk n N r.2
  mono : ∀ c, s.mt.getD c false = true → r.2.mt.getD c false = true
  frame : ∀ j, j ≠ i → s.gv.getD j 0 ≠ (b : Int) → idle s j → r.2.gv.getD j 0 = s.gv.getD j 0
  no : r.1 = false → r.2.gv = s.gv ∧ r.2.rm = s.rm ∧ (∀ j ∈ js, s.gv.getD j 0 = (b : Int) → both tm r.2.mt j) ∧ ∀ c, c < n → r.2.mt.getD c false = true → s.mt.getD c false = false → s.rm.getD c 0 = 0 ∧ ∀ j, j < N → s.gv.getD j 0 = (c : Int) → both tm r.2.mt j
  yes : r.1 = true → r.2.gv.getD i 0 = (b : Int) ∧ (∀ j, j < N → j ≠ i → r.2.gv.getD j 0 = s.gv.getD j 0 ∨ ∃ k, k < 2 ∧ r.2.gv.getD j 0 = (tm j k : Int)) ∧ (∀ j, j < N → j ≠ i → s.gv.getD j 0 ≠ -1 → r.2.gv.getD j 0 ≠ -1) ∧
    ∀ c : Nat, c < n → (r.2.gv.count (c : Int) : Int) + r.2.rm.getD c 0 + (if s.gv.getD i 0 == (c : Int) then 1 else 0) = (s.gv.count (c : Int) : Int) + s.rm.getD c 0
end Go.Abs
end

section
namespace Go.Abs
structure AInv (tm : Nat → Nat → Nat) (n N : Nat) (room0 : Nat → Nat) (a : Nat) (gv rm : List Int) : Prop where
  ok : ∀ mt : List Bool, mt.length = n → GOk n N ⟨gv, rm, mt⟩
  own : ∀ j, j < N → gv.getD j 0 = -1 ∨ ∃ k, k < 2 ∧ gv.getD j 0 = (tm j k : Int)
  bal : ∀ c, c < n → (gv.count (c : Int) : Int) + rm.getD c 0 = room0 c
  done : ∀ j, j < a → gv.getD j 0 ≠ -1
  todo : ∀ j, a ≤ j → j < N → gv.getD j 0 = -1
end Go.Abs
end

section
namespace Go.Abs
structure HS where
  ow : List (List Int)
  rm : List Int
  mt : List Bool
def cntO (G : Nat) (ow : List (List Int)) (c : Nat) : Nat := sumN G fun g => (ow.getD g []).count (c : Int)
structure HOk (n G : Nat) (s : HS) : Prop where
  ol : s.ow.length = G
  rl : s.rm.length = n
  ml : s.mt.length = n
  er : ∀ g x, x ∈ s.ow.getD g [] → ∃ c : Nat, c < n ∧ x = (c : Int)
  rr : ∀ c, c < n → 0 ≤ s.rm.getD c 0
structure HRes (tm : Nat → Nat → Nat) (n G i : Nat) (s : HS) (r : Bool × HS) : Prop where
  ok : HOk n G r.2
  mono : ∀ c, s.mt.getD c false = true → r.2.mt.getD c false = true
  dec : ∀ c, r.2.rm.getD c 0 ≤ s.rm.getD c 0
  frame : ∀ g c, s.mt.getD c false = true → (r.2.ow.getD g []).count (c : Int) = (s.ow.getD g []).count (c : Int)
  no : r.1 = false → r.2.ow = s.ow ∧ r.2.rm = s.rm ∧ both tm r.2.mt i ∧ ∀ c, c < n → r.2.mt.getD c false = true → s.mt.getD c false = false → s.rm.getD c 0 = 0 ∧ ∀ g, (c : Int) ∈ s.ow.getD g [] → both tm r.2.mt g
  yes : r.1 = true → (∀ g, (r.2.ow.getD g []).length = (s.ow.getD g []).length + if g = i then 1 else 0) ∧ (∀ g x, x ∈ r.2.ow.getD g [] → x ∈ s.ow.getD g [] ∨ ∃ k, k < 2 ∧ x = (tm g k : Int)) ∧
    ∀ c, c < n → (cntO G r.2.ow c : Int) + r.2.rm.getD c 0 = (cntO G s.ow c : Int) + s.rm.getD c 0
structure HJRes (tm : Nat → Nat → Nat) (n G i b : Nat) (gs : List Nat) (s : HS) (r : Bool × HS) : Prop where
  ok : HOk n G r.2
  mono : ∀ c, s.mt.getD c false = true → r.2.mt.getD c false = true
  dec : ∀ c, r.2.rm.getD c 0 ≤ s.rm.getD c 0
  frame : ∀ g c, c ≠ b → s.mt.getD c false = true → (r.2.ow.getD g []).count (c : Int) = (s.ow.getD g []).count (c : Int)
  no : r.1 = false → r.2.ow = s.ow ∧ r.2.rm = s.rm ∧ (∀ g ∈ gs, g ≠ i → (b : Int) ∈ s.ow.getD g [] → both tm r.2.mt g) ∧ ∀ c, c < n → r.2.mt.getD c false = true → s.mt.getD c false = false → s.rm.getD c 0 = 0 ∧ ∀ g, (c : Int) ∈ s.ow.getD g [] → both tm r.2.mt g
  yes : r.1 = true → (∀ g, (r.2.ow.getD g []).length = (s.ow.getD g []).length + if g = i then 1 else 0) ∧ (∀ g x, x ∈ r.2.ow.getD g [] → x ∈ s.ow.getD g [] ∨ (∃ k, k < 2 ∧ x = (tm g k : Int)) ∨ (g = i ∧ x = (b : Int))) ∧
    ∀ c, c < n → (cntO G r.2.ow c : Int) + r.2.rm.getD c 0 = (cntO G s.ow c : Int) + s.rm.getD c 0
structure HInv (tm : Nat → Nat → Nat) (n G : Nat) (room0 : Nat → Nat) (a : Nat) (ow : List (List Int)) (rm : List Int) : Prop where
  ok : ∀ mt : List Bool, mt.length = n → HOk n G ⟨ow, rm, mt⟩
  own : ∀ g x, x ∈ ow.getD g [] → ∃ k, k < 2 ∧ x = (tm g k : Int)
  bal : ∀ c, c < n → (cntO G ow c : Int) + rm.getD c 0 = room0 c
  len : ∀ g, g < G → (ow.getD g []).length = a - 2 * g - (a - 2 * g - 2)
end Go.Abs
end

section
namespace Go.Abs
def gstep (a : Int) (st : List Int × List (List Int)) (p : List Int) : List Int × List (List Int) :=
  if p.getD 0 0 = a ∨ p.getD 1 0 = a then (addAt st.1 a 2, st.2) else (st.1, st.2 ++ [p])
def gmB (n : Nat) (l : List Int) (a : Int) (st : List Int × List (List Int)) (i b : Nat) : List Int × List (List Int) := ((pairsL (rnd l i) n).take b).foldl (gstep a) st
def gmN (n : Nat) (l : List Int) (a : Int) (st : List Int × List (List Int)) (R : Nat) : Nat → List Int × List (List Int)
  | 0 => st
  | c + 1 => gmB n l a (gmN n l a st R c) (R + c) (pairsL (rnd l (R + c)) n).length
structure GmOk (n : Nat) (B : Nat) (st : List Int × List (List Int)) : Prop where
  len : st.1.length = n
  bnd : ∀ j, 0 ≤ st.1.getD j 0 ∧ st.1.getD j 0 ≤ B
  few : st.2.length ≤ B
  two : ∀ p ∈ st.2, ∃ x y : Nat, x < n ∧ y < n ∧ p = [(x : Int), (y : Int)]
theorem GmOk.mono {n B B' : Nat} {st : List Int × List (List Int)} (h : GmOk n B st) (hB : B ≤ B') : GmOk n B' st :=
  ⟨h.len, fun j => by have := h.bnd j; omega, Nat.le_trans h.few hB, h.two⟩
end Go.Abs
end

section
namespace Go.Abs
/-! Sums of points. -/
/-! Rankings fall. -/
end Go.Abs
end

section
namespace Go.Abs
end Go.Abs
end

section
namespace Go.Abs
/-! ### Rounds found by matching -/
structure MInv (n : Nat) (mt : Nat → Nat → Bool) (now : List Int) (a : Nat) : Prop where
  ok : NowOk n now
  inv : ∀ j, j < n → now.getD (now.getD j 0).toNat 0 = (j : Int)
  met : ∀ j, j < a → j < n → now.getD j 0 ≠ (j : Int)
  may : ∀ i j : Nat, i < j → j < n → now.getD i 0 = (j : Int) → mt i j = false
structure NextF (n : Nat) (meet : Nat → Nat → Bool) (r : List Int) : Prop where
  ok : roundB n r = true
  no : ∀ p, p < n → r.getD p 0 ≠ (p : Int)
  may : ∀ p, p < n → meet p (r.getD p 0).toNat = false
/-! ### Points of a team, round by round -/
/-! ### Points of two teams -/
def rbL (l : List Int) (a : Nat) (b : Int) : Nat → List Int
  | 0 => []
  | i + 1 => rbL l a b i ++ if (rnd l i).getD a 0 = b then [(i : Int)] else []
theorem rbL_succ (l : List Int) (a : Nat) (b : Int) (i : Nat) : rbL l a b (i + 1) = rbL l a b i ++ if (rnd l i).getD a 0 = b then [(i : Int)] else [] := rfl
theorem rbL_len (l : List Int) (a : Nat) (b : Int) : ∀ m, (rbL l a b m).length ≤ m
  | 0 => Nat.le_refl _
  | m + 1 => by
    have := rbL_len l a b m
    unfold rbL
    rw [List.length_append]
    split <;> simp <;> omega
end Go.Abs
end

section
namespace Go.Abs
theorem rowM_at {n : Nat} {l : List Int} {a b : Nat} (ha : a < n) (hb : b < n) (hab : a ≠ b) : ∀ i, i ≤ 1000 → (∀ r, r < i → roundB n (rnd l r) = true) → (rowM n l a i).getD b 0 = ((rbL l a (b : Int) i).length : Int)
  | 0, _, _ => by
    rw [rowM_zero, List.getD_eq_getElem?_getD, List.getElem?_replicate]
    split <;> rfl
  | i + 1, h1, h => by
    have ih := rowM_at ha hb hab i (by omega) fun r hr => h r (by omega)
    have hl := rbL_len l a (b : Int) i
    have hrl := zdG n l a i
    obtain ⟨_, g1, g2, _⟩ := zbR (h i (by omega)) (a := a) (by omega)
    rw [ze0, rbL_succ]
    unfold zeW
    by_cases c : (rnd l i).getD a 0 = (a : Int)
    · rw [if_pos c, if_neg (by omega), List.append_nil, ih]
    · rw [if_neg c]
      unfold incR
      by_cases c2 : (rnd l i).getD a 0 = (b : Int)
      · rw [c2, if_pos rfl, Int.toNat_natCast, gset_eq _ _ _ _ (by omega), ih, List.length_append]
        rw [show IntKind.i64.wrap (((rbL l a (b : Int) i).length : Int) + 1) = ((rbL l a (b : Int) i).length : Int) + 1 from w64 ⟨by omega, by omega⟩]
        simp
      · rw [if_neg c2, List.append_nil, gset_ne _ _ _ _ _ (by omega), ih]
end Go.Abs
end

section
namespace Go.Abs
def up1 (y : List Int) : List Int := y.map (· + 1)
end Go.Abs
end

section
namespace Go.Abs
def reoL (l : List Int) (y : List Int) : List Int := y.flatMap fun x => rnd l x.toNat
theorem reoL_snoc (l y : List Int) (x : Int) : reoL l (y ++ [x]) = reoL l y ++ rnd l x.toNat := by simp [reoL]
end Go.Abs
end

section
namespace Go.Abs
end Go.Abs
end

section
namespace Go.Abs
/-! Orders keep round robins. -/
/-! Orders. -/
end Go.Abs
end

section
namespace Go.Abs
structure SmM (n c : Nat) (M : List (List Int)) : Prop where
  sq : SqM n M
  at_ : ∀ x y, 0 ≤ (M.getD x []).getD y 0 ∧ (M.getD x []).getD y 0 ≤ (c : Int)
theorem zeroM_at (n x y : Nat) : ((zeroM n).getD x []).getD y 0 = 0 := by
  have e : (zeroM n).getD x [] = if x < n then List.replicate n 0 else [] := by
    unfold zeroM
    rw [List.getD_eq_getElem?_getD, List.getElem?_replicate]
    split <;> rfl
  rw [e]
  by_cases hx : x < n
  · rw [if_pos hx, List.getD_eq_getElem?_getD, List.getElem?_replicate]
    split <;> rfl
  · rw [if_neg hx]; rfl
theorem SmM.zero (n : Nat) : SmM n 0 (zeroM n) := ⟨zeroM_sq n, fun x y => by rw [zeroM_at]; omega⟩
end Go.Abs
end

section
namespace Go.Abs
/-! The best order. -/
/-! Balance. -/
/-! Digits. -/
end Go.Abs
end

section
namespace Go.Abs
/-! ### Tables -/
def qd (l : List Int) (t j : Nat) : Nat := (l.getD (4 * t + j) 0).toNat
def evW (n : Nat) (q : Nat → Nat) (ws : List (Nat × Nat)) : List Int := ws.flatMap fun w => [ixN n (q w.1) (q w.2), ixN n (q w.2) (q w.1)]
def evR (n : Nat) (ws : List (Nat × Nat)) (l : List Int) (c : Nat) : List Int := (List.range c).flatMap fun t => evW n (qd l t) ws
def evA (n : Nat) (ws : List (Nat × Nat)) (R : List (List Int)) (k : Nat) : List Int := (List.range k).flatMap fun i => evR n ws (R.getD i []) ((R.getD i []).length / 4)
def tabM (n : Nat) (ws : List (Nat × Nat)) (R : List (List Int)) : List (List Int) := cntMx n (evA n ws R R.length)
/-! ### Evenings made from a base round -/
def mdX (m i : Nat) (x : Int) : Int := if x < m then (x + i) % m else x
def mdL (m i : Nat) (y : List Int) : List Int := y.map (mdX m i)
def madeL (m : Nat) (y : List Int) (k : Nat) : List (List Int) := (List.range k).map fun i => mdL m i y
theorem mdL_length (m i : Nat) (y : List Int) : (mdL m i y).length = y.length := by simp [mdL]
theorem madeL_length (m : Nat) (y : List Int) (k : Nat) : (madeL m y k).length = k := by simp [madeL]
def wP : List (Nat × Nat) := [(0, 1), (2, 3)]
end Go.Abs
end

section
namespace Go.Abs
end Go.Abs
end

section
namespace Go.Abs
end Go.Abs
end

section
namespace Go.Abs
structure Mu (n : Nat) (I : List Int) : Prop where
  sym : ∀ a b : Nat, a < n → b < n → I.count (ixN n a b) = I.count (ixN n b a)
  tot : sumN n (fun a => sumN n fun b => I.count (ixN n a b)) = I.length
theorem Mu.nil (n : Nat) : Mu n [] := ⟨fun _ _ _ _ => rfl, by
  rw [zbL n (g := fun _ => 0) fun a _ => by
    show (sumN n fun b => List.count (ixN n a b) []) = 0
    rw [zbL n (g := fun _ => 0) fun b _ => by simp, zcJ], zcJ]; rfl⟩
theorem Mu.app {n : Nat} {I J : List Int} (h : Mu n I) (k : Mu n J) : Mu n (I ++ J) := ⟨fun a b ha hb => by
  rw [List.count_append, List.count_append, h.sym a b ha hb, k.sym a b ha hb], by
  rw [zbL n (g := fun a => (sumN n fun b => I.count (ixN n a b)) + sumN n fun b => J.count (ixN n a b)) fun a _ => by
    show (sumN n fun b => List.count (ixN n a b) (I ++ J)) = _
    rw [zbL n (g := fun b => I.count (ixN n a b) + J.count (ixN n a b)) fun b _ => by rw [List.count_append], zeD]]
  rw [zeD, h.tot, k.tot, List.length_append]⟩
theorem ixN_eq {n a b x y : Nat} (hb : b < n) (hy : y < n) : ixN n a b = ixN n x y ↔ a = x ∧ b = y := by
  constructor
  · intro h
    unfold ixN at h
    have h : a * n + b = x * n + y := by omega
    have hn : 0 < n := by omega
    have h1 : (a * n + b) / n = a := by rw [Nat.mul_comm, Nat.mul_add_div hn, Nat.div_eq_of_lt hb]; rfl
    have h2 : (x * n + y) / n = x := by rw [Nat.mul_comm, Nat.mul_add_div hn, Nat.div_eq_of_lt hy]; rfl
    have : a = x := by rw [← h1, ← h2, h]
    subst this
    exact ⟨rfl, by omega⟩
  · rintro ⟨rfl, rfl⟩; rfl
theorem Mu.two {n x y : Nat} (hx : x < n) (hy : y < n) : Mu n [ixN n x y, ixN n y x] := by
  have h1 : ∀ a b : Nat, b < n → [ixN n x y, ixN n y x].count (ixN n a b) = (if a = x ∧ b = y then 1 else 0) + if a = y ∧ b = x then 1 else 0 := fun a b hb => by
    rw [List.count_cons, List.count_cons, List.count_nil]
    have e1 : (ixN n x y == ixN n a b) = decide (a = x ∧ b = y) := by
      rw [Bool.eq_iff_iff, beq_iff_eq, decide_eq_true_iff, ← ixN_eq hb hy]
      exact eq_comm
    have e2 : (ixN n y x == ixN n a b) = decide (a = y ∧ b = x) := by
      rw [Bool.eq_iff_iff, beq_iff_eq, decide_eq_true_iff, ← ixN_eq hb hx]
      exact eq_comm
    rw [e1, e2]
    simp only [decide_eq_true_eq]
    omega
  refine ⟨fun a b ha hb => ?_, ?_⟩
  · rw [h1 a b hb, h1 b a ha]
    by_cases c1 : a = x ∧ b = y
    · by_cases c2 : a = y ∧ b = x
      · rw [if_pos c1, if_pos c2, if_pos ⟨c2.2, c2.1⟩, if_pos ⟨c1.2, c1.1⟩]
      · rw [if_pos c1, if_neg c2, if_neg (fun h => c2 ⟨h.2, h.1⟩), if_pos ⟨c1.2, c1.1⟩]
    · by_cases c2 : a = y ∧ b = x
      · rw [if_neg c1, if_pos c2, if_pos ⟨c2.2, c2.1⟩, if_neg (fun h => c1 ⟨h.2, h.1⟩)]
      · rw [if_neg c1, if_neg c2, if_neg (fun h => c2 ⟨h.2, h.1⟩), if_neg (fun h => c1 ⟨h.2, h.1⟩)]
  · have h2 : ∀ p q : Nat, p < n → q < n → (sumN n fun a => sumN n fun b => if a = p ∧ b = q then 1 else 0) = 1 := fun p q hp hq => by
      rw [zbL n (g := fun a => if a = p then 1 else 0) fun a _ => by
        by_cases e : a = p
        · rw [if_pos e, zbL n (g := fun b => if b = q then 1 else 0) fun b _ => by
            by_cases e2 : b = q
            · rw [if_pos ⟨e, e2⟩, if_pos e2]
            · rw [if_neg (fun h => e2 h.2), if_neg e2], zdP q 1 n hq]
        · rw [if_neg e, zbL n (g := fun _ => 0) fun b _ => if_neg (fun h => e h.1), zcJ], zdP p 1 n hp]
    rw [zbL n (g := fun a => (sumN n fun b => if a = x ∧ b = y then 1 else 0) + sumN n fun b => if a = y ∧ b = x then 1 else 0) fun a _ => by
      rw [zbL n (g := fun b => (if a = x ∧ b = y then 1 else 0) + if a = y ∧ b = x then 1 else 0) fun b hb => h1 a b hb, zeD], zeD, h2 x y hx hy, h2 y x hy hx]
    rfl
theorem Mu.flat {α : Type} {n : Nat} {f : α → List Int} : ∀ (l : List α), (∀ x ∈ l, Mu n (f x)) → Mu n (l.flatMap f)
  | [], _ => Mu.nil n
  | x :: l, h => by
    rw [List.flatMap_cons]
    exact (h x List.mem_cons_self).app (Mu.flat l fun y hy => h y (List.mem_cons_of_mem _ hy))
structure TabF (n c : Nat) (M : List (List Int)) : Prop where
  sq : SqM n M
  rng : ∀ i, i < n → ∀ x ∈ M.getD i [], 0 ≤ x ∧ x ≤ 1000000
  sym : ∀ a b, a < n → b < n → (M.getD a []).getD b 0 = (M.getD b []).getD a 0
  tot : (M.map List.sum).sum = (c : Int)
end Go.Abs
end

section
namespace Go.Abs
end Go.Abs
end

section
namespace Go.Abs
/-! First base rounds. -/
/-! What is made. -/
/-! Renumbered evenings. -/
theorem ze2 {l : List Int} {i : Nat} (h : i < l.length) : l.getD i 0 ∈ l := by
  rw [List.getD_eq_getElem?_getD, List.getElem?_eq_getElem h]; exact List.getElem_mem _
def sgR (y : List Int) (a : Nat) : Nat := (y.getD a 0).toNat
structure Bij (n : Nat) (y : List Int) : Prop where
  lt : ∀ a, a < n → sgR y a < n
  inj : ∀ a b, a < n → b < n → sgR y a = sgR y b → a = b
  onto : ∀ c, c < n → ∃ a, a < n ∧ sgR y a = c
end Go.Abs
end

section
namespace Go.Abs
/-! ### Pairs of places in groups -/
/-! ### Who meets whom -/
end Go.Abs
end

section
namespace Go.Abs
/-! ### Insertion -/
structure Ins {α : Type} (key : α → Int) (l : List α) (i : Nat) (A : List α) (x : α) (B C : List α) : Prop where
  eq : l = A ++ x :: (B ++ C)
  len : A.length + B.length = i
  srt : (A ++ B).Pairwise fun a b => key a ≤ key b
  hx : ∀ b ∈ B, key x ≤ key b
theorem Ins.start {α : Type} {key : α → Int} {l : List α} {i : Nat} (h : (l.take i).Pairwise fun a b => key a ≤ key b) (hi : i < l.length) : Ins key l i (l.take i) l[i] [] (l.drop (i + 1)) := by
  refine ⟨?_, by rw [List.length_take, List.length_nil]; omega, by rw [List.append_nil]; exact h, fun b hb => by simp at hb⟩
  rw [List.nil_append, ← List.drop_eq_getElem_cons hi, List.take_append_drop]
theorem Ins.step {α : Type} {key : α → Int} {l : List α} {i : Nat} {A : List α} {z x : α} {B C : List α} (h : Ins key l i (A ++ [z]) x B C) (hz : key x ≤ key z) : Ins key (A ++ x :: (z :: B ++ C)) i A x (z :: B) C ∧ (A ++ x :: (z :: B ++ C)).Perm l := by
  refine ⟨⟨rfl, ?_, ?_, ?_⟩, ?_⟩
  · have := h.len
    simp at this ⊢
    omega
  · have := h.srt
    simpa using this
  · intro b hb
    rcases List.mem_cons.1 hb with rfl | hb
    · exact hz
    · exact h.hx b hb
  · rw [h.eq]
    rw [List.append_assoc]
    exact List.Perm.append_left A (by simpa using List.Perm.swap z x (B ++ C))
theorem Ins.at {α : Type} {key : α → Int} {l : List α} {i : Nat} {A : List α} {x : α} {B C : List α} (h : Ins key l i A x B C) : l[A.length]? = some x := by
  rw [h.eq, List.getElem?_append_right (Nat.le_refl _), Nat.sub_self]; rfl
theorem Ins.swap {α : Type} {key : α → Int} {l : List α} {i : Nat} {A : List α} {z x : α} {B C : List α} (h : Ins key l i (A ++ [z]) x B C) : (l.set (A.length + 1) z).set A.length x = A ++ x :: (z :: B ++ C) := by
  rw [h.eq, List.append_assoc]
  rw [List.set_append_right _ _ (by omega), List.set_append_right _ _ (by omega)]
  rw [Nat.add_sub_cancel_left, Nat.sub_self]
  rfl
/-! ### Groups -/
/-! ### Tidy rounds -/
end Go.Abs
end

section
namespace Go.Abs
end Go.Abs
end

section
namespace Go.Abs
end Go.Abs
end

section
namespace Go.Abs
end Go.Abs
end

section
namespace Go.Abs
structure PreN (n g : Nat) (P : List Int) : Prop where
  len : P.length ≤ n
  rng : ∀ x ∈ P, 0 ≤ x ∧ x < (n : Int)
  nd : P.Nodup
  asc : (P.drop (P.length / g * g)).Pairwise fun x y => x < y
theorem PreN.nil (n g : Nat) : PreN n g [] := ⟨by simp, fun x h => by simp at h, by simp, by simp⟩
end Go.Abs
end

section
namespace Go.Abs
def StepN (g : Nat) (M : List (List Int)) (r : List Int) (k : Nat) : Prop :=
  (∀ i, k / g * g ≤ i → i < k → r.getD i 0 < r.getD k 0 ∧ (M.getD (r.getD i 0).toNat []).getD (r.getD k 0).toNat 0 = 0) ∧ (k % g = 0 → ∀ d : Nat, (d : Int) < r.getD k 0 → (d : Int) ∈ r.take k)
structure NxtN (n g : Nat) (M : List (List Int)) (r : List Int) : Prop where
  ord : ordB n r = true
  step : ∀ k, k < n → StepN g M r k
/-! ### How many -/
/-! ### The first golf -/
end Go.Abs
end

section
namespace Go.Abs
open Go Go.RowKit
def bools (l : List Bool) : List Value := l.map .bool
theorem zb3 (l : List Bool) : (bools l).length = l.length := by simp [bools]
end Go.Abs
end

section
namespace Go.Abs
open Go Go.RowKit
structure LES (S : Nat → Prop) (H H' : AH) : Prop where
  next : H.next ≤ H'.next
  row : ∀ i r, S i → H.row i = some r → H'.row i = some r
theorem LES.refl (S : Nat → Prop) (H : AH) : LES S H H := ⟨Nat.le_refl _, fun _ _ _ h => h⟩
theorem LE.les {S : Nat → Prop} {H H' : AH} (h : LE H H') : LES S H H' := ⟨h.next, fun i r _ => h.row i r⟩
def loadOk (S : Nat → Prop) (t : T) : Op → Prop
  | .load _ a => match evo t a with | some (.pointer (some ⟨i, _, _⟩)) => S i | _ => True
  | _ => True
def Safe (P : Program) (S : Nat → Prop) (t : T) (op : Op) : Prop := ∀ H H' v, LES S H H' → yl (evalOp P t H op) v → yl (evalOp P t H' op) v
theorem zi6 {P : Program} {S : Nat → Prop} {t : T} {op : Op} (hq : za0 op = true) (h : loadOk S t op) : Safe P S t op := by
  intro H H' v hle h
  by_cases hb : za2 op = true
  · rw [zgG P t H H' op hb]; exact ziB _ h
  · cases op with
    | load ty a =>
      rename_i hS
      simp only [evalOp] at h ⊢
      cases hI : ti P ty with
      | none => simp only [hI] at h; exact h.elim
      | some I =>
        simp only [hI, zaZ] at h ⊢
        cases hv : evo t a with
        | none => simp only [hv] at h; exact h.elim
        | some u =>
          simp only [hv, zaZ] at h ⊢
          unfold asP at h ⊢
          split at h
          · rename_i i o
            unfold loadOk at hS
            simp only [hv] at hS
            cases hr : H.row i with
            | none => simp only [hr] at h; exact h.elim
            | some r =>
              have hr2 := hle.row i r hS hr
              simp only [hr, hr2, zaZ] at h ⊢
              split at h
              · rename_i hd; rw [if_pos hd]; exact h
              · rename_i hd
                rw [if_neg hd]
                cases hx : r.cells[o]? with
                | none => simp only [hx] at h; exact h.elim
                | some x => simp only [hx, zaZ] at h ⊢; exact h
          · exact h.elim
    | _ => simp_all [za0, za2]
theorem Safe.upd {P : Program} {S : Nat → Prop} {ops : Array Oper} {o : Oper} {t : T} {u : Value} {d : Option Nat} (h : ∀ i, d = some i → i ∉ o.looksAt ops) (k : Safe P S t o.op) : Safe P S (updO t d u) o.op := by
  intro H H' v hle
  rw [zc3 o h, zc3 o h]
  exact k H H' v hle
theorem aYield.safe {P : Program} {S : Nat → Prop} {ops : Array Oper} {o : Oper} {t : T} {H H' : AH} {v : Value} (hs : Safe P S t o.op) (hle : LES S H H') (h : aYield P ops o t H v) : aYield P ops o t H' v := by
  unfold aYield at *
  split at h
  · rename_i hg; exact hs _ _ _ hle h
  · rename_i g hg; exact zb7 h (hs _ _ _ hle) id
def AAnyS (P : Program) (ops : Array Oper) (S : Nat → Prop) (Q : T → AH → Prop) : Nat → Array Bool → T → AH → Prop
  | 0, listed, t, H => Region.ready .any ops listed = [] ∧ Q t H
  | f + 1, listed, t, H => (Region.ready .any ops listed = [] → Q t H) ∧
    ∀ i ∈ Region.ready .any ops listed, aStep P ops.toList i t H fun t' H' => (sinkB ops i = true ∨ LES S H H') ∧ AAnyS P ops S Q f (listed.setIfInBounds i true) t' H'
theorem zdO {P : Program} {ops : Array Oper} {S : Nat → Prop} {Q : T → AH → Prop} {q : Nat} {oq : Oper} {v : Value} (hoq : ops[q]? = some oq) (hqt : za0 oq.op = true) :
    ∀ (f : Nat) (listed : Array Bool) (t : T) (H : AH), Closed ops listed →
      (∀ j oj, ops[j]? = some oj → j ≠ q → listed.getD j true = false → (∀ e ∈ oj.after, Region.binds .any e = true → e.on ≠ q) → oq.apart ops oj = true) →
      q ∈ Region.ready .any ops listed → Safe P S t oq.op → aYield P ops oq t H v → AAnyS P ops S Q f (listed.setIfInBounds q true) (updO t oq.dst v) H → AAnyS P ops S Q (f + 1) listed t H := by
  intro f
  induction f with
  | zero =>
    intro listed t H hc _ hr hsf hy hA
    refine ⟨fun h => (by rw [h] at hr; cases hr), fun j hj => ?_⟩
    by_cases hjq : j = q
    · subst hjq; exact hy.step hoq hqt ⟨.inr (LES.refl _ _), hA⟩
    · have := ready_mono hj hjq
      rw [hA.1] at this
      cases this
  | succ f ih =>
    intro listed t H hc hfree hr hsf hy hA
    refine ⟨fun h => (by rw [h] at hr; cases hr), fun j hj => ?_⟩
    by_cases hjq : j = q
    · subst hjq; exact hy.step hoq hqt ⟨.inr (LES.refl _ _), hA⟩
    · have h1 := hA.2 j (ready_mono hj hjq)
      obtain ⟨hjun, oj, hoj, hall⟩ := ready_iff.1 hj
      obtain ⟨hqun, oq', hoq', hallq⟩ := ready_iff.1 hr
      have : oq' = oq := Option.some.inj (hoq'.symm.trans hoq)
      subst this
      have hqf : listed.getD q false = false := zcC hqun
      have hjf : listed.getD j false = false := zcC hjun
      have hnot : ∀ e ∈ oj.after, Region.binds .any e = true → e.on ≠ q := fun e he hb heq => by
        have h1 := hall e he hb
        rw [heq, hqf] at h1; cases h1
      have hap := hfree j oj hoj hjq hjun hnot
      obtain ⟨_, _, h3⟩ := Oper.apart_spec hap
      have h2 := zhA hoj hap h1
      refine zaU h2 fun t' H' hk => ?_
      obtain ⟨⟨u, rfl⟩, hs, hk⟩ := hk
      refine ⟨hs, ih (listed.setIfInBounds j true) _ H' (hc.set hj) ?_ (ready_mono hr (Ne.symm hjq)) (hsf.upd h3) ?_ ?_⟩
      · intro k ok hk2 hkq hun hno
        refine hfree k ok hk2 hkq ?_ hno
        by_cases hjk : j = k
        · subst hjk; exact hjun
        · rw [getD_set_ne true hjk] at hun; exact hun
      · by_cases hb : za2 oq'.op = true
        · exact (hy.later (H' := H') hqt (.inl hb)).upd h3
        · refine (hy.safe (H' := H') hsf ?_).upd h3
          rcases hs with hs | hs
          · rcases zg0 hs hoq (Ne.symm hjq) hqt (by simpa using hb) with hbf | hbf
            · have := hc.bef ops.size j oj hoj hall hbf
              rw [hqf] at this; cases this
            · have := hc.bef ops.size q oq' hoq hallq hbf
              rw [hjf] at this; cases this
          · exact hs
      · rw [Array.setIfInBounds_comm _ _ hjq]
        exact hk
def zdX (P : Program) (ops : Array Oper) (S : Nat → Prop) (Q : T → AH → Prop) : List Nat → T → AH → Prop
  | [], t, H => Q t H
  | i :: is, t, H =>
    match ops.toList[i]? with
    | none => False
    | some o =>
      if za0 o.op = true then Safe P S t o.op ∧ aStep P ops.toList i t H (zdX P ops S Q is)
      else aStep P ops.toList i t H fun t' H' => (sinkB ops i = true ∨ LES S H H') ∧ zdX P ops S Q is t' H'
theorem zfK {P : Program} {ops : Array Oper} {S : Nat → Prop} {Q : T → AH → Prop} : ∀ (is : List Nat) (listed : Array Bool) (t : T) (H : AH) (f : Nat), is.length ≤ f → Closed ops listed → okOrd ops is listed = true → zdX P ops S Q is t H → AAnyS P ops S Q f listed t H
  | [], listed, t, H, f, _, _, hok, h => by
    have hr : Region.ready .any ops listed = [] := by simpa [okOrd] using hok
    cases f with
    | zero => exact ⟨hr, h⟩
    | succ f => exact ⟨fun _ => h, by rw [hr]; simp⟩
  | i :: is, listed, t, H, 0, hl, _, _, _ => by simp at hl
  | i :: is, listed, t, H, f + 1, hl, hc, hok, h => by
    simp only [okOrd, Bool.and_eq_true] at hok
    obtain ⟨h1, h2⟩ := hok
    unfold zdX at h
    cases ho : ops[i]? with
    | none => simp [ho] at h1
    | some o =>
      have e : ops.toList[i]? = some o := by simpa using ho
      simp only [ho] at h1
      rw [e] at h
      simp only at h
      split at h1
      · rename_i hq
        rw [if_pos hq] at h
        simp only [Bool.and_eq_true] at h1
        obtain ⟨hr, hfr⟩ := h1
        have hr' : i ∈ Region.ready .any ops listed := by simpa using hr
        obtain ⟨v, hy, hk⟩ := zbZ ho hq h.2
        exact zdO ho hq f listed t H hc (Region.free_spec ho hfr) hr' h.1 hy (zfK is _ _ H f (by simp at hl; omega) (hc.set hr') h2 hk)
      · rename_i hq
        rw [if_neg hq] at h
        have hr : Region.ready .any ops listed = [i] := by simpa using h1
        refine ⟨fun h0 => (by rw [hr] at h0; cases h0), fun j hj => ?_⟩
        have hji : j = i := by rw [hr] at hj; simpa using hj
        subst hji
        exact zaU h fun t' H' hk => ⟨hk.1, zfK is _ t' H' f (by simp at hl; omega) (hc.set hj) h2 hk.2⟩
theorem zfG {P : Program} {ops : Array Oper} {S : Nat → Prop} {Q : T → AH → Prop} {QC : Exit → Act → World → Prop} {base : Nat} :
    ∀ (f : Nat) (listed : Array Bool) (t : T) (H : AH) (ρ : Nat → Nat) (w : World) (tmps : Array Value), AAnyS P ops S Q f listed t H → St base ρ t H tmps w → (∀ o ∈ ops.toList, ∀ i, o.dst = some i → i < tmps.size) →
      (∀ t' H' ρ' w' tmps', Q t' H' → St base ρ' t' H' tmps' w' → Ext base ρ H.next w ρ' H'.next w' → tmps'.size = tmps.size → QC .normal ⟨tmps', []⟩ w') →
      wpAny P .any ops QC f listed ⟨tmps, []⟩ w
  | 0, listed, t, H, ρ, w, tmps, h, hS, _, hQ => ⟨h.1, hQ t H ρ w tmps h.2 hS (Ext.refl _ _ _ _) rfl⟩
  | f + 1, listed, t, H, ρ, w, tmps, h, hS, hd, hQ => by
    refine ⟨fun h0 => hQ t H ρ w tmps (h.1 h0) hS (Ext.refl _ _ _ _) rfl, fun i hi => ?_⟩
    have hstep := h.2 i hi
    obtain ⟨_, o, ho, _⟩ := ready_iff.1 hi
    have e : ops.toList[i]? = some o := by simpa using ho
    have hom : o ∈ ops.toList := List.mem_of_getElem? e
    unfold aStep at hstep
    rw [e] at hstep
    simp only at hstep
    have hgo : ∀ v v' H' ρ' w', AAnyS P ops S Q f (listed.setIfInBounds i true) (updO t o.dst v) H' → Rel base ρ' H' w' → Ext base ρ H.next w ρ' H'.next w' → VR ρ' H'.next w' v v' →
        wpAny P .any ops QC f (listed.setIfInBounds i true) (Act.put ⟨tmps, []⟩ o.dst v') w' := by
      intro v v' H' ρ' w' hK R' E hV
      rw [put_eta]
      refine zfG f _ _ H' ρ' w' _ hK ⟨R', (hS.2.ext E).put hV o.dst (hd o hom)⟩ (fun o' ho' k hk => by rw [zdN]; exact hd o' ho' k hk) ?_
      intro t' H'' ρ'' w'' tmps' hq hs he hz
      exact hQ t' H'' ρ'' w'' tmps' hq hs (E.trans he) (by rw [hz, zdN])
    have hall := wp_one (P := P) (QC := QC) ops i o ho hS (hnext := fun a w' => wpAny P .any ops QC f (listed.setIfInBounds i true) a w') hgo
      (K := fun v H' => AAnyS P ops S Q f (listed.setIfInBounds i true) (updO t o.dst v) H')
    refine hall ?_
    cases hg : o.guard with
    | none =>
      simp only [hg] at hstep ⊢
      exact zaG (fun v H' hk => hk.2) _ hstep
    | some g =>
      simp only [hg] at hstep ⊢
      exact zb7 hstep (zaG (fun v H' hk => hk.2) _) (fun hk => hk.2)
theorem draw_okS {P : Program} {id : Nat} {ops : Array Oper} {Q : Exit → T → AH → Prop} {t : T} {H : AH} (S : Nat → Prop) (is : List Nat) (hm : P.follows .mixedOrders = true) (hok : okOrd ops is (Array.replicate ops.size false) = true) (hl : is.length = ops.size)
    (h : zdX P ops S (Q .normal) is t H) : awp P (.region id ops true) Q t H := by
  intro base ρ w tmps QC hS hd hQ
  have hA := zfK is _ t H ops.size (by omega) ⟨by simp, fun j oj hj hl => by rw [zb4] at hl; cases hl⟩ hok h
  refine wp_region_any hm (zfG ops.size _ t H ρ w.drew tmps hA ⟨hS.1.drew, hS.2.ext (zc9 (base := base) (H := H) w)⟩ ?_ fun t' H' ρ' w' tmps' hq hs he hz => ?_)
  · intro o ho i hi
    have := List.all_eq_true.1 hd o ho
    simp only [hi, decide_eq_true_eq] at this
    exact this
  · exact hQ .normal t' H' ρ' w' tmps' hq hs ((zc9 (base := base) (H := H) (ρ := ρ) w).trans he) hz
def stepIS (P : Program) (ops : Array Oper) (S : Nat → Prop) (K : T → AH → Prop) (i : Nat) : Option Oper → T → AH → (fun _ => Prop) (ops, K, i)
  | none, _, _ => False
  | some o, t, H =>
    match o.guard with
    | none => loadOk S t o.op ∧ runOut P H (evalOp P t H o.op) fun v H' => (za0 o.op = true ∨ sinkB ops i = true ∨ LES S H H') ∧ K (updO t o.dst v) H'
    | some g => loadOk S t o.op ∧ condW (gv ops.toList t g.1) g.2 (runOut P H (evalOp P t H o.op) fun v H' => (za0 o.op = true ∨ sinkB ops i = true ∨ LES S H H') ∧ K (updO t o.dst v) H') (K (updO t o.dst undef) H)
def awpIS (P : Program) (ops : Array Oper) (S : Nat → Prop) (Q : T → AH → Prop) : (is : List Nat) → T → AH → (fun _ => Prop) (ops, Q, is)
  | [], t, H => Q t H
  | i :: is, t, H => stepIS P ops S (awpIS P ops S Q is) i (ops.toList[i]?) t H
theorem zh9 {P : Program} {ops : Array Oper} {S : Nat → Prop} {Q : T → AH → Prop} : ∀ (is : List Nat) (t : T) (H : AH), awpIS P ops S Q is t H → zdX P ops S Q is t H
  | [], t, H, h => h
  | i :: is, t, H, h => by
    have ih := fun t H => zh9 (P := P) (ops := ops) (S := S) (Q := Q) is t H
    unfold awpIS at h
    unfold zdX
    cases e : ops.toList[i]? with
    | none => rw [e] at h; exact h.elim
    | some o =>
    rw [e] at h
    unfold stepIS at h
    have hs : ∀ K K' : T → AH → Prop, (∀ v H', K (updO t o.dst v) H' → K' (updO t o.dst v) H') → (∀ H', K (updO t o.dst undef) H' → K' (updO t o.dst undef) H') → aStep P ops.toList i t H K → aStep P ops.toList i t H K' := by
      intro K K' k1 k2 hh
      unfold aStep at hh ⊢
      rw [e] at hh ⊢
      simp only at hh ⊢
      cases hg : o.guard with
      | none => simp only [hg] at hh ⊢; exact zaG (fun v H' => k1 v H') _ hh
      | some g => simp only [hg] at hh ⊢; exact zb7 hh (zaG (fun v H' => k1 v H') _) (k2 H)
    have hload : loadOk S t o.op := by
      cases hg : o.guard <;> simp only [hg] at h <;> exact h.1
    have base : aStep P ops.toList i t H fun t' H' => (za0 o.op = true ∨ sinkB ops i = true ∨ LES S H H') ∧ zdX P ops S Q is t' H' := by
      unfold aStep
      rw [e]
      simp only
      cases hg : o.guard with
      | none => simp only [hg] at h ⊢; exact zaG (fun v H' k => ⟨k.1, ih _ _ k.2⟩) _ h.2
      | some g => simp only [hg] at h ⊢; exact zb7 h.2 (zaG (fun v H' k => ⟨k.1, ih _ _ k.2⟩) _) (fun k => ⟨.inr (.inr (LES.refl S H)), ih _ _ k⟩)
    simp only
    split
    · rename_i hqq
      exact ⟨zi6 hqq hload, hs _ _ (fun v H' k => k.2) (fun H' k => k.2) base⟩
    · rename_i hq
      refine hs _ _ ?_ ?_ base
      · rintro v H' ⟨k | k, k2⟩
        · exact absurd k hq
        · exact ⟨k, k2⟩
      · rintro H' ⟨k | k, k2⟩
        · exact absurd k hq
        · exact ⟨k, k2⟩
theorem zc1 {P : Program} {id : Nat} {ops : Array Oper} {Q : Exit → T → AH → Prop} {t : T} {H : AH} (S : Nat → Prop) (is : List Nat) (hm : P.follows .mixedOrders = true) (hok : okOrd ops is (Array.replicate ops.size false) = true) (hl : is.length = ops.size)
    (h : awpIS P ops S (Q .normal) is t H) : awp P (.region id ops true) Q t H := draw_okS S is hm hok hl (zh9 is _ _ h)
theorem zaI (P : Program) (ops : Array Oper) (S : Nat → Prop) (Q : T → AH → Prop) (t : T) (H : AH) : awpIS P ops S Q [] t H = Q t H := (rfl)
theorem zaD (P : Program) (ops : Array Oper) (S : Nat → Prop) (Q : T → AH → Prop) (i : Nat) (is : List Nat) (t : T) (H : AH) : awpIS P ops S Q (i :: is) t H = stepIS P ops S (awpIS P ops S Q is) i (ops.toList[i]?) t H := (rfl)
theorem zaC (P : Program) (ops : Array Oper) (S : Nat → Prop) (K : T → AH → Prop) (i : Nat) (d : Option Tmp) (op : Op) (ty : TypeId) (pos : String) (af : Array Edge) (t : T) (H : AH) :
    stepIS P ops S K i (some ⟨d, op, ty, pos, af, none⟩) t H = (loadOk S t op ∧ runOut P H (evalOp P t H op) fun v H' => (za0 op = true ∨ sinkB ops i = true ∨ LES S H H') ∧ K (updO t d v) H') := (rfl)
@[congr] theorem stepIS_congr {P : Program} {ops : Array Oper} {S : Nat → Prop} {K : T → AH → Prop} {i : Nat} {o o' : Option Oper} {t t' : T} {H H' : AH} (ho : o = o') (h : t = t') (k : H = H') : stepIS P ops S K i o t H = stepIS P ops S K i o' t' H' := by rw [ho, h, k]
@[congr] theorem awpIS_congr {P : Program} {ops : Array Oper} {S : Nat → Prop} {is : List Nat} {Q : T → AH → Prop} {t t' : T} {H H' : AH} (h : t = t') (k : H = H') : awpIS P ops S Q is t H = awpIS P ops S Q is t' H' := by rw [h, k]
end Go.Abs
end

section
namespace Go.Abs
open Go Go.RowKit
def awpTS (P : Program) (ops : Array Oper) (S : Nat → Prop) (Q : T → AH → Prop) : (ot : OT) → T → AH → (fun _ => Prop) (ops, Q, ot)
  | .nil, t, H => Q t H
  | .one i r, t, H => stepIS P ops S (awpTS P ops S Q r) i (ops.toList[i]?) t H
  | .two i j a b, t, H => stepIS P ops S (awpTS P ops S Q a) i (ops.toList[i]?) t H ∧ stepIS P ops S (awpTS P ops S Q b) j (ops.toList[j]?) t H
  | .three i j k a b c, t, H => stepIS P ops S (awpTS P ops S Q a) i (ops.toList[i]?) t H ∧ stepIS P ops S (awpTS P ops S Q b) j (ops.toList[j]?) t H ∧ stepIS P ops S (awpTS P ops S Q c) k (ops.toList[k]?) t H
theorem zfB {P : Program} {ops : Array Oper} {S : Nat → Prop} {K : T → AH → Prop} {i : Nat} {t : T} {H : AH} (h : stepIS P ops S K i (ops.toList[i]?) t H) :
    (∃ o, ops.toList[i]? = some o ∧ loadOk S t o.op) ∧ aStep P ops.toList i t H fun t' H' => ((∃ o, ops.toList[i]? = some o ∧ za0 o.op = true) ∨ sinkB ops i = true ∨ LES S H H') ∧ K t' H' := by
  unfold aStep
  cases e : ops.toList[i]? with
  | none => rw [e] at h; exact h.elim
  | some o =>
    rw [e] at h
    unfold stepIS at h
    simp only
    cases hg : o.guard with
    | none => simp only [hg] at h ⊢; exact ⟨⟨o, rfl, h.1⟩, zaG (fun v H' k => ⟨k.1.imp (fun q => ⟨o, rfl, q⟩) id, k.2⟩) _ h.2⟩
    | some g => simp only [hg] at h ⊢; exact ⟨⟨o, rfl, h.1⟩, zb7 h.2 (zaG (fun v H' k => ⟨k.1.imp (fun q => ⟨o, rfl, q⟩) id, k.2⟩) _) (fun k => ⟨.inr (.inr (LES.refl S H)), k⟩)⟩
theorem zc6 {P : Program} {ops : Array Oper} {S : Nat → Prop} {K : T → AH → Prop} {i : Nat} {t : T} {H : AH} (h : stepIS P ops S K i (ops.toList[i]?) t H) :
    aStep P ops.toList i t H fun t' H' => (sinkB ops i = true ∨ LES S H H') ∧ K t' H' := by
  cases e : ops.toList[i]? with
  | none => rw [e] at h; exact h.elim
  | some o =>
    by_cases hq : za0 o.op = true
    · have ho : ops[i]? = some o := by simpa using e
      obtain ⟨v, hy, hk⟩ := zbZ ho hq (zfB h).2
      exact hy.step ho hq ⟨.inr (LES.refl _ _), hk.2⟩
    · refine zaU (zfB h).2 fun t' H' hk => ⟨?_, hk.2⟩
      rcases hk.1 with ⟨o', e', q'⟩ | k
      · rw [e] at e'; cases e'; exact absurd q' hq
      · exact k
theorem zbN {P : Program} {ops : Array Oper} {S : Nat → Prop} {Q : T → AH → Prop} : ∀ (ot : OT) (listed : Array Bool) (t : T) (H : AH) (f : Nat), ot.depth ≤ f → Closed ops listed → okOT ops ot listed = true → awpTS P ops S Q ot t H → AAnyS P ops S Q f listed t H
  | .nil, listed, t, H, f, _, _, hok, h => by
    have hr : Region.ready .any ops listed = [] := by simpa [okOT] using hok
    cases f with
    | zero => exact ⟨hr, h⟩
    | succ f => exact ⟨fun _ => h, by rw [hr]; simp⟩
  | .one i r, listed, t, H, 0, hl, _, _, _ => by simp [OT.depth] at hl
  | .two i j a b, listed, t, H, 0, hl, _, _, _ => by simp [OT.depth] at hl
  | .three i j k a b c, listed, t, H, 0, hl, _, _, _ => by simp [OT.depth] at hl
  | .one i r, listed, t, H, f + 1, hl, hc, hok, h => by
    simp only [okOT, Bool.and_eq_true] at hok
    simp only [OT.depth] at hl
    obtain ⟨h1, h2⟩ := hok
    unfold awpTS at h
    cases ho : ops[i]? with
    | none => simp [ho] at h1
    | some o =>
      simp only [ho] at h1
      split at h1
      · rename_i hq
        simp only [Bool.and_eq_true] at h1
        obtain ⟨hr, hfr⟩ := h1
        have hr' : i ∈ Region.ready .any ops listed := by simpa using hr
        obtain ⟨v, hy, hk⟩ := zbZ ho hq (zc6 h)
        obtain ⟨⟨o', e', hl'⟩, _⟩ := zfB h
        have eo : o' = o := by
          have e2 : ops.toList[i]? = some o := by simpa using ho
          exact Option.some.inj (e'.symm.trans e2)
        subst eo
        exact zdO ho hq f listed t H hc (Region.free_spec ho hfr) hr' (zi6 hq hl') hy (zbN r _ _ H f (by omega) (hc.set hr') h2 hk.2)
      · have hr : Region.ready .any ops listed = [i] := by simpa using h1
        refine ⟨fun h0 => (by rw [hr] at h0; cases h0), fun j hj => ?_⟩
        have hji : j = i := by rw [hr] at hj; simpa using hj
        subst hji
        exact zaU (zc6 h) fun t' H' hk => ⟨hk.1, zbN r _ t' H' f (by omega) (hc.set hj) h2 hk.2⟩
  | .two i j a b, listed, t, H, f + 1, hl, hc, hok, h => by
    simp only [okOT, Bool.and_eq_true] at hok
    simp only [OT.depth] at hl
    obtain ⟨⟨h1, h2⟩, h3⟩ := hok
    unfold awpTS at h
    have hr : Region.ready .any ops listed = [i, j] := by simpa using h1
    refine ⟨fun h0 => (by rw [hr] at h0; cases h0), fun x hx => ?_⟩
    have hx2 : x = i ∨ x = j := by rw [hr] at hx; simpa using hx
    rcases hx2 with rfl | rfl
    · exact zaU (zc6 h.1) fun t' H' hk => ⟨hk.1, zbN a _ t' H' f (by omega) (hc.set hx) h2 hk.2⟩
    · exact zaU (zc6 h.2) fun t' H' hk => ⟨hk.1, zbN b _ t' H' f (by omega) (hc.set hx) h3 hk.2⟩
  | .three i j k a b c, listed, t, H, f + 1, hl, hc, hok, h => by
    simp only [okOT, Bool.and_eq_true] at hok
    simp only [OT.depth] at hl
    obtain ⟨⟨⟨h1, h2⟩, h3⟩, h4⟩ := hok
    unfold awpTS at h
    have hr : Region.ready .any ops listed = [i, j, k] := by simpa using h1
    refine ⟨fun h0 => (by rw [hr] at h0; cases h0), fun x hx => ?_⟩
    have hx2 : x = i ∨ x = j ∨ x = k := by rw [hr] at hx; simpa using hx
    rcases hx2 with rfl | rfl | rfl
    · exact zaU (zc6 h.1) fun t' H' hk => ⟨hk.1, zbN a _ t' H' f (by omega) (hc.set hx) h2 hk.2⟩
    · exact zaU (zc6 h.2.1) fun t' H' hk => ⟨hk.1, zbN b _ t' H' f (by omega) (hc.set hx) h3 hk.2⟩
    · exact zaU (zc6 h.2.2) fun t' H' hk => ⟨hk.1, zbN c _ t' H' f (by omega) (hc.set hx) h4 hk.2⟩
theorem draw_treeS {P : Program} {id : Nat} {ops : Array Oper} {Q : Exit → T → AH → Prop} {t : T} {H : AH} (S : Nat → Prop) (ot : OT) (hm : P.follows .mixedOrders = true) (hok : okOT ops ot (Array.replicate ops.size false) = true) (hl : ot.depth ≤ ops.size)
    (h : awpTS P ops S (Q .normal) ot t H) : awp P (.region id ops true) Q t H := by
  intro base ρ w tmps QC hS hd hQ
  have hA := zbN ot _ t H ops.size hl ⟨by simp, fun j oj hj hl => by rw [zb4] at hl; cases hl⟩ hok h
  refine wp_region_any hm (zfG ops.size _ t H ρ w.drew tmps hA ⟨hS.1.drew, hS.2.ext (zc9 (base := base) (H := H) w)⟩ ?_ fun t' H' ρ' w' tmps' hq hs he hz => ?_)
  · intro o ho i hi
    have := List.all_eq_true.1 hd o ho
    simp only [hi, decide_eq_true_eq] at this
    exact this
  · exact hQ .normal t' H' ρ' w' tmps' hq hs ((zc9 (base := base) (H := H) (ρ := ρ) w).trans he) hz
theorem zb5 (P : Program) (ops : Array Oper) (S : Nat → Prop) (Q : T → AH → Prop) (t : T) (H : AH) : awpTS P ops S Q .nil t H = Q t H := (rfl)
theorem zb6 (P : Program) (ops : Array Oper) (S : Nat → Prop) (Q : T → AH → Prop) (i : Nat) (r : OT) (t : T) (H : AH) : awpTS P ops S Q (.one i r) t H = stepIS P ops S (awpTS P ops S Q r) i (ops.toList[i]?) t H := (rfl)
theorem zhK {P : Program} {ops : Array Oper} {S : Nat → Prop} {Q : T → AH → Prop} {i j : Nat} {a b : OT} {t : T} {H : AH} (h : stepIS P ops S (awpTS P ops S Q a) i (ops.toList[i]?) t H) (k : stepIS P ops S (awpTS P ops S Q b) j (ops.toList[j]?) t H) : awpTS P ops S Q (.two i j a b) t H := ⟨h, k⟩
theorem zaM (P : Program) (ops : Array Oper) (S : Nat → Prop) (Q : T → AH → Prop) (r : OT) (t : T) (H : AH) : awpTS P ops S Q (OT.run [] r) t H = awpTS P ops S Q r t H := (rfl)
theorem zaH (P : Program) (ops : Array Oper) (S : Nat → Prop) (Q : T → AH → Prop) (i : Nat) (is : List Nat) (r : OT) (t : T) (H : AH) : awpTS P ops S Q (OT.run (i :: is) r) t H = stepIS P ops S (awpTS P ops S Q (OT.run is r)) i (ops.toList[i]?) t H := (rfl)
@[congr] theorem awpTS_congr {P : Program} {ops : Array Oper} {S : Nat → Prop} {ot : OT} {Q : T → AH → Prop} {t t' : T} {H H' : AH} (h : t = t') (k : H = H') : awpTS P ops S Q ot t H = awpTS P ops S Q ot t' H' := by rw [h, k]
end Go.Abs
end

section
set_option maxRecDepth 100000
set_option maxHeartbeats 2000000
namespace Go.Proofs.YtemgclojolmhbaaGreat.A
open Go Go.Abs Go.RowKit
structure CallT (n g : Nat) (cb : FuncId) (caps : List Value) (b0 : Nat) {σ : Type} (Inv Fin : σ → AH → Prop) (step : σ → List Int → Bool × σ) : Prop where
  low : ∀ s H H', Inv s H → (∀ i, i < b0 → H'.row i = H.row i) → Inv s H'
  call : ∀ s r v H, Inv s H → b0 ≤ H.next → Sc H → PreN n g r → r.length = n → Rs 1 H v n r → ACalls Tryz.prog cb (v :: caps) H (fun u H' => u = .bool (step s r).1 ∧ H.next ≤ H'.next ∧ Sc H' ∧ (∀ i, b0 ≤ i → i < H.next → H'.row i = H.row i) ∧ ((step s r).1 = true → Inv (step s r).2 H') ∧ ((step s r).1 = false → FinAt b0 H.next (Fin (step s r).2) H'))
structure CellsT where
  nc : Nat
  gc : Nat
  wc : Nat
  mc : Nat
  uc : Nat
  pc : Nat
  lc : Nat
  ui : Nat
def CellsT.caps (c : CellsT) : List Value := [.pointer (some ⟨c.lc, 0, none⟩), .pointer (some ⟨c.nc, 0, none⟩), .pointer (some ⟨c.wc, 0, none⟩), .pointer (some ⟨c.gc, 0, none⟩), .pointer (some ⟨c.uc, 0, none⟩), .pointer (some ⟨c.mc, 0, none⟩), .pointer (some ⟨c.pc, 0, none⟩)]
theorem sizeT_c (v : Value) (y : List Int) (H : AH) (hv : Rd 1 H v y.length y) (hy : y.length ≤ 4294967296) : ACalls Tryz.prog 58 [v] H (is (.int .i64 y.length) H) := by
  refine za3 [.tmp 2] Tryz.func58 (by kernel_rfl) rfl rfl (Nat.le_of_ble_eq_true rfl) (by kernel_rfl) ?_
  have hl := hv.len
  try simp (disch := first | omega | (simp only [za1, List.length_replicate, List.length_set, zb3, zbA] <;> omega)) only [Sall,evalOp,init,binA_s,binE,binI,unE,convE,okNil,builtE,gv,TD.isAgg,resV,↓reduceIte,Nat.reduceEqDiff,reduceCtorEq,Nat.reduceAdd,Nat.reduceMul,Nat.reduceLeDiff,za0,za2,Int.reduceEq,Int.reduceLT,Int.reduceLE,Nat.reduceLT,tiA,tiXA, builtE, hl, is]
theorem indexFuncM_c (g : FuncId) (cap : List Value) (p : Int → Bool) (v : Value) (k : Nat) (l : List Int) (H : AH) (hv : Rd 1 H v k l) (hk : k ≤ 4294967296)
    (hp : ∀ x : Int, x ∈ l → ACalls Tryz.prog g (.int .i64 x :: cap) H (is (.bool (p x)) H)) :
    ACalls Tryz.prog 85 [v, .func (.func g) #[] cap.toArray] H (is (.int .i64 (firstI (fun i => p (l.getD i 0)) k)) H) := by
  have hlk := hv.lenK1
  refine za3 [.tmp 4] Tryz.func85 (by kernel_rfl) rfl rfl (Nat.le_of_ble_eq_true rfl) (by kernel_rfl) ?_
  try simp (disch := first | omega | (simp only [za1, List.length_replicate, List.length_set, zb3, zbA] <;> omega)) only [Sall,evalOp,init,binA_s,binE,binI,unE,convE,okNil,builtE,gv,TD.isAgg,resV,↓reduceIte,Nat.reduceEqDiff,reduceCtorEq,Nat.reduceAdd,Nat.reduceMul,Nat.reduceLeDiff,za0,za2,Int.reduceEq,Int.reduceLT,Int.reduceLE,Nat.reduceLT,tiA, builtE, hv.len]
  refine za5 (fun m t H' => ∃ a : Nat, m = k - a ∧ a ≤ k ∧ t 8 = .int .i64 a ∧ t 7 = .int .i64 k ∧ t 0 = v ∧ t 1 = .func (.func g) #[] cap.toArray ∧ H' = H ∧ (∀ x, x < a → p (l.getD x 0) = false)) k ?_ ?_
  · refine ⟨0, by omega, by omega, ?_⟩
    try simp (disch := first | omega | (simp only [za1, List.length_replicate, List.length_set, zb3, zbA] <;> omega)) only [Sall,evalOp,init,binA_s,binE,binI,unE,convE,okNil,builtE,gv,TD.isAgg,resV,↓reduceIte,Nat.reduceEqDiff,reduceCtorEq,Nat.reduceAdd,Nat.reduceMul,Nat.reduceLeDiff,za0,za2,Int.reduceEq,Int.reduceLT,Int.reduceLE,Nat.reduceLT,tiA, Int.natCast_zero, Nat.not_lt_zero, false_implies]
  · rintro m t H' ⟨a, hm, h14, h8, h7, h0, h1, rfl, hall⟩
    try simp (disch := first | omega | (simp only [za1, List.length_replicate, List.length_set, zb3, zbA] <;> omega)) only [Sall,evalOp,init,binA_s,binE,binI,unE,convE,okNil,builtE,gv,TD.isAgg,resV,↓reduceIte,Nat.reduceEqDiff,reduceCtorEq,Nat.reduceAdd,Nat.reduceMul,Nat.reduceLeDiff,za0,za2,Int.reduceEq,Int.reduceLT,Int.reduceLE,Nat.reduceLT,tiA, h8, h7]
    refine za4 (fun h => ?_) (fun h => ?_)
    · obtain ⟨i, o, u, c, r, rfl, hr, hc, hs1, hg⟩ := hv.get (by omega)
      try simp (disch := first | omega | (simp only [za1, List.length_replicate, List.length_set, zb3, zbA] <;> omega)) only [Sall,evalOp,init,binA_s,binE,binI,unE,convE,okNil,builtE,gv,TD.isAgg,resV,↓reduceIte,Nat.reduceEqDiff,reduceCtorEq,Nat.reduceAdd,Nat.reduceMul,Nat.reduceLeDiff,za0,za2,Int.reduceEq,Int.reduceLT,Int.reduceLE,Nat.reduceLT,tiA, h8, h7, h0, h1, hr, hs1]
      refine ⟨⟨by omega, by omega⟩, (hp _ (ze2 (by omega))).to ?_⟩
      cases hb : p (l.getD a 0) with
      | true =>
        try simp (disch := first | omega | (simp only [za1, List.length_replicate, List.length_set, zb3, zbA] <;> omega)) only [Sall,evalOp,init,binA_s,binE,binI,unE,convE,okNil,builtE,gv,TD.isAgg,resV,↓reduceIte,Nat.reduceEqDiff,reduceCtorEq,Nat.reduceAdd,Nat.reduceMul,Nat.reduceLeDiff,za0,za2,Int.reduceEq,Int.reduceLT,Int.reduceLE,Nat.reduceLT,tiA, h8, h7, h0, h1, is]
        rw [zfI (p := fun i => p (l.getD i 0)) (by omega) hb hall]
      | false =>
        try simp (disch := first | omega | (simp only [za1, List.length_replicate, List.length_set, zb3, zbA] <;> omega)) only [Sall,evalOp,init,binA_s,binE,binI,unE,convE,okNil,builtE,gv,TD.isAgg,resV,↓reduceIte,Nat.reduceEqDiff,reduceCtorEq,Nat.reduceAdd,Nat.reduceMul,Nat.reduceLeDiff,za0,za2,Int.reduceEq,Int.reduceLT,Int.reduceLE,Nat.reduceLT,tiA, h8, h7, h0, h1, w64]
        refine ⟨k - (a + 1), by omega, a + 1, rfl, by omega, by omega, fun x hx => ?_⟩
        by_cases e : x = a
        · rw [e]; exact hb
        · exact hall x (by omega)
    · try simp (disch := first | omega | (simp only [za1, List.length_replicate, List.length_set, zb3, zbA] <;> omega)) only [Sall,evalOp,init,binA_s,binE,binI,unE,convE,okNil,builtE,gv,TD.isAgg,resV,↓reduceIte,Nat.reduceEqDiff,reduceCtorEq,Nat.reduceAdd,Nat.reduceMul,Nat.reduceLeDiff,za0,za2,Int.reduceEq,Int.reduceLT,Int.reduceLE,Nat.reduceLT,tiA, is]
      rw [zdL (p := fun i => p (l.getD i 0)) fun x hx => hall x (by omega)]
theorem zd5 (g : FuncId) (cap : List Value) (p : Int → Bool) (v : Value) (k : Nat) (l : List Int) (H : AH) (hv : Rd 1 H v k l) (hk : k ≤ 4294967296)
    (hp : ∀ x : Int, x ∈ l → ACalls Tryz.prog g (.int .i64 x :: cap) H (is (.bool (p x)) H)) :
    ACalls Tryz.prog 59 [v, .func (.func g) #[] cap.toArray] H (is (.bool (l.any p)) H) := by
  have hlk := hv.lenK1
  refine za3 [.tmp 4] Tryz.func59 (by kernel_rfl) rfl rfl (Nat.le_of_ble_eq_true rfl) (by kernel_rfl) ?_
  try simp (disch := first | omega | (simp only [za1, List.length_replicate, List.length_set, zb3, zbA] <;> omega)) only [Sall,evalOp,init,binA_s,binE,binI,unE,convE,okNil,builtE,gv,TD.isAgg,resV,↓reduceIte,Nat.reduceEqDiff,reduceCtorEq,Nat.reduceAdd,Nat.reduceMul,Nat.reduceLeDiff,za0,za2,Int.reduceEq,Int.reduceLT,Int.reduceLE,Nat.reduceLT,tiA, true_and]
  refine (indexFuncM_c g cap p v k l H hv hk hp).to ?_
  have e : ((List.range k).any fun i => p (l.getD i 0)) = l.any p := by
    rw [Bool.eq_iff_iff, List.any_eq_true, List.any_eq_true]
    constructor
    · rintro ⟨i, hi, h⟩
      rw [List.mem_range] at hi
      exact ⟨_, ze2 (by omega), h⟩
    · rintro ⟨x, hx, h⟩
      obtain ⟨i, hi, rfl⟩ := List.mem_iff_getElem.1 hx
      refine ⟨i, List.mem_range.2 (by omega), ?_⟩
      rw [List.getD_eq_getElem?_getD, List.getElem?_eq_getElem hi]
      exact h
  try simp (disch := first | omega | (simp only [za1, List.length_replicate, List.length_set, zb3, zbA] <;> omega)) only [Sall,evalOp,init,binA_s,binE,binI,unE,convE,okNil,builtE,gv,TD.isAgg,resV,↓reduceIte,Nat.reduceEqDiff,reduceCtorEq,Nat.reduceAdd,Nat.reduceMul,Nat.reduceLeDiff,za0,za2,Int.reduceEq,Int.reduceLT,Int.reduceLE,Nat.reduceLT,tiA, is, ze8, e]
end Go.Proofs.YtemgclojolmhbaaGreat.A
end

section
namespace Go.Proofs.YtemgclojolmhbaaGreat.A
open Go Go.RowKit Go.Shelf
attribute [local go_sem] Oper.semAt_some
def IntsAt (n₀ : Nat) (W : World) (sv : Value) (zs : List Int) : Prop :=
  (∃ a cap, sv = .slice a 0 cap ∧ zs = []) ∨ ∃ b off cap, sv = .slice (some ⟨b, off, none⟩) zs.length cap ∧ b < n₀ ∧ ∀ j, j < zs.length → W.cell? ⟨b, off + j, none⟩ = some (.int .i64 (zs[j]?.getD 0))
theorem IntsAt.below {n₀ : Nat} {A B : World} (h : Below n₀ A B) {sv : Value} {zs : List Int} : IntsAt n₀ A sv zs → IntsAt n₀ B sv zs
  | .inl e => .inl e
  | .inr ⟨b, off, cap, e, hb, hc⟩ => .inr ⟨b, off, cap, e, hb, fun j hj => (h.cell (p := ⟨b, off + j, none⟩) hb).trans (hc j hj)⟩
end Go.Proofs.YtemgclojolmhbaaGreat.A
end

section
namespace Go.Proofs.YtemgclojolmhbaaGreat.A
open Go Go.RowKit Go.Shelf Go.Sort
open Go.Abs (zhP)
attribute [local go_sem] Oper.semAt_some
end Go.Proofs.YtemgclojolmhbaaGreat.A
end

section
namespace Go.Abs
open Go Go.RowKit
section
variable {base : Nat} {ρ : Nat → Nat} {H : AH} {w w' : World}
theorem bsz_lt {b k : Nat} (h : bsz w b = some k) : b < w.heap.size := by
  rcases Nat.lt_or_ge b w.heap.size with h' | h'
  · exact h'
  · simp [bsz, Array.getElem?_eq_none h'] at h
theorem zhO (hB : Below w.heap.size w w') {b k : Nat} (h : bsz w b = some k) : bsz w' b = some k := by
  have hb := bsz_lt h
  unfold bsz at *
  rw [hB.block b hb]; exact h
theorem Rel.below (R : Rel base ρ H w) (hB : Below w.heap.size w w') : Rel base ρ H w' ∧ Ext base ρ H.next w ρ H.next w' := by
  have E : Ext base ρ H.next w ρ H.next w' := ⟨Nat.le_refl _, fun _ _ => rfl, hB.mono R.sz, fun b k h => zhO hB h⟩
  refine ⟨⟨R.scope, fun i r h hb => ⟨(R.ro i r h hb).1, fun j v hv ho => ?_⟩, fun i r h hb => ?_, R.inj, Nat.le_trans R.sz hB.size⟩, E⟩
  · obtain ⟨v', a, b⟩ := (R.ro i r h hb).2 j v hv ho
    exact ⟨v', (hB.cell (p := ⟨ρ i, j, none⟩) (World.block_lt_of_cell? w _ a)).trans a, b.ext E⟩
  · obtain ⟨a, cs, b, c⟩ := R.rwr i r h hb
    exact ⟨a, cs, (hB.block _ (R.lt_heap h hb)).trans b, c.ext E⟩
theorem Rel.newRow (R : Rel base ρ H w) (hB : Below w.heap.size w w') {g : Nat} (hg : w.heap.size ≤ g) {ty : TypeId} {cs : Array Value} (hcs : w'.heap[g]? = some (.cells cs ty (0, 0))) {xs : List Value} (hx : L1 ρ H.next w xs (cs.toList.take xs.length)) :
    Rel base (ren ρ H.next g) (H.push ⟨ty, true, xs⟩) w' ∧ Ext base ρ H.next w (ren ρ H.next g) (H.push ⟨ty, true, xs⟩).next w' := by
  have old : ∀ i, i < H.next → ren ρ H.next g i = ρ i := fun i hi => by unfold ren; rw [if_neg (by omega)]
  have new : ren ρ H.next g H.next = g := by unfold ren; rw [if_pos rfl]
  have E : Ext base ρ H.next w (ren ρ H.next g) (H.next + 1) w' := ⟨Nat.le_succ _, old, hB.mono R.sz, fun b k h => zhO hB h⟩
  obtain ⟨R', _⟩ := R.below hB
  have hsz := R.sz
  refine ⟨⟨?_, ?_, ?_, ?_, R'.sz⟩, E⟩
  · intro i r hr
    rw [AH.push_row] at hr
    rw [AH.push_next]
    split at hr
    · omega
    · have := R.scope i r hr; omega
  · intro i r hr hb
    rw [AH.push_row] at hr
    split at hr
    · simp at hr; subst hr; simp at hb
    · have hi := R.scope i r hr
      rw [old i hi]
      obtain ⟨h1, h2⟩ := R.ro i r hr hb
      refine ⟨h1, fun j v hv ho => ?_⟩
      obtain ⟨v', a, b⟩ := h2 j v hv ho
      exact ⟨v', (hB.cell (p := ⟨ρ i, j, none⟩) (World.block_lt_of_cell? w _ a)).trans a, b.ext E⟩
  · intro i r hr hb
    rw [AH.push_row] at hr
    split at hr
    · rename_i e; subst e
      simp at hr; subst hr
      rw [new]
      exact ⟨by omega, cs, hcs, hx.ext E⟩
    · have hi := R.scope i r hr
      obtain ⟨a, cs', b, c⟩ := R.rwr i r hr hb
      rw [old i hi]
      exact ⟨a, cs', (hB.block _ (R.lt_heap hr hb)).trans b, c.ext E⟩
  · intro i j r s hr hs hb hc he
    rw [AH.push_row] at hr hs
    split at hr <;> split at hs
    · rename_i e1 e2; rw [e1, e2]
    · rename_i e1 e2
      have hj := R.scope j s hs
      rw [e1, new, old j hj] at he
      have := R.lt_heap hs hc
      omega
    · rename_i e1 e2
      have hi := R.scope i r hr
      rw [e2, new, old i hi] at he
      have := R.lt_heap hr hb
      omega
    · have hi := R.scope i r hr
      have hj := R.scope j s hs
      rw [old i hi, old j hj] at he
      exact R.inj i j r s hr hs hb hc he
end
end Go.Abs
end

section
set_option maxRecDepth 100000
set_option maxHeartbeats 2000000
namespace Go.Proofs.YtemgclojolmhbaaGreat.A
open Go Go.Abs Go.RowKit Go.Shelf Go.Sort
end Go.Proofs.YtemgclojolmhbaaGreat.A
end

section
namespace Go.Abs
def sqE (n i : Nat) (y : List Int) (j : Nat) : Int := Int.tmod ((i : Int) + y.getD j 0) n
def sqR (n : Nat) (y : List Int) (i c : Nat) : List Int := (List.range n).map fun j => if j < c then sqE n i y j else 0
def sqM (n : Nat) (y : List Int) (i c : Nat) : List (List Int) := (List.range n).map fun a => if a < i then sqR n y a n else if a = i then sqR n y a c else List.replicate n 0
theorem sqR_length (n : Nat) (y : List Int) (i c : Nat) : (sqR n y i c).length = n := by simp [sqR]
theorem sqM_length (n : Nat) (y : List Int) (i c : Nat) : (sqM n y i c).length = n := by simp [sqM]
def sqA (n : Nat) (y : List Int) (a : Nat) : List (List Int) := (List.range a).map fun i => sqR n y i n
def sqP (n : Nat) (y : List Int) (i c : Nat) : List Int := (List.range c).map fun j => sqE n i y j
theorem sqA_length (n : Nat) (y : List Int) (a : Nat) : (sqA n y a).length = a := by simp [sqA]
theorem sqP_length (n : Nat) (y : List Int) (i c : Nat) : (sqP n y i c).length = c := by simp [sqP]
end Go.Abs
end

section
set_option maxRecDepth 100000
set_option maxHeartbeats 2000000
namespace Go.Proofs.YtemgclojolmhbaaGreat.A
open Go Go.Abs Go.RowKit
end Go.Proofs.YtemgclojolmhbaaGreat.A
end

section
set_option maxRecDepth 100000
set_option maxHeartbeats 2000000
namespace Go.Proofs.YtemgclojolmhbaaGreat.A
open Go Go.Abs Go.RowKit
theorem indexFuncLL_c (g : FuncId) (cap : List Value) (p : List Int → Bool) (x : Value) (ll : List (List Int)) (H : AH) (hx : Rd2 1 H x ll) (hl : ll.length ≤ 4294967296)
    (hp : ∀ (y : Value) (r : List Int), r ∈ ll → Rd 1 H y r.length r → ACalls Tryz.prog g (y :: cap) H (is (.bool (p r)) H)) :
    ACalls Tryz.prog 84 [x, .func (.func g) #[] cap.toArray] H (is (.int .i64 (firstI (fun i => p (ll.getD i [])) ll.length)) H) := by
  refine za3 [.tmp 4] Tryz.func84 (by kernel_rfl) rfl rfl (Nat.le_of_ble_eq_true rfl) (by kernel_rfl) ?_
  try simp (disch := first | omega | (simp only [za1, List.length_replicate, List.length_set, zbE] <;> omega)) only [Sall,evalOp,init,binA_s,binE,binI,unE,convE,okNil,builtE,gv,TD.isAgg,resV,↓reduceIte,Nat.reduceEqDiff,reduceCtorEq,Nat.reduceAdd,Nat.reduceMul,Nat.reduceLeDiff,za0,za2,Int.reduceEq,Int.reduceLT,Int.reduceLE,Nat.reduceLT,tiA, builtE, hx.len]
  refine za5 (fun m t H' => ∃ a : Nat, m = ll.length - a ∧ a ≤ ll.length ∧ t 8 = .int .i64 a ∧ t 7 = .int .i64 ll.length ∧ t 0 = x ∧ t 1 = .func (.func g) #[] cap.toArray ∧ H' = H ∧ (∀ i, i < a → p (ll.getD i []) = false)) ll.length ?_ ?_
  · refine ⟨0, by omega, by omega, ?_⟩
    try simp (disch := first | omega | (simp only [za1, List.length_replicate, List.length_set, zbE] <;> omega)) only [Sall,evalOp,init,binA_s,binE,binI,unE,convE,okNil,builtE,gv,TD.isAgg,resV,↓reduceIte,Nat.reduceEqDiff,reduceCtorEq,Nat.reduceAdd,Nat.reduceMul,Nat.reduceLeDiff,za0,za2,Int.reduceEq,Int.reduceLT,Int.reduceLE,Nat.reduceLT,tiA, Int.natCast_zero, Nat.not_lt_zero, false_implies]
  · rintro m t H' ⟨a, hm, h14, h8, h7, h0, h1, rfl, hall⟩
    try simp (disch := first | omega | (simp only [za1, List.length_replicate, List.length_set, zbE] <;> omega)) only [Sall,evalOp,init,binA_s,binE,binI,unE,convE,okNil,builtE,gv,TD.isAgg,resV,↓reduceIte,Nat.reduceEqDiff,reduceCtorEq,Nat.reduceAdd,Nat.reduceMul,Nat.reduceLeDiff,za0,za2,Int.reduceEq,Int.reduceLT,Int.reduceLE,Nat.reduceLT,tiA, h8, h7]
    refine za4 (fun h => ?_) (fun h => ?_)
    · obtain ⟨i, o, u, c, r, y, my, rfl, hr, hy, hsx, hok⟩ := hx.get (j := a) (by omega)
      have hmm := hsx.lenK1
      rw [hmm] at hsx
      try simp (disch := first | omega | (simp only [za1, List.length_replicate, List.length_set, zbE] <;> omega)) only [Sall,evalOp,init,binA_s,binE,binI,unE,convE,okNil,builtE,gv,TD.isAgg,resV,↓reduceIte,Nat.reduceEqDiff,reduceCtorEq,Nat.reduceAdd,Nat.reduceMul,Nat.reduceLeDiff,za0,za2,Int.reduceEq,Int.reduceLT,Int.reduceLE,Nat.reduceLT,tiA, h8, h7, h0, h1, hr, hy, hok]
      (repeat refine And.intro (by omega) ?_)
      refine (hp y _ (getD_mem (ll := ll) (a := a) (by omega)) hsx).to ?_
      cases hb : p (ll.getD a []) with
      | true =>
        try simp (disch := first | omega | (simp only [za1, List.length_replicate, List.length_set, zbE] <;> omega)) only [Sall,evalOp,init,binA_s,binE,binI,unE,convE,okNil,builtE,gv,TD.isAgg,resV,↓reduceIte,Nat.reduceEqDiff,reduceCtorEq,Nat.reduceAdd,Nat.reduceMul,Nat.reduceLeDiff,za0,za2,Int.reduceEq,Int.reduceLT,Int.reduceLE,Nat.reduceLT,tiA, h8, h7, h0, h1, is]
        rw [zfI (p := fun i => p (ll.getD i [])) (by omega) hb hall]
      | false =>
        try simp (disch := first | omega | (simp only [za1, List.length_replicate, List.length_set, zbE] <;> omega)) only [Sall,evalOp,init,binA_s,binE,binI,unE,convE,okNil,builtE,gv,TD.isAgg,resV,↓reduceIte,Nat.reduceEqDiff,reduceCtorEq,Nat.reduceAdd,Nat.reduceMul,Nat.reduceLeDiff,za0,za2,Int.reduceEq,Int.reduceLT,Int.reduceLE,Nat.reduceLT,tiA, h8, h7, h0, h1, w64]
        refine ⟨ll.length - (a + 1), by omega, a + 1, rfl, by omega, by omega, fun x hx => ?_⟩
        by_cases e : x = a
        · rw [e]; exact hb
        · exact hall x (by omega)
    · try simp (disch := first | omega | (simp only [za1, List.length_replicate, List.length_set, zbE] <;> omega)) only [Sall,evalOp,init,binA_s,binE,binI,unE,convE,okNil,builtE,gv,TD.isAgg,resV,↓reduceIte,Nat.reduceEqDiff,reduceCtorEq,Nat.reduceAdd,Nat.reduceMul,Nat.reduceLeDiff,za0,za2,Int.reduceEq,Int.reduceLT,Int.reduceLE,Nat.reduceLT,tiA, is]
      rw [zdL (p := fun i => p (ll.getD i [])) fun x hx => hall x (by omega)]
theorem zcS (g : FuncId) (cap : List Value) (p : List Int → Bool) (x : Value) (ll : List (List Int)) (H : AH) (hx : Rd2 1 H x ll) (hl : ll.length ≤ 4294967296)
    (hp : ∀ (y : Value) (r : List Int), r ∈ ll → Rd 1 H y r.length r → ACalls Tryz.prog g (y :: cap) H (is (.bool (p r)) H)) :
    ACalls Tryz.prog 56 [x, .func (.func g) #[] cap.toArray] H (is (.bool ((List.range ll.length).any fun i => p (ll.getD i []))) H) := by
  refine za3 [.tmp 4] Tryz.func56 (by kernel_rfl) rfl rfl (Nat.le_of_ble_eq_true rfl) (by kernel_rfl) ?_
  try simp (disch := first | omega | (simp only [za1, List.length_replicate, List.length_set, zbE] <;> omega)) only [Sall,evalOp,init,binA_s,binE,binI,unE,convE,okNil,builtE,gv,TD.isAgg,resV,↓reduceIte,Nat.reduceEqDiff,reduceCtorEq,Nat.reduceAdd,Nat.reduceMul,Nat.reduceLeDiff,za0,za2,Int.reduceEq,Int.reduceLT,Int.reduceLE,Nat.reduceLT,tiA, true_and]
  refine (indexFuncLL_c g cap p x ll H hx hl hp).to ?_
  try simp (disch := first | omega | (simp only [za1, List.length_replicate, List.length_set, zbE] <;> omega)) only [Sall,evalOp,init,binA_s,binE,binI,unE,convE,okNil,builtE,gv,TD.isAgg,resV,↓reduceIte,Nat.reduceEqDiff,reduceCtorEq,Nat.reduceAdd,Nat.reduceMul,Nat.reduceLeDiff,za0,za2,Int.reduceEq,Int.reduceLT,Int.reduceLE,Nat.reduceLT,tiA, is, ze8]
theorem sizeLL_c (x : Value) (ll : List (List Int)) (H : AH) (hx : Rd2 1 H x ll) (hl : ll.length ≤ 4294967296) : ACalls Tryz.prog 55 [x] H (is (.int .i64 ll.length) H) := by
  refine za3 [.tmp 2] Tryz.func55 (by kernel_rfl) rfl rfl (Nat.le_of_ble_eq_true rfl) (by kernel_rfl) ?_
  try simp (disch := first | omega | (simp only [za1, List.length_replicate, List.length_set, zbE] <;> omega)) only [Sall,evalOp,init,binA_s,binE,binI,unE,convE,okNil,builtE,gv,TD.isAgg,resV,↓reduceIte,Nat.reduceEqDiff,reduceCtorEq,Nat.reduceAdd,Nat.reduceMul,Nat.reduceLeDiff,za0,za2,Int.reduceEq,Int.reduceLT,Int.reduceLE,Nat.reduceLT,tiA, builtE, hx.len, is]
end Go.Proofs.YtemgclojolmhbaaGreat.A
end

section
set_option maxRecDepth 100000
namespace Go.Proofs.YtemgclojolmhbaaGreat.A
open Go Go.Abs Go.RowKit
theorem zfT (H : AH) : ACalls Tryz.prog 37 [] H (is (.bool true) H) := by
  refine za3 [.tmp 0] Tryz.func37 (by kernel_rfl) rfl rfl (Nat.le_of_ble_eq_true rfl) (by kernel_rfl) ?_
  try simp (disch := first | omega | (simp only [za1, List.length_replicate] <;> omega)) only [Sall,evalOp,init,binA_s,binE,binI,unE,convE,okNil,builtE,gv,TD.isAgg,resV,↓reduceIte,Nat.reduceEqDiff,reduceCtorEq,Nat.reduceAdd,Nat.reduceMul,Nat.reduceLeDiff,za0,za2,Int.reduceEq,Int.reduceLT,Int.reduceLE,Nat.reduceLT,tiA, is]
def codeS (q : Int) (k : Nat) (l : List Int) (b : Bool) : Int := if schedB q k l = true then (if b = true then 0 else 2) else 1
theorem zbQ (q : Int) (v : Value) (k : Nat) (l : List Int) (g : FuncId) (cap : List Value) (b : Bool) (H : AH) (hv : Rd 14 H v k l) (hk : k ≤ 4294967296)
    (hg : ∀ H', Up H.next H H' → schedB q k l = true → ACalls Tryz.prog g cap H' (is (.bool b) H')) :
    ACalls Tryz.prog 36 [.agg #[.int .i64 q, v], .func (.func g) #[] cap.toArray] H (is (.int .i64 (codeS q k l b)) H) := by
  refine ACalls.wf (by kernel_rfl) fun hs => zaY rfl (za3 [.tmp 4] Tryz.func36 (by kernel_rfl) rfl rfl (Nat.le_of_ble_eq_true rfl) (by kernel_rfl) ?_)
  have up : Up H.next H (H.push ⟨26, true, [.int .i64 q, v]⟩) := (Up.refl _ H).push (Nat.le_refl _) _
  have e1 : (H.push ⟨26, true, [.int .i64 q, v]⟩).row H.next = some ⟨26, true, [.int .i64 q, v]⟩ := by rw [AH.push_row, if_pos rfl]
  have hv1 := hv.same (up.le hs).row
  have hone := hv.one
  try simp (disch := first | omega | (simp only [za1, List.length_replicate] <;> omega)) only [Sall,evalOp,init,binA_s,binE,binI,unE,convE,okNil,builtE,gv,TD.isAgg,resV,↓reduceIte,Nat.reduceEqDiff,reduceCtorEq,Nat.reduceAdd,Nat.reduceMul,Nat.reduceLeDiff,za0,za2,Int.reduceEq,Int.reduceLT,Int.reduceLE,Nat.reduceLT,tiA, true_and]
  refine (IsSchedule_c q v k l _ hv1 hk).to ?_
  unfold codeS
  by_cases hb : schedB q k l = true
  · try simp (disch := first | omega | (simp only [za1, List.length_replicate] <;> omega)) only [Sall,evalOp,init,binA_s,binE,binI,unE,convE,okNil,builtE,gv,TD.isAgg,resV,↓reduceIte,Nat.reduceEqDiff,reduceCtorEq,Nat.reduceAdd,Nat.reduceMul,Nat.reduceLeDiff,za0,za2,Int.reduceEq,Int.reduceLT,Int.reduceLE,Nat.reduceLT,tiA, hb, Bool.not_true]
    refine (hg _ up hb).to ?_
    cases b with
    | true =>
      try simp (disch := first | omega | (simp only [za1, List.length_replicate] <;> omega)) only [Sall,evalOp,init,binA_s,binE,binI,unE,convE,okNil,builtE,gv,TD.isAgg,resV,↓reduceIte,Nat.reduceEqDiff,reduceCtorEq,Nat.reduceAdd,Nat.reduceMul,Nat.reduceLeDiff,za0,za2,Int.reduceEq,Int.reduceLT,Int.reduceLE,Nat.reduceLT,tiA, Bool.not_true]
      rw [if_pos hb]
      exact ⟨rfl, up⟩
    | false =>
      try simp (disch := first | omega | (simp only [za1, List.length_replicate] <;> omega)) only [Sall,evalOp,init,binA_s,binE,binI,unE,convE,okNil,builtE,gv,TD.isAgg,resV,↓reduceIte,Nat.reduceEqDiff,reduceCtorEq,Nat.reduceAdd,Nat.reduceMul,Nat.reduceLeDiff,za0,za2,Int.reduceEq,Int.reduceLT,Int.reduceLE,Nat.reduceLT,tiA, Bool.not_false]
      rw [if_pos hb]
      exact ⟨rfl, up⟩
  · have hb' : schedB q k l = false := by simpa using hb
    try simp (disch := first | omega | (simp only [za1, List.length_replicate] <;> omega)) only [Sall,evalOp,init,binA_s,binE,binI,unE,convE,okNil,builtE,gv,TD.isAgg,resV,↓reduceIte,Nat.reduceEqDiff,reduceCtorEq,Nat.reduceAdd,Nat.reduceMul,Nat.reduceLeDiff,za0,za2,Int.reduceEq,Int.reduceLT,Int.reduceLE,Nat.reduceLT,tiA, hb', Bool.not_false]
    exact up
end Go.Proofs.YtemgclojolmhbaaGreat.A
end

section
namespace Go.Abs
def brO (x y : List Int) (a : Nat) : Int := if 0 ≤ y.getD a 0 ∧ y.getD a 0 = x.getD a 0 then 1 else 0
def bkI (V : List (List Int)) (a : Nat) : Nat → Int
  | 0 => 0
  | k + 1 => bkI V a k + brO (V.getD k []) (V.getD (k + 1) []) a
def bkL (n : Nat) (V : List (List Int)) : List Int := (List.range n).map fun a => bkI V a (V.length - 1)
def sumI (f : Nat → Int) : Nat → Int
  | 0 => 0
  | n + 1 => sumI f n + f n
theorem zgF (f : Nat → Int) : ∀ n, ((List.range n).map f).sum = sumI f n
  | 0 => rfl
  | n + 1 => by rw [List.range_succ, List.map_append, List.sum_append, zgF f n]; simp [sumI]
theorem sumI_add (f g : Nat → Int) : ∀ n, sumI (fun i => f i + g i) n = sumI f n + sumI g n
  | 0 => rfl
  | n + 1 => by
    show sumI (fun i => f i + g i) n + (f n + g n) = (sumI f n + f n) + (sumI g n + g n)
    rw [sumI_add f g n]; omega
theorem sumI_zero (n : Nat) : sumI (fun _ => 0) n = 0 := by
  induction n with
  | zero => rfl
  | succ n ih => show sumI _ n + 0 = 0; rw [ih]; rfl
theorem sumI_nn {f : Nat → Int} (h : ∀ i, 0 ≤ f i) : ∀ n, 0 ≤ sumI f n
  | 0 => Int.le_refl _
  | n + 1 => by have := sumI_nn h n; have := h n; show 0 ≤ sumI f n + f n; omega
def brk (n : Nat) (x y : List Int) : Int := sumI (brO x y) n
def totI (n : Nat) (V : List (List Int)) : Nat → Int
  | 0 => 0
  | k + 1 => totI n V k + brk n (V.getD k []) (V.getD (k + 1) [])
theorem bk_tot (n : Nat) (V : List (List Int)) : ∀ k, sumI (fun a => bkI V a k) n = totI n V k
  | 0 => sumI_zero n
  | k + 1 => by
    show sumI (fun a => bkI V a k + brO (V.getD k []) (V.getD (k + 1) []) a) n = _
    rw [sumI_add, bk_tot n V k]
    rfl
theorem ziA (n : Nat) (V : List (List Int)) : (bkL n V).sum = totI n V (V.length - 1) := by
  unfold bkL
  rw [zgF, bk_tot]
/-! ### The least -/
def mnI (g : Nat → Int) : Nat → Int
  | 0 => 0
  | k + 1 => if k = 0 ∨ g k < mnI g k then g k else mnI g k
theorem mnI_le (g : Nat → Int) : ∀ m k, k < m → mnI g m ≤ g k
  | m + 1, k, h => by
    show (if m = 0 ∨ g m < mnI g m then g m else mnI g m) ≤ g k
    by_cases e : k = m
    · subst e
      split
      · exact Int.le_refl _
      · rename_i hh; have : ¬ g k < mnI g k := fun h => hh (.inr h); omega
    · have ih := mnI_le g m k (by omega)
      split
      · rename_i hh; rcases hh with h0 | h0 <;> omega
      · exact ih
theorem mnI_at (g : Nat → Int) : ∀ m, 0 < m → ∃ k, k < m ∧ mnI g m = g k
  | m + 1, _ => by
    show ∃ k, k < m + 1 ∧ (if m = 0 ∨ g m < mnI g m then g m else mnI g m) = g k
    split
    · exact ⟨m, by omega, rfl⟩
    · rename_i hh
      have hm : 0 < m := by rcases Nat.eq_zero_or_pos m with h | h; exact absurd (.inl h) hh; exact h
      obtain ⟨k, h1, h2⟩ := mnI_at g m hm
      exact ⟨k, by omega, h2⟩
def dpF (n : Nat) (rows : Nat → List (List Int)) : Nat → List Int
  | 0 => (rows 0).map fun _ => 0
  | i + 1 => (rows (i + 1)).map fun y => mnI (fun j => (dpF n rows i).getD j 0 + brk n ((rows i).getD j []) y) (rows i).length
theorem zgB (n : Nat) (rows : Nat → List (List Int)) : ∀ i, (dpF n rows i).length = (rows i).length
  | 0 => by simp [dpF]
  | i + 1 => by simp [dpF]
structure SeqV (rows : Nat → List (List Int)) (i : Nat) (V : List (List Int)) : Prop where
  len : V.length = i + 1
  mem : ∀ j, j ≤ i → V.getD j [] ∈ rows j
theorem zgX (n : Nat) (V : List (List Int)) (y : List Int) : ∀ k, k + 1 ≤ V.length → totI n (V ++ [y]) k = totI n V k
  | 0, _ => rfl
  | k + 1, h => by
    show totI n (V ++ [y]) k + brk n ((V ++ [y]).getD k []) ((V ++ [y]).getD (k + 1) []) = totI n V k + _
    rw [zgX n V y k (by omega)]
    have e : ∀ j, j < V.length → (V ++ [y]).getD j [] = V.getD j [] := fun j hj => by
      rw [List.getD_eq_getElem?_getD, List.getElem?_append_left hj, ← List.getD_eq_getElem?_getD]
    rw [e k (by omega), e (k + 1) (by omega)]
theorem seq_snoc {rows : Nat → List (List Int)} {i : Nat} {V : List (List Int)} (h : SeqV rows i V) {y : List Int} (hy : y ∈ rows (i + 1)) : SeqV rows (i + 1) (V ++ [y]) := by
  refine ⟨by rw [List.length_append, h.len]; rfl, fun j hj => ?_⟩
  by_cases e : j ≤ i
  · rw [List.getD_eq_getElem?_getD, List.getElem?_append_left (by rw [h.len]; omega), ← List.getD_eq_getElem?_getD]
    exact h.mem j e
  · rw [show j = V.length by rw [h.len]; omega, List.getD_eq_getElem?_getD, List.getElem?_append_right (Nat.le_refl _), Nat.sub_self, h.len]
    exact hy
theorem seq_last {rows : Nat → List (List Int)} {i : Nat} {V : List (List Int)} (h : SeqV rows (i + 1) V) : ∃ W, V = W ++ [V.getD (i + 1) []] ∧ SeqV rows i W := by
  have hl := h.len
  obtain ⟨W, z, e⟩ : ∃ W z, V = W ++ [z] := ⟨V.dropLast, V.getLast (by intro e; rw [e] at hl; simp at hl), (List.dropLast_concat_getLast _).symm⟩
  subst e
  have hW : W.length = i + 1 := by rw [List.length_append, List.length_singleton] at hl; omega
  have ez : (W ++ [z]).getD (i + 1) [] = z := by
    rw [List.getD_eq_getElem?_getD, List.getElem?_append_right (by omega), hW, Nat.sub_self]; rfl
  refine ⟨W, by rw [ez], hW, fun j hj => ?_⟩
  have := h.mem j (by omega)
  rw [List.getD_eq_getElem?_getD, List.getElem?_append_left (by omega), ← List.getD_eq_getElem?_getD] at this
  exact this
theorem dp_min {n : Nat} {rows : Nat → List (List Int)} : ∀ i, (∀ j, j ≤ i → 0 < (rows j).length) → ∀ k, k < (rows i).length →
    (∃ V, SeqV rows i V ∧ V.getD i [] = (rows i).getD k [] ∧ totI n V i = (dpF n rows i).getD k 0) ∧ ∀ V, SeqV rows i V → V.getD i [] = (rows i).getD k [] → (dpF n rows i).getD k 0 ≤ totI n V i
  | 0, hne, k, hk => by
    have e : (dpF n rows 0).getD k 0 = 0 := by
      show (((rows 0).map fun _ => (0 : Int)).getD k 0) = 0
      rw [List.getD_eq_getElem?_getD, List.getElem?_map, List.getElem?_eq_getElem hk]; rfl
    rw [e]
    refine ⟨⟨[(rows 0).getD k []], ⟨rfl, fun j hj => ?_⟩, rfl, rfl⟩, fun V _ _ => Int.le_refl _⟩
    obtain rfl : j = 0 := by omega
    show (rows 0).getD k [] ∈ rows 0
    rw [List.getD_eq_getElem?_getD, List.getElem?_eq_getElem hk]
    exact List.getElem_mem _
  | i + 1, hne, k, hk => by
    obtain ⟨y, ey⟩ : ∃ y, y = (rows (i + 1)).getD k [] := ⟨_, rfl⟩
    have hym : y ∈ rows (i + 1) := by
      rw [ey, List.getD_eq_getElem?_getD, List.getElem?_eq_getElem hk]
      exact List.getElem_mem _
    have e : (dpF n rows (i + 1)).getD k 0 = mnI (fun j => (dpF n rows i).getD j 0 + brk n ((rows i).getD j []) y) (rows i).length := by
      show (((rows (i + 1)).map fun y => mnI (fun j => (dpF n rows i).getD j 0 + brk n ((rows i).getD j []) y) (rows i).length).getD k 0) = _
      rw [List.getD_eq_getElem?_getD, List.getElem?_map, ey, List.getD_eq_getElem?_getD, List.getElem?_eq_getElem hk]; rfl
    rw [e, ← ey]
    have ih := dp_min (n := n) (rows := rows) i fun j hj => hne j (by omega)
    constructor
    · obtain ⟨j, hj, ej⟩ := mnI_at (fun j => (dpF n rows i).getD j 0 + brk n ((rows i).getD j []) y) (rows i).length (hne i (by omega))
      obtain ⟨⟨V, v1, v2, v3⟩, _⟩ := ih j hj
      refine ⟨V ++ [y], seq_snoc v1 hym, ?_, ?_⟩
      · rw [List.getD_eq_getElem?_getD, List.getElem?_append_right (by rw [v1.len]; omega), v1.len, Nat.sub_self]; rfl
      · rw [ej]
        show totI n (V ++ [y]) i + brk n ((V ++ [y]).getD i []) ((V ++ [y]).getD (i + 1) []) = _
        rw [zgX n V y i (by rw [v1.len]; omega), v3]
        rw [show (V ++ [y]).getD i [] = V.getD i [] by rw [List.getD_eq_getElem?_getD, List.getElem?_append_left (by rw [v1.len]; omega), ← List.getD_eq_getElem?_getD], v2]
        rw [show (V ++ [y]).getD (i + 1) [] = y by rw [List.getD_eq_getElem?_getD, List.getElem?_append_right (by rw [v1.len]; omega), v1.len, Nat.sub_self]; rfl]
    · intro V hV hlast
      obtain ⟨W, eW, hW⟩ := seq_last hV
      rw [hlast] at eW
      subst eW
      have hWi := hW.mem i (Nat.le_refl _)
      obtain ⟨j, hj, ej⟩ := List.mem_iff_getElem.1 hWi
      have ej2 : W.getD i [] = (rows i).getD j [] := by
        rw [← ej, List.getD_eq_getElem?_getD (l := rows i), List.getElem?_eq_getElem hj]; rfl
      have h1 := (ih j hj).2 W hW ej2
      have h2 := mnI_le (fun j => (dpF n rows i).getD j 0 + brk n ((rows i).getD j []) y) (rows i).length j hj
      show _ ≤ totI n (W ++ [y]) i + brk n ((W ++ [y]).getD i []) ((W ++ [y]).getD (i + 1) [])
      rw [zgX n W y i (by rw [hW.len]; omega)]
      rw [show (W ++ [y]).getD i [] = W.getD i [] by rw [List.getD_eq_getElem?_getD, List.getElem?_append_left (by rw [hW.len]; omega), ← List.getD_eq_getElem?_getD], ej2]
      rw [show (W ++ [y]).getD (i + 1) [] = y by rw [List.getD_eq_getElem?_getD, List.getElem?_append_right (by rw [hW.len]; omega), hW.len, Nat.sub_self]; rfl]
      have h2' : mnI (fun j => (dpF n rows i).getD j 0 + brk n ((rows i).getD j []) y) (rows i).length ≤ (dpF n rows i).getD j 0 + brk n ((rows i).getD j []) y := h2
      omega
def dpB (n : Nat) (rows : Nat → List (List Int)) : Nat → Int
  | 0 => 0
  | i + 1 => mnI (fun k => (dpF n rows i).getD k 0) (rows i).length
theorem dpB_min {n : Nat} {rows : Nat → List (List Int)} (i : Nat) (hne : ∀ j, j ≤ i → 0 < (rows j).length) :
    (∃ V, SeqV rows i V ∧ totI n V i = dpB n rows (i + 1)) ∧ ∀ V, SeqV rows i V → dpB n rows (i + 1) ≤ totI n V i := by
  constructor
  · obtain ⟨k, hk, ek⟩ := mnI_at (fun k => (dpF n rows i).getD k 0) (rows i).length (hne i (Nat.le_refl _))
    obtain ⟨⟨V, v1, _, v3⟩, _⟩ := dp_min (n := n) i hne k hk
    exact ⟨V, v1, by rw [v3]; exact ek.symm⟩
  · intro V hV
    obtain ⟨k, hk, ek⟩ := List.mem_iff_getElem.1 (hV.mem i (Nat.le_refl _))
    have h1 := (dp_min (n := n) i hne k hk).2 V hV (by rw [← ek, List.getD_eq_getElem?_getD (l := rows i), List.getElem?_eq_getElem hk]; rfl)
    have h2 := mnI_le (fun k => (dpF n rows i).getD k 0) (rows i).length k hk
    exact Int.le_trans h2 h1
end Go.Abs
end

section
namespace Go.Abs
def bitN (k t : Nat) : Nat := k / 2 ^ t % 2
theorem zdU (k t : Nat) : bitN k t < 2 := Nat.mod_lt _ (by omega)
theorem zgV : ∀ (p : Nat) (f : Nat → Nat), (∀ t, t < p → f t < 2) → ∃ k, k < 2 ^ p ∧ ∀ t, t < p → bitN k t = f t
  | 0, f, _ => ⟨0, by simp, fun t h => by omega⟩
  | p + 1, f, hf => by
    obtain ⟨k, hk, h⟩ := zgV p f fun t ht => hf t (by omega)
    have h2 : 2 ^ (p + 1) = 2 ^ p * 2 := Nat.pow_succ _ _
    have hfp := hf p (by omega)
    refine ⟨k + 2 ^ p * f p, ?_, fun t ht => ?_⟩
    · have : f p = 0 ∨ f p = 1 := by omega
      rcases this with e | e <;> rw [e, h2] <;> omega
    · unfold bitN
      by_cases e : t = p
      · subst e
        rw [Nat.add_mul_div_left _ _ (Nat.pos_of_ne_zero (by simp)), Nat.div_eq_of_lt hk, Nat.zero_add]
        exact Nat.mod_eq_of_lt hfp
      · have ht : t < p := by omega
        obtain ⟨d, hd⟩ : ∃ d, p = t + (d + 1) := ⟨p - t - 1, by omega⟩
        rw [show 2 ^ p * f p = 2 ^ t * (2 * (2 ^ d * f p)) by rw [hd, Nat.pow_add, Nat.pow_succ, Nat.mul_comm (2 ^ d) 2, Nat.mul_assoc, Nat.mul_assoc], Nat.add_mul_div_left _ _ (Nat.pos_of_ne_zero (by simp))]
        rw [← h t ht]
        unfold bitN
        omega
structure VRow (n : Nat) (r row : List Int) : Prop where
  len : row.length = n
  bye : ∀ a : Nat, a < n → r.getD a 0 = (a : Int) → row.getD a 0 = -1
  game : ∀ a : Nat, a < n → r.getD a 0 ≠ (a : Int) → (row.getD a 0 = 0 ∨ row.getD a 0 = 1) ∧ row.getD a 0 + row.getD (r.getD a 0).toNat 0 = 1
structure RndOk (n : Nat) (r : List Int) : Prop where
  rng : ∀ a : Nat, a < n → 0 ≤ r.getD a 0 ∧ r.getD a 0 < (n : Int)
  inv : ∀ a : Nat, a < n → r.getD (r.getD a 0).toNat 0 = (a : Int)
theorem zcP {n : Nat} {x y : List Int} (hx : x.length = n) (hy : y.length = n) (h : ∀ a, a < n → x.getD a 0 = y.getD a 0) : x = y := by
  apply List.ext_getElem (by omega)
  intro i h1 h2
  have := h i (by omega)
  rw [List.getD_eq_getElem?_getD, List.getD_eq_getElem?_getD, List.getElem?_eq_getElem h1, List.getElem?_eq_getElem h2] at this
  exact this
theorem zgZ {n : Nat} {r x y : List Int} (hr : RndOk n r) (hx : VRow n r x) (hy : VRow n r y) (h : ∀ a : Nat, a < n → (a : Int) < r.getD a 0 → x.getD a 0 = y.getD a 0) : x = y := by
  refine zcP hx.len hy.len fun a ha => ?_
  by_cases e : r.getD a 0 = (a : Int)
  · rw [hx.bye a ha e, hy.bye a ha e]
  · by_cases hlt : (a : Int) < r.getD a 0
    · exact h a ha hlt
    · have h1 := (hx.game a ha e).2
      have h2 := (hy.game a ha e).2
      have hr1 := hr.rng a ha
      have hb : (r.getD a 0).toNat < n := by omega
      have hinv := hr.inv a ha
      have := h (r.getD a 0).toNat hb (by rw [hinv]; omega)
      omega
theorem vrow_set {n : Nat} {r row : List Int} (hr : RndOk n r) (h : VRow n r row) {a : Nat} (ha : a < n) (hlt : (a : Int) < r.getD a 0) {v : Int} (hv : v = 0 ∨ v = 1) : VRow n r ((row.set a v).set (r.getD a 0).toNat (1 - v)) := by
  have hra := hr.rng a ha
  have hinv := hr.inv a ha
  obtain ⟨b, eb⟩ : ∃ b : Nat, r.getD a 0 = b := ⟨(r.getD a 0).toNat, by omega⟩
  rw [eb] at hra hinv hlt ⊢
  rw [Int.toNat_natCast] at hinv ⊢
  have hg : ∀ c, c < n → ((row.set a v).set b (1 - v)).getD c 0 = if c = b then 1 - v else if c = a then v else row.getD c 0 := fun c hc => by
    rw [List.getD_eq_getElem?_getD, List.getElem?_set]
    by_cases e1 : b = c
    · rw [if_pos e1, if_pos (by rw [List.length_set, h.len]; omega), if_pos e1.symm]; rfl
    · rw [if_neg e1, if_neg (fun e => e1 e.symm), List.getElem?_set]
      by_cases e2 : a = c
      · rw [if_pos e2, if_pos (by rw [h.len]; omega), if_pos e2.symm]; rfl
      · rw [if_neg e2, if_neg (fun e => e2 e.symm), ← List.getD_eq_getElem?_getD]
  refine ⟨by rw [List.length_set, List.length_set, h.len], fun c hc hb => ?_, fun c hc hb => ?_⟩
  · rw [hg c hc, if_neg (by rintro rfl; omega), if_neg (by rintro rfl; omega)]
    exact h.bye c hc hb
  · have hrc := hr.rng c hc
    have hic := hr.inv c hc
    obtain ⟨d, ed⟩ : ∃ d : Nat, r.getD c 0 = d := ⟨(r.getD c 0).toNat, by omega⟩
    rw [ed] at hrc hic hb ⊢
    rw [Int.toNat_natCast] at hic ⊢
    rw [hg c hc, hg d (by omega)]
    by_cases e1 : c = b
    · subst e1
      obtain rfl : d = a := by omega
      rw [if_pos rfl, if_neg (by omega), if_pos rfl]
      omega
    · by_cases e2 : c = a
      · subst e2
        obtain rfl : d = b := by omega
        rw [if_neg e1, if_pos rfl, if_pos rfl]
        omega
      · rw [if_neg e1, if_neg e2, if_neg (by rintro rfl; omega), if_neg (by rintro rfl; omega)]
        have := h.game c hc (by rw [ed]; exact hb)
        rw [ed, Int.toNat_natCast] at this
        exact this
/-! ### The pairs of a round -/
theorem zfW {r : List Int} {n t : Nat} (h : t < (pairsL r n).length) : ∃ a : Nat, a < n ∧ (a : Int) < r.getD a 0 ∧ (pairsL r n).getD t [] = [(a : Int), r.getD a 0] := pairsL_get r n t h
theorem zgN {r : List Int} {n a : Nat} (ha : a < n) (h : (a : Int) < r.getD a 0) : ∃ t, t < (pairsL r n).length ∧ (pairsL r n).getD t [] = [(a : Int), r.getD a 0] := by
  have hm : [(a : Int), r.getD a 0] ∈ pairsL r n := by
    unfold pairsL
    rw [List.mem_map]
    exact ⟨a, by rw [List.mem_filter]; exact ⟨List.mem_range.2 ha, decide_eq_true h⟩, rfl⟩
  obtain ⟨t, ht, e⟩ := List.mem_iff_getElem.1 hm
  exact ⟨t, ht, by rw [List.getD_eq_getElem?_getD, List.getElem?_eq_getElem ht]; exact e⟩
theorem pairs_inj {r : List Int} {n : Nat} : ∀ {t u : Nat}, t < (pairsL r n).length → u < (pairsL r n).length → ((pairsL r n).getD t []).getD 0 0 = ((pairsL r n).getD u []).getD 0 0 → t = u := by
  have hp : (pairsL r n).Pairwise fun x y => x.getD 0 0 < y.getD 0 0 := by
    unfold pairsL
    rw [List.pairwise_map]
    exact (List.pairwise_lt_range.filter _).imp fun {a b} h => by show (a : Int) < (b : Int); omega
  rw [List.pairwise_iff_getElem] at hp
  intro t u ht hu e
  rw [List.getD_eq_getElem?_getD (l := pairsL r n), List.getElem?_eq_getElem ht, List.getD_eq_getElem?_getD (l := pairsL r n), List.getElem?_eq_getElem hu] at e
  have e : (pairsL r n)[t].getD 0 0 = (pairsL r n)[u].getD 0 0 := e
  rcases Nat.lt_trichotomy t u with h | h | h
  · have := hp t u ht hu h; omega
  · exact h
  · have := hp u t hu ht h; omega
/-! ### The reference's lists of a round -/
def row0 (n : Nat) (r : List Int) : List Int := (List.range n).map fun a => if r.getD a 0 = (a : Int) then -1 else 0
def rowK (n : Nat) (r : List Int) (k : Nat) : Nat → List Int
  | 0 => row0 n r
  | t + 1 => (rowK n r k t).set (((pairsL r n).getD t []).getD (bitN k t) 0).toNat 1
theorem zd0 (n : Nat) (r : List Int) (k : Nat) : ∀ t, (rowK n r k t).length = n
  | 0 => by simp [rowK, row0]
  | t + 1 => by show (List.set _ _ _).length = n; rw [List.length_set, zd0 n r k t]
def rowsL (n : Nat) (r : List Int) : List (List Int) := (List.range (2 ^ (pairsL r n).length)).map fun k => rowK n r k (pairsL r n).length
theorem zfS {n : Nat} {r : List Int} {k : Nat} {x : Nat} (hx : x < n) : ∀ t, t ≤ (pairsL r n).length → (∀ u, u < t → (((pairsL r n).getD u []).getD (bitN k u) 0).toNat ≠ x) → (rowK n r k t).getD x 0 = (row0 n r).getD x 0
  | 0, _, _ => rfl
  | t + 1, ht, h => by
    show ((rowK n r k t).set _ 1).getD x 0 = _
    rw [List.getD_eq_getElem?_getD, List.getElem?_set, if_neg (h t (by omega)), ← List.getD_eq_getElem?_getD]
    exact zfS hx t (by omega) fun u hu => h u (by omega)
theorem zgR {n : Nat} {r : List Int} {k : Nat} {x : Nat} (hx : x < n) : ∀ t, t ≤ (pairsL r n).length → (∃ u, u < t ∧ (((pairsL r n).getD u []).getD (bitN k u) 0).toNat = x) → (rowK n r k t).getD x 0 = 1
  | 0, _, ⟨u, hu, _⟩ => by omega
  | t + 1, ht, ⟨u, hu, e⟩ => by
    show ((rowK n r k t).set _ 1).getD x 0 = 1
    rw [List.getD_eq_getElem?_getD, List.getElem?_set]
    by_cases e2 : (((pairsL r n).getD t []).getD (bitN k t) 0).toNat = x
    · rw [if_pos e2, if_pos (by rw [zd0, e2]; exact hx)]; rfl
    · rw [if_neg e2, ← List.getD_eq_getElem?_getD]
      refine zgR hx t (by omega) ⟨u, ?_, e⟩
      rcases Nat.lt_or_eq_of_le (Nat.le_of_lt_succ hu) with h | h
      · exact h
      · subst h; exact absurd e e2
theorem row0_at {n : Nat} {r : List Int} {a : Nat} (ha : a < n) : (row0 n r).getD a 0 = if r.getD a 0 = (a : Int) then -1 else 0 := by
  unfold row0
  rw [List.getD_eq_getElem?_getD, List.getElem?_map, List.getElem?_range ha]; rfl
theorem zfM {n : Nat} {r : List Int} (hr : RndOk n r) {k t a : Nat} (ht : t < (pairsL r n).length) (ha : a < n) (hlt : (a : Int) < r.getD a 0) (e : (pairsL r n).getD t [] = [(a : Int), r.getD a 0]) :
    (rowK n r k (pairsL r n).length).getD a 0 = 1 - (bitN k t : Int) ∧ (rowK n r k (pairsL r n).length).getD (r.getD a 0).toNat 0 = (bitN k t : Int) := by
  have hra := hr.rng a ha
  have hinv := hr.inv a ha
  obtain ⟨b, eb⟩ : ∃ b : Nat, r.getD a 0 = b := ⟨(r.getD a 0).toNat, by omega⟩
  rw [eb] at hra hinv hlt e ⊢
  rw [Int.toNat_natCast] at hinv ⊢
  have hb2 := zdU k t
  have no : ∀ x : Nat, (x = a ∨ x = b) → ∀ u, u < (pairsL r n).length → (((pairsL r n).getD u []).getD (bitN k u) 0).toNat = x → u = t := fun x hx u hu eu => by
    obtain ⟨c, c1, c2, c3⟩ := zfW hu
    have hrc := hr.rng c c1
    have hic := hr.inv c c1
    obtain ⟨d, ed⟩ : ∃ d : Nat, r.getD c 0 = d := ⟨(r.getD c 0).toNat, by omega⟩
    rw [ed] at hrc hic c2 c3
    rw [Int.toNat_natCast] at hic
    refine pairs_inj hu ht ?_
    rw [c3, e]
    show (c : Int) = (a : Int)
    rw [c3] at eu
    have hbu := zdU k u
    have : bitN k u = 0 ∨ bitN k u = 1 := by omega
    rcases this with h0 | h0
    · rw [h0] at eu
      have eu : ((c : Int)).toNat = x := eu
      rw [Int.toNat_natCast] at eu
      rcases hx with h | h
      · omega
      · have hcb : c = b := by omega
        subst hcb
        omega
    · rw [h0] at eu
      have eu : ((d : Int)).toNat = x := eu
      rw [Int.toNat_natCast] at eu
      rcases hx with h | h
      · have hda : d = a := by omega
        subst hda
        omega
      · have hdb : d = b := by omega
        subst hdb
        omega
  have hbit : bitN k t = 0 ∨ bitN k t = 1 := by omega
  have keepA : ∀ x : Nat, (x = a ∨ x = b) → (((pairsL r n).getD t []).getD (bitN k t) 0).toNat ≠ x → (rowK n r k (pairsL r n).length).getD x 0 = 0 := fun x hx hne => by
    rw [zfS (by rcases hx with h | h <;> omega) _ (Nat.le_refl _) fun u hu eu => by
      obtain rfl := no x hx u hu eu
      exact hne eu]
    rw [row0_at (by rcases hx with h | h <;> omega)]
    rw [if_neg]
    rcases hx with h | h
    · subst h; omega
    · subst h; omega
  rw [e] at keepA
  rcases hbit with h0 | h0
  · rw [h0] at keepA ⊢
    refine ⟨?_, ?_⟩
    · rw [zgR ha _ (Nat.le_refl _) ⟨t, ht, by rw [e, h0]; exact Int.toNat_natCast a⟩]; rfl
    · exact keepA b (.inr rfl) (by show ((a : Int)).toNat ≠ b; omega)
  · rw [h0] at keepA ⊢
    refine ⟨?_, ?_⟩
    · exact keepA a (.inl rfl) (by show ((b : Int)).toNat ≠ a; omega)
    · rw [zgR (by omega) _ (Nat.le_refl _) ⟨t, ht, by rw [e, h0]; exact Int.toNat_natCast b⟩]; rfl
theorem zh3 {n : Nat} {r : List Int} (hr : RndOk n r) (k : Nat) : VRow n r (rowK n r k (pairsL r n).length) := by
  refine ⟨zd0 _ _ _ _, fun a ha e => ?_, fun a ha e => ?_⟩
  · rw [zfS ha _ (Nat.le_refl _) fun u hu eu => ?_, row0_at ha, if_pos e]
    obtain ⟨c, c1, c2, c3⟩ := zfW hu
    have hrc := hr.rng c c1
    have hic := hr.inv c c1
    obtain ⟨d, ed⟩ : ∃ d : Nat, r.getD c 0 = d := ⟨(r.getD c 0).toNat, by omega⟩
    rw [ed] at hrc hic c2 c3
    rw [Int.toNat_natCast] at hic
    rw [c3] at eu
    have hbu := zdU k u
    have : bitN k u = 0 ∨ bitN k u = 1 := by omega
    rcases this with h0 | h0
    · rw [h0] at eu
      have eu : ((c : Int)).toNat = a := eu
      rw [Int.toNat_natCast] at eu
      subst eu
      omega
    · rw [h0] at eu
      have eu : ((d : Int)).toNat = a := eu
      rw [Int.toNat_natCast] at eu
      subst eu
      omega
  · have hra := hr.rng a ha
    have hinv := hr.inv a ha
    by_cases hlt : (a : Int) < r.getD a 0
    · obtain ⟨t, ht, et⟩ := zgN ha hlt
      obtain ⟨h1, h2⟩ := zfM hr (k := k) ht ha hlt et
      have := zdU k t
      rw [h1, h2]
      omega
    · obtain ⟨b, eb⟩ : ∃ b : Nat, r.getD a 0 = b := ⟨(r.getD a 0).toNat, by omega⟩
      rw [eb] at hra hinv hlt e ⊢
      rw [Int.toNat_natCast] at hinv ⊢
      obtain ⟨t, ht, et⟩ := zgN (r := r) (n := n) (a := b) (by omega) (by omega)
      obtain ⟨h1, h2⟩ := zfM hr (k := k) ht (by omega) (by omega) et
      rw [hinv, Int.toNat_natCast] at h2
      have := zdU k t
      rw [h1, h2]
      omega
theorem zfC {n : Nat} {r row : List Int} (hr : RndOk n r) : row ∈ rowsL n r ↔ VRow n r row := by
  constructor
  · intro h
    obtain ⟨k, _, rfl⟩ := List.mem_map.1 h
    exact zh3 hr k
  · intro h
    obtain ⟨k, hk, hb⟩ := zgV (pairsL r n).length (fun t => if row.getD (((pairsL r n).getD t []).getD 0 0).toNat 0 = 1 then 0 else 1) fun t _ => by split <;> omega
    refine List.mem_map.2 ⟨k, List.mem_range.2 hk, zgZ hr (zh3 hr k) h fun a ha hlt => ?_⟩
    obtain ⟨t, ht, et⟩ := zgN ha hlt
    obtain ⟨h1, _⟩ := zfM hr (k := k) ht ha hlt et
    have h2 := hb t ht
    rw [et] at h2
    have h2 : bitN k t = if row.getD ((a : Int)).toNat 0 = 1 then 0 else 1 := h2
    rw [Int.toNat_natCast] at h2
    have h3 := (h.game a ha (by omega)).1
    rw [h1, h2]
    split <;> omega
theorem zi0 (n : Nat) (r : List Int) : 0 < (rowsL n r).length := by
  unfold rowsL
  rw [List.length_map, List.length_range]
  exact Nat.pos_of_ne_zero (by simp)
end Go.Abs
end

section
namespace Go.Abs
def gmR (n : Nat) (l : List Int) (i : Nat) : List (Nat × Nat) := ((List.range n).filter fun (a : Nat) => decide ((a : Int) < (rnd l i).getD a 0)).map fun a => (i, a)
def gmAll (n : Nat) (l : List Int) : Nat → List (Nat × Nat)
  | 0 => []
  | k + 1 => gmAll n l k ++ gmR n l k
theorem zcQ (n : Nat) (l : List Int) (i : Nat) : (gmR n l i).length = (pairsL (rnd l i) n).length := by unfold gmR pairsL; rw [List.length_map, List.length_map]
theorem zcA {n : Nat} {l : List Int} {p : Nat × Nat} : ∀ k, p ∈ gmAll n l k ↔ p.1 < k ∧ p.2 < n ∧ (p.2 : Int) < (rnd l p.1).getD p.2 0
  | 0 => by simp [gmAll]
  | k + 1 => by
    show p ∈ gmAll n l k ++ gmR n l k ↔ _
    rw [List.mem_append, zcA k]
    unfold gmR
    rw [List.mem_map]
    constructor
    · rintro (h | ⟨a, ha, rfl⟩)
      · exact ⟨by omega, h.2⟩
      · rw [List.mem_filter, List.mem_range, decide_eq_true_iff] at ha
        exact ⟨Nat.lt_succ_self _, ha⟩
    · rintro ⟨h1, h2, h3⟩
      by_cases e : p.1 < k
      · exact .inl ⟨e, h2, h3⟩
      · have e : p.1 = k := by omega
        refine .inr ⟨p.2, ?_, by rw [← e]⟩
        rw [List.mem_filter, List.mem_range, decide_eq_true_iff, ← e]
        exact ⟨h2, h3⟩
theorem zf6 (n : Nat) (l : List Int) : ∀ k, (gmAll n l k).Nodup
  | 0 => by simp [gmAll]
  | k + 1 => by
    show (gmAll n l k ++ gmR n l k).Nodup
    rw [List.nodup_append]
    refine ⟨zf6 n l k, ?_, fun x hx y hy => ?_⟩
    · unfold gmR
      rw [List.nodup_iff_pairwise_ne, List.pairwise_map]
      exact (List.pairwise_lt_range.filter _).imp fun {a b} h => by intro e; have := congrArg Prod.snd e; simp at this; omega
    · rintro rfl
      have h1 := ((zcA k).1 hx).1
      unfold gmR at hy
      obtain ⟨a, _, e⟩ := List.mem_map.1 hy
      rw [← e] at h1
      simp at h1
def venS (l : List Int) (G : List (Nat × Nat)) (V : List (List Int)) (bits : Nat) : Nat → List (List Int)
  | 0 => V
  | t + 1 => (venS l G V bits t).set (G.getD t (0, 0)).1 ((((venS l G V bits t).getD (G.getD t (0, 0)).1 []).set (G.getD t (0, 0)).2 (bitN bits t : Int)).set ((rnd l (G.getD t (0, 0)).1).getD (G.getD t (0, 0)).2 0).toNat (1 - (bitN bits t : Int)))
structure VSeq (n k : Nat) (l : List Int) (V : List (List Int)) : Prop where
  len : V.length = k
  row : ∀ i, i < k → VRow n (rnd l i) (V.getD i [])
theorem zcE {α : Type} {V : List α} {i j : Nat} {x d : α} (hi : i < V.length) : (V.set i x).getD j d = if j = i then x else V.getD j d := by
  rw [List.getD_eq_getElem?_getD, List.getElem?_set]
  by_cases e : i = j
  · subst e; rw [if_pos rfl, if_pos hi, if_pos rfl]; rfl
  · rw [if_neg e, if_neg (fun h => e h.symm), ← List.getD_eq_getElem?_getD]
theorem zcT {n k : Nat} {l : List Int} (hr : ∀ i, i < k → RndOk n (rnd l i)) {V : List (List Int)} (hV : VSeq n k l V) (bits : Nat) : ∀ t, t ≤ (gmAll n l k).length → VSeq n k l (venS l (gmAll n l k) V bits t)
  | 0, _ => hV
  | t + 1, ht => by
    have ih := zcT hr hV bits t (by omega)
    obtain ⟨p, ep⟩ : ∃ p, p = (gmAll n l k).getD t (0, 0) := ⟨_, rfl⟩
    have hp : p ∈ gmAll n l k := by
      rw [ep, List.getD_eq_getElem?_getD, List.getElem?_eq_getElem (by omega)]; exact List.getElem_mem _
    obtain ⟨p1, p2, p3⟩ := (zcA k).1 hp
    show VSeq n k l ((venS l (gmAll n l k) V bits t).set ((gmAll n l k).getD t (0, 0)).1 _)
    rw [← ep]
    refine ⟨by rw [List.length_set, ih.len], fun i hi => ?_⟩
    rw [zcE (by rw [ih.len]; exact p1)]
    split
    · rename_i e
      subst e
      refine vrow_set (hr _ p1) (ih.row _ p1) p2 p3 ?_
      have := zdU bits t
      omega
    · exact ih.row i hi
theorem zgE {n k : Nat} {l : List Int} (hr : ∀ i, i < k → RndOk n (rnd l i)) {V : List (List Int)} (hV : VSeq n k l V) (bits : Nat) : ∀ t, t ≤ (gmAll n l k).length → ∀ u, u < t → ((venS l (gmAll n l k) V bits t).getD ((gmAll n l k).getD u (0, 0)).1 []).getD ((gmAll n l k).getD u (0, 0)).2 0 = (bitN bits u : Int)
  | t + 1, ht, u, hu => by
    have hS := zcT hr hV bits t (by omega)
    obtain ⟨p, ep⟩ : ∃ p, p = (gmAll n l k).getD t (0, 0) := ⟨_, rfl⟩
    obtain ⟨q, eq⟩ : ∃ q, q = (gmAll n l k).getD u (0, 0) := ⟨_, rfl⟩
    have hp : p ∈ gmAll n l k := by
      rw [ep, List.getD_eq_getElem?_getD, List.getElem?_eq_getElem (by omega)]; exact List.getElem_mem _
    have hq : q ∈ gmAll n l k := by
      rw [eq, List.getD_eq_getElem?_getD, List.getElem?_eq_getElem (by omega)]; exact List.getElem_mem _
    obtain ⟨p1, p2, p3⟩ := (zcA k).1 hp
    obtain ⟨q1, q2, q3⟩ := (zcA k).1 hq
    show (((venS l (gmAll n l k) V bits t).set ((gmAll n l k).getD t (0, 0)).1 _).getD ((gmAll n l k).getD u (0, 0)).1 []).getD ((gmAll n l k).getD u (0, 0)).2 0 = _
    rw [← ep, ← eq, zcE (by rw [hS.len]; exact p1)]
    have hrow := (hS.row p.1 p1).len
    have hrp := (hr p.1 p1).rng p.2 p2
    have hip := (hr p.1 p1).inv p.2 p2
    split
    · rename_i e1
      rw [zcE (by rw [List.length_set, hrow]; omega), zcE (by rw [hrow]; exact p2)]
      by_cases e2 : u = t
      · subst e2
        have : q = p := by rw [eq, ep]
        subst this
        rw [if_neg (by omega), if_pos rfl]
      · have hne : q.2 ≠ p.2 := fun e3 => by
          have e4 : q = p := Prod.ext e1 e3
          rw [eq, ep] at e4
          have hnd := zf6 n l k
          rw [List.nodup_iff_pairwise_ne, List.pairwise_iff_getElem] at hnd
          rw [List.getD_eq_getElem?_getD, List.getElem?_eq_getElem (by omega), List.getD_eq_getElem?_getD, List.getElem?_eq_getElem (by omega)] at e4
          exact hnd u t (by omega) (by omega) (by omega) e4
        rw [e1] at q3
        rw [if_neg (fun e3 => by
          have e5 : ((rnd l p.1).getD q.2 0) = (p.2 : Int) := by rw [e3]; exact hip
          omega), if_neg hne]
        have ih := zgE hr hV bits t (by omega) u (by omega)
        rw [← eq, e1] at ih
        exact ih
    · rename_i e1
      have e2 : u ≠ t := fun e2 => by subst e2; exact e1 (by rw [eq, ep])
      have ih := zgE hr hV bits t (by omega) u (by omega)
      rw [← eq] at ih
      exact ih
theorem venS_all {n k : Nat} {l : List Int} (hr : ∀ i, i < k → RndOk n (rnd l i)) {V W : List (List Int)} (hV : VSeq n k l V) (hW : VSeq n k l W) : ∃ bits, bits < 2 ^ (gmAll n l k).length ∧ venS l (gmAll n l k) V bits (gmAll n l k).length = W := by
  obtain ⟨bits, hb, h⟩ := zgV (gmAll n l k).length (fun u => if (W.getD ((gmAll n l k).getD u (0, 0)).1 []).getD ((gmAll n l k).getD u (0, 0)).2 0 = 1 then 1 else 0) fun t _ => by split <;> omega
  refine ⟨bits, hb, ?_⟩
  have hS := zcT hr hV bits _ (Nat.le_refl (gmAll n l k).length)
  have hA := zgE hr hV bits _ (Nat.le_refl (gmAll n l k).length)
  apply List.ext_getElem (by rw [hS.len, hW.len])
  intro i h1 h2
  have hi : i < k := by rw [hW.len] at h2; exact h2
  have e1 : (venS l (gmAll n l k) V bits (gmAll n l k).length)[i] = (venS l (gmAll n l k) V bits (gmAll n l k).length).getD i [] := by rw [List.getD_eq_getElem?_getD, List.getElem?_eq_getElem h1]; rfl
  have e2 : W[i] = W.getD i [] := by rw [List.getD_eq_getElem?_getD, List.getElem?_eq_getElem h2]; rfl
  rw [e1, e2]
  refine zgZ (hr i hi) (hS.row i hi) (hW.row i hi) fun a ha hlt => ?_
  have hm : (i, a) ∈ gmAll n l k := (zcA k).2 ⟨hi, ha, hlt⟩
  obtain ⟨u, hu, eu⟩ := List.mem_iff_getElem.1 hm
  have eg : (gmAll n l k).getD u (0, 0) = (i, a) := by rw [List.getD_eq_getElem?_getD, List.getElem?_eq_getElem hu, ← eu]; rfl
  have h3 := hA u hu
  have h4 := h u hu
  rw [eg] at h3 h4
  rw [h4] at h3
  rw [h3]
  have h5 := ((hW.row i hi).game a ha (by omega)).1
  show ((if (W.getD i []).getD a 0 = 1 then 1 else 0 : Nat) : Int) = _
  split <;> omega
theorem brO_nn (x y : List Int) (a : Nat) : 0 ≤ brO x y a := by unfold brO; split <;> decide
theorem totI_nn (n : Nat) (V : List (List Int)) : ∀ k, 0 ≤ totI n V k
  | 0 => Int.le_refl _
  | k + 1 => by
    have h1 := totI_nn n V k
    have h2 : 0 ≤ brk n (V.getD k []) (V.getD (k + 1) []) := sumI_nn (brO_nn _ _) n
    show 0 ≤ totI n V k + _
    omega
def bsI (g : Nat → Int) : Nat → Int
  | 0 => -1
  | b + 1 => if bsI g b < 0 ∨ g b < bsI g b then g b else bsI g b
theorem bsI_mn {g : Nat → Int} (h : ∀ b, 0 ≤ g b) : ∀ m, 0 < m → bsI g m = mnI g m
  | m + 1, _ => by
    show (if bsI g m < 0 ∨ g m < bsI g m then g m else bsI g m) = (if m = 0 ∨ g m < mnI g m then g m else mnI g m)
    rcases Nat.eq_zero_or_pos m with h0 | h0
    · subst h0
      rw [if_pos (.inl (show (-1 : Int) < 0 by decide)), if_pos (.inl rfl)]
    · rw [bsI_mn h m h0]
      obtain ⟨k, _, ek⟩ := mnI_at g m h0
      have := h k
      by_cases e : g m < mnI g m
      · rw [if_pos (.inr e), if_pos (.inr e)]
      · rw [if_neg (by rintro (h1 | h1) <;> omega), if_neg (by rintro (h1 | h1) <;> omega)]
theorem few_eq {n k : Nat} {l : List Int} (hr : ∀ i, i < k → RndOk n (rnd l i)) {V : List (List Int)} (hV : VSeq n k l V) :
    bsI (fun b => totI n (venS l (gmAll n l k) V b (gmAll n l k).length) (k - 1)) (2 ^ (gmAll n l k).length) = dpB n (fun i => rowsL n (rnd l i)) k ∧ ∀ W, VSeq n k l W → dpB n (fun i => rowsL n (rnd l i)) k ≤ totI n W (k - 1) := by
  have hpos : 0 < 2 ^ (gmAll n l k).length := Nat.pos_of_ne_zero (by simp)
  rw [bsI_mn (fun b => totI_nn _ _ _) _ hpos]
  have hseq : ∀ i, k = i + 1 → ∀ W, VSeq n k l W ↔ SeqV (fun i => rowsL n (rnd l i)) i W := fun i hi W => by
    subst hi
    exact ⟨fun h => ⟨h.len, fun j hj => (zfC (hr j (by omega))).2 (h.row j (by omega))⟩, fun h => ⟨h.len, fun j hj => (zfC (hr j hj)).1 (h.mem j (by omega))⟩⟩
  rcases k with _ | i
  · refine ⟨?_, fun W hW => Int.le_refl _⟩
    obtain ⟨b, _, eb⟩ := mnI_at (fun b => totI n (venS l (gmAll n l 0) V b (gmAll n l 0).length) (0 - 1)) (2 ^ (gmAll n l 0).length) hpos
    rw [eb]; rfl
  · obtain ⟨⟨W0, w1, w2⟩, w3⟩ := dpB_min (n := n) (rows := fun i => rowsL n (rnd l i)) i fun j _ => zi0 n (rnd l j)
    refine ⟨?_, fun W hW => w3 W ((hseq i rfl W).1 hW)⟩
    rw [Nat.add_sub_cancel]
    obtain ⟨b, _, eb⟩ := mnI_at (fun b => totI n (venS l (gmAll n l (i + 1)) V b (gmAll n l (i + 1)).length) i) (2 ^ (gmAll n l (i + 1)).length) hpos
    have h1 := w3 _ ((hseq i rfl _).1 (zcT hr hV b _ (Nat.le_refl _)))
    obtain ⟨b2, hb2, e2⟩ := venS_all hr hV ((hseq i rfl W0).2 w1)
    have h2 := mnI_le (fun b => totI n (venS l (gmAll n l (i + 1)) V b (gmAll n l (i + 1)).length) i) (2 ^ (gmAll n l (i + 1)).length) b2 hb2
    have h2 : _ ≤ totI n (venS l (gmAll n l (i + 1)) V b2 (gmAll n l (i + 1)).length) i := h2
    rw [e2, w2] at h2
    omega
end Go.Abs
end

section
namespace Go.Abs
def frmR (n : Nat) (y : List Int) : Bool := decide (y.length = n) && (List.range y.length).all fun a => decide (-1 ≤ y.getD a 0 ∧ y.getD a 0 ≤ 1)
def frmB (n k : Nat) (ll : List (List Int)) : Bool := decide (ll.length = k) && (List.range ll.length).all fun i => frmR n (ll.getD i [])
theorem zi9 {n k : Nat} {ll : List (List Int)} {i : Nat} (hi : i < ll.length) (h : frmR n (ll.getD i []) = false) : frmB n k ll = false := by
  unfold frmB; rw [zbH (p := fun i => frmR n (ll.getD i [])) hi h, Bool.and_false]
theorem zfN {n k : Nat} {ll : List (List Int)} (hk : ll.length = k) (h : ∀ i, i < ll.length → frmR n (ll.getD i []) = true) : frmB n k ll = true := by
  unfold frmB; rw [zbU (p := fun i => frmR n (ll.getD i [])) h, Bool.and_true]; simpa using hk
theorem zd9 {n k : Nat} {ll : List (List Int)} (h : frmB n k ll = true) : ll.length = k ∧ ∀ i, i < k → (ll.getD i []).length = n ∧ ∀ a, a < n → -1 ≤ (ll.getD i []).getD a 0 ∧ (ll.getD i []).getD a 0 ≤ 1 := by
  unfold frmB at h
  rw [Bool.and_eq_true, decide_eq_true_iff, List.all_eq_true] at h
  obtain ⟨h1, h2⟩ := h
  refine ⟨h1, fun i hi => ?_⟩
  have h3 := h2 i (List.mem_range.2 (by omega))
  unfold frmR at h3
  rw [Bool.and_eq_true, decide_eq_true_iff, List.all_eq_true] at h3
  exact ⟨h3.1, fun a ha => of_decide_eq_true (h3.2 a (List.mem_range.2 (by omega)))⟩
def areC (r row : List Int) (a : Nat) : Bool := if r.getD a 0 = (a : Int) then row.getD a 0 == -1 else decide (0 ≤ row.getD a 0) && (row.getD a 0 + row.getD (r.getD a 0).toNat 0 == 1)
def areR (n : Nat) (r row : List Int) : Bool := (List.range n).all (areC r row)
def vnB (n k : Nat) (l : List Int) (ll : List (List Int)) : Bool := (List.range k).all fun i => areR n (rnd l i) (ll.getD i [])
theorem vnB_bad {n k i a : Nat} {l : List Int} {ll : List (List Int)} (hi : i < k) (ha : a < n) (h : areC (rnd l i) (ll.getD i []) a = false) : vnB n k l ll = false := by
  unfold vnB areR; exact zbH hi (zbH ha h)
theorem zfY {n k : Nat} {l : List Int} {ll : List (List Int)} (h : ∀ i, i < k → ∀ a, a < n → areC (rnd l i) (ll.getD i []) a = true) : vnB n k l ll = true := by
  unfold vnB areR; exact zbU fun i hi => zbU fun a ha => h i hi a ha
theorem seq_vn {n k : Nat} {l : List Int} {ll : List (List Int)} (h : VSeq n k l ll) : frmB n k ll = true ∧ vnB n k l ll = true := by
  constructor
  · refine zfN h.len fun i hi => ?_
    rw [h.len] at hi
    have hr := h.row i hi
    unfold frmR
    rw [Bool.and_eq_true, decide_eq_true_iff, List.all_eq_true]
    refine ⟨hr.len, fun a ha => ?_⟩
    rw [List.mem_range, hr.len] at ha
    rw [decide_eq_true_iff]
    by_cases e : (rnd l i).getD a 0 = (a : Int)
    · rw [hr.bye a ha e]; omega
    · have := (hr.game a ha e).1; omega
  · refine zfY fun i hi a ha => ?_
    have hr := h.row i hi
    unfold areC
    split
    · rename_i e
      rw [hr.bye a ha e]; rfl
    · rename_i e
      have := hr.game a ha e
      rw [Bool.and_eq_true, decide_eq_true_iff, beq_iff_eq]
      exact ⟨by omega, this.2⟩
def fstR (n : Nat) (r : List Int) : List Int := (List.range n).map fun a => if r.getD a 0 = (a : Int) then -1 else if (a : Int) < r.getD a 0 then 1 else 0
def fstV (n k : Nat) (l : List Int) : List (List Int) := (List.range k).map fun i => fstR n (rnd l i)
theorem fstR_at {n : Nat} {r : List Int} {a : Nat} (ha : a < n) : (fstR n r).getD a 0 = if r.getD a 0 = (a : Int) then -1 else if (a : Int) < r.getD a 0 then 1 else 0 := by
  unfold fstR
  rw [List.getD_eq_getElem?_getD, List.getElem?_map, List.getElem?_range ha]; rfl
theorem fst_seq {n k : Nat} {l : List Int} (hr : ∀ i, i < k → RndOk n (rnd l i)) : VSeq n k l (fstV n k l) := by
  refine ⟨by simp [fstV], fun i hi => ?_⟩
  have e : (fstV n k l).getD i [] = fstR n (rnd l i) := by
    unfold fstV
    rw [List.getD_eq_getElem?_getD, List.getElem?_map, List.getElem?_range hi]; rfl
  rw [e]
  have hR := hr i hi
  refine ⟨by simp [fstR], fun a ha e => by rw [fstR_at ha, if_pos e], fun a ha e => ?_⟩
  have hra := hR.rng a ha
  have hia := hR.inv a ha
  obtain ⟨b, eb⟩ : ∃ b : Nat, (rnd l i).getD a 0 = b := ⟨((rnd l i).getD a 0).toNat, by omega⟩
  rw [eb] at hra hia e
  rw [Int.toNat_natCast] at hia
  rw [fstR_at ha, eb, if_neg e, Int.toNat_natCast, fstR_at (show b < n by omega), hia]
  rw [if_neg (show ¬ (a : Int) = (b : Int) by omega)]
  by_cases h : (a : Int) < (b : Int)
  · rw [if_pos h, if_neg (show ¬ (b : Int) < (a : Int) by omega)]; omega
  · rw [if_neg h, if_pos (show (b : Int) < (a : Int) by omega)]; omega
def patL (ll : List (List Int)) (a : Nat) : List Int := ll.map fun y => y.getD a 0
end Go.Abs
end

section
set_option maxRecDepth 100000
set_option maxHeartbeats 2000000
namespace Go.Proofs.YtemgclojolmhbaaGreat.A
open Go Go.Abs Go.RowKit
theorem haveForm2_c (x : Int) (H : AH) : ACalls Tryz.prog 93 [.int .i64 x] H (is (.bool (!decide (-1 ≤ x ∧ x ≤ 1))) H) := by
  refine za3 [.tmp 2] Tryz.func93 (by kernel_rfl) rfl rfl (Nat.le_of_ble_eq_true rfl) (by kernel_rfl) ?_
  try simp (disch := first | omega | (simp only [L3] <;> omega)) only [Sall,evalOp,init,binA_s,binE,binI,unE,convE,okNil,builtE,gv,TD.isAgg,resV,↓reduceIte,Nat.reduceEqDiff,reduceCtorEq,Nat.reduceAdd,Nat.reduceMul,Nat.reduceLeDiff,za0,za2,Int.reduceEq,Int.reduceLT,Int.reduceLE,Nat.reduceLT,tiA,tiXA, true_and]
  refine (zc2 _ _ _ _).to ?_
  try simp (disch := first | omega | (simp only [L3] <;> omega)) only [Sall,evalOp,init,binA_s,binE,binI,unE,convE,okNil,builtE,gv,TD.isAgg,resV,↓reduceIte,Nat.reduceEqDiff,reduceCtorEq,Nat.reduceAdd,Nat.reduceMul,Nat.reduceLeDiff,za0,za2,Int.reduceEq,Int.reduceLT,Int.reduceLE,Nat.reduceLT,tiA,tiXA, is]
theorem haveForm1_c (n : Nat) (u y : Value) (l : List Int) (c0 : Nat) (H : AH) (h0 : H.row c0 = some ⟨26, true, [.int .i64 n, u]⟩) (hy : Rd 1 H y l.length l) (hl : l.length ≤ 4194304) :
    ACalls Tryz.prog 92 [y, .pointer (some ⟨c0, 0, none⟩)] H (is (.bool (!frmR n l)) H) := by
  refine za3 [.tmp 3] Tryz.func92 (by kernel_rfl) rfl rfl (Nat.le_of_ble_eq_true rfl) (by kernel_rfl) ?_
  try simp (disch := first | omega | (simp only [L3] <;> omega)) only [Sall,evalOp,init,binA_s,binE,binI,unE,convE,okNil,builtE,gv,TD.isAgg,resV,↓reduceIte,Nat.reduceEqDiff,reduceCtorEq,Nat.reduceAdd,Nat.reduceMul,Nat.reduceLeDiff,za0,za2,Int.reduceEq,Int.reduceLT,Int.reduceLE,Nat.reduceLT,tiA,tiXA, true_and]
  refine zhI [0, 2, 3, 1, 4, 5, 6, 7, 8, 9] (by kernel_rfl) (by kernel_rfl) rfl ?_
  try simp (disch := first | omega | (simp only [L3] <;> omega)) only [Sall,evalOp,init,binA_s,binE,binI,unE,convE,okNil,builtE,gv,TD.isAgg,resV,↓reduceIte,Nat.reduceEqDiff,reduceCtorEq,Nat.reduceAdd,Nat.reduceMul,Nat.reduceLeDiff,za0,za2,Int.reduceEq,Int.reduceLT,Int.reduceLE,Nat.reduceLT,tiA,tiXA, zbV, zbM, zbX, h0]
  refine (sizeT_c y l H hy (by omega)).to ?_
  refine ⟨.inr (.inr (LE.refl _)), ?_⟩
  by_cases e : l.length = n
  · have e1 : ((l.length : Int) != (n : Int)) = false := by rw [e]; exact bne_self_eq_false _
    try simp (disch := first | omega | (simp only [L3] <;> omega)) only [Sall,evalOp,init,binA_s,binE,binI,unE,convE,okNil,builtE,gv,TD.isAgg,resV,↓reduceIte,Nat.reduceEqDiff,reduceCtorEq,Nat.reduceAdd,Nat.reduceMul,Nat.reduceLeDiff,za0,za2,Int.reduceEq,Int.reduceLT,Int.reduceLE,Nat.reduceLT,tiA,tiXA, zbV, zbM, zbX, e1]
    refine (zd5 93 [] (fun x => !decide (-1 ≤ x ∧ x ≤ 1)) y _ l H hy (by omega) fun x _ => haveForm2_c x H).to ?_
    refine ⟨.inr (.inr (LE.refl _)), ?_⟩
    try simp (disch := first | omega | (simp only [L3] <;> omega)) only [Sall,evalOp,init,binA_s,binE,binI,unE,convE,okNil,builtE,gv,TD.isAgg,resV,↓reduceIte,Nat.reduceEqDiff,reduceCtorEq,Nat.reduceAdd,Nat.reduceMul,Nat.reduceLeDiff,za0,za2,Int.reduceEq,Int.reduceLT,Int.reduceLE,Nat.reduceLT,tiA,tiXA, zbV, zbM, zbX, is]
    have e2 : frmR n l = !(l.any fun x => !decide (-1 ≤ x ∧ x ≤ 1)) := by
      unfold frmR
      rw [decide_eq_true e, Bool.true_and, List.not_any_eq_all_not]
      rw [Bool.eq_iff_iff, List.all_eq_true, List.all_eq_true]
      constructor
      · intro h x hx
        obtain ⟨i, hi, rfl⟩ := List.mem_iff_getElem.1 hx
        have := h i (List.mem_range.2 hi)
        rw [List.getD_eq_getElem?_getD, List.getElem?_eq_getElem hi] at this
        rw [Bool.not_not]; exact this
      · intro h i hi
        have := h _ (ze2 (l := l) (i := i) (List.mem_range.1 hi))
        rw [Bool.not_not] at this; exact this
    rw [e2, Bool.not_not]
  · have e1 : ((l.length : Int) != (n : Int)) = true := bne_iff_ne.2 (by omega)
    have e2 : frmR n l = false := by unfold frmR; rw [decide_eq_false e]; rfl
    try simp (disch := first | omega | (simp only [L3] <;> omega)) only [Sall,evalOp,init,binA_s,binE,binI,unE,convE,okNil,builtE,gv,TD.isAgg,resV,↓reduceIte,Nat.reduceEqDiff,reduceCtorEq,Nat.reduceAdd,Nat.reduceMul,Nat.reduceLeDiff,za0,za2,Int.reduceEq,Int.reduceLT,Int.reduceLE,Nat.reduceLT,tiA,tiXA, zbV, zbM, zbX, e1, is, e2, Bool.not_false]
theorem zg8 (n : Nat) (v : Value) (k : Nat) (l : List Int) (x : Value) (ll : List (List Int)) (H : AH) (hv : Rd 14 H v k l) (hk : k ≤ 4294967296) (hx : Rd2 1 H x ll) (hl : ll.length ≤ 4194304) (hl2 : ∀ y ∈ ll, y.length ≤ 4194304) :
    ACalls Tryz.prog 66 [.agg #[.int .i64 n, v], x] H (is (.bool (frmB n k ll)) H) := by
  refine zaY rfl (ACalls.wf (by kernel_rfl) fun hs => za3 [.tmp 4] Tryz.func66 (by kernel_rfl) rfl rfl (Nat.le_of_ble_eq_true rfl) (by kernel_rfl) ?_)
  have hone := hv.one
  have o1 := (Ow.refl hs).push ⟨26, true, [.int .i64 n, v]⟩
  try simp (disch := first | omega | (simp only [L3] <;> omega)) only [Sall,evalOp,init,binA_s,binE,binI,unE,convE,okNil,builtE,gv,TD.isAgg,resV,↓reduceIte,Nat.reduceEqDiff,reduceCtorEq,Nat.reduceAdd,Nat.reduceMul,Nat.reduceLeDiff,za0,za2,Int.reduceEq,Int.reduceLT,Int.reduceLE,Nat.reduceLT,tiA,tiXA, hone]
  obtain ⟨pi, epi⟩ : ∃ pi, pi = H.next := ⟨_, rfl⟩
  rw [← epi] at o1 ⊢
  generalize H.push ⟨26, true, [.int .i64 n, v]⟩ = H1 at o1 ⊢
  have up : Up pi H H1 := by rw [epi]; exact o1.up
  have e1 := (o1.rowAt 0 rfl).1
  have hlx := hx.len
  have hlv := hv.len
  have hmem : ∀ v ∈ [Value.pointer (some ⟨pi, 0, none⟩)], v.oneCell' = true := by simp [Value.oneCell']
  by_cases e : ll.length = k
  · have e2 : ((ll.length : Int) == (k : Int)) = true := by rw [e]; exact beq_self_eq_true _
    try simp (disch := first | omega | (simp only [L3] <;> omega)) only [Sall,evalOp,init,binA_s,binE,binI,unE,convE,okNil,builtE,gv,TD.isAgg,resV,↓reduceIte,Nat.reduceEqDiff,reduceCtorEq,Nat.reduceAdd,Nat.reduceMul,Nat.reduceLeDiff,za0,za2,Int.reduceEq,Int.reduceLT,Int.reduceLE,Nat.reduceLT,tiA,tiXA, builtE, hlx, hlv, e1, e2, hone]
    refine ⟨hmem, (zcS 92 [.pointer (some ⟨pi, 0, none⟩)] (fun r => !frmR n r) x ll H1 (hx.same (o1.old hs)) (by omega) fun y r hr hy => haveForm1_c n v y r pi H1 e1 hy (hl2 r hr)).to ?_⟩
    refine Holds.mp ?_
    try simp (disch := first | omega | (simp only [L3] <;> omega)) only [Sall,evalOp,init,binA_s,binE,binI,unE,convE,okNil,builtE,gv,TD.isAgg,resV,↓reduceIte,Nat.reduceEqDiff,reduceCtorEq,Nat.reduceAdd,Nat.reduceMul,Nat.reduceLeDiff,za0,za2,Int.reduceEq,Int.reduceLT,Int.reduceLE,Nat.reduceLT,tiA,tiXA, true_and]
    refine ⟨?_, up⟩
    unfold frmB
    rw [decide_eq_true e, Bool.true_and, List.not_any_eq_all_not]
    simp only [Bool.not_not]
  · have e2 : ((ll.length : Int) == (k : Int)) = false := beq_eq_false_iff_ne.2 (by omega)
    have e3 : frmB n k ll = false := by unfold frmB; rw [decide_eq_false e]; rfl
    try simp (disch := first | omega | (simp only [L3] <;> omega)) only [Sall,evalOp,init,binA_s,binE,binI,unE,convE,okNil,builtE,gv,TD.isAgg,resV,↓reduceIte,Nat.reduceEqDiff,reduceCtorEq,Nat.reduceAdd,Nat.reduceMul,Nat.reduceLeDiff,za0,za2,Int.reduceEq,Int.reduceLT,Int.reduceLE,Nat.reduceLT,tiA,tiXA, builtE, hlx, hlv, e1, e2, hone, e3]
    exact up
theorem zf2 (n : Nat) (v : Value) (k : Nat) (l : List Int) (x : Value) (ll : List (List Int)) (H : AH) (hb : schedB n k l = true) (hf : frmB n k ll = true) (hv : Rd 14 H v k l) (hx : Rd2 1 H x ll) :
    ACalls Tryz.prog 67 [.agg #[.int .i64 n, v], x] H (is (.bool (vnB n k l ll)) H) := by
  refine zaY rfl (ACalls.wf (by kernel_rfl) fun hs => za3 [.tmp 4] Tryz.func67 (by kernel_rfl) rfl rfl (Nat.le_of_ble_eq_true rfl) (by kernel_rfl) ?_)
  obtain ⟨⟨hn2, hn14⟩, hk40, hro⟩ := zaT hb
  obtain ⟨hll, hfr⟩ := zd9 hf
  have hone := hv.one
  have hlv := hv.len
  have o1 := (Ow.refl hs).push ⟨26, true, [.int .i64 n, v]⟩
  try simp (disch := first | omega | (simp only [L3] <;> omega)) only [Sall,evalOp,init,binA_s,binE,binI,unE,convE,okNil,builtE,gv,TD.isAgg,resV,↓reduceIte,Nat.reduceEqDiff,reduceCtorEq,Nat.reduceAdd,Nat.reduceMul,Nat.reduceLeDiff,za0,za2,Int.reduceEq,Int.reduceLT,Int.reduceLE,Nat.reduceLT,tiA,tiXA, hone]
  obtain ⟨pi, epi⟩ : ∃ pi, pi = H.next := ⟨_, rfl⟩
  rw [← epi] at o1 ⊢
  have np : pi < (H.push ⟨26, true, [.int .i64 n, v]⟩).next := by rw [epi]; exact Nat.lt_succ_self _
  generalize H.push ⟨26, true, [.int .i64 n, v]⟩ = H1 at o1 np ⊢
  have e1 := (o1.rowAt 0 rfl).1
  try simp (disch := first | omega | (simp only [L3] <;> omega)) only [Sall,evalOp,init,binA_s,binE,binI,unE,convE,okNil,builtE,gv,TD.isAgg,resV,↓reduceIte,Nat.reduceEqDiff,reduceCtorEq,Nat.reduceAdd,Nat.reduceMul,Nat.reduceLeDiff,za0,za2,Int.reduceEq,Int.reduceLT,Int.reduceLE,Nat.reduceLT,tiA,tiXA, e1, builtE, hlv]
  refine za5 (fun m t H' => ∃ i : Nat, m = k - i ∧ i ≤ k ∧ t 13 = .int .i64 i ∧ t 12 = .int .i64 k ∧ t 11 = v ∧ t 1 = x ∧ t 2 = .pointer (some ⟨pi, 0, none⟩) ∧ Ow H H' [.row pi ⟨26, true, [.int .i64 n, v]⟩] ∧ ∀ j, j < i → ∀ a, a < n → areC (rnd l j) (ll.getD j []) a = true) k ?_ ?_
  · refine ⟨0, by omega, by omega, ?_⟩
    try simp (disch := first | omega | (simp only [L3] <;> omega)) only [Sall,evalOp,init,binA_s,binE,binI,unE,convE,okNil,builtE,gv,TD.isAgg,resV,↓reduceIte,Nat.reduceEqDiff,reduceCtorEq,Nat.reduceAdd,Nat.reduceMul,Nat.reduceLeDiff,za0,za2,Int.reduceEq,Int.reduceLT,Int.reduceLE,Nat.reduceLT,tiA,tiXA, Int.natCast_zero, Nat.not_lt_zero, false_implies]
    exact o1
  · rintro m t H' ⟨i, hm, hi, h13, h12, h11, h1, h2, o2, hall⟩
    try simp (disch := first | omega | (simp only [L3] <;> omega)) only [Sall,evalOp,init,binA_s,binE,binI,unE,convE,okNil,builtE,gv,TD.isAgg,resV,↓reduceIte,Nat.reduceEqDiff,reduceCtorEq,Nat.reduceAdd,Nat.reduceMul,Nat.reduceLeDiff,za0,za2,Int.reduceEq,Int.reduceLT,Int.reduceLE,Nat.reduceLT,tiA,tiXA, h13, h12]
    refine za4 (fun hh => ?_) (fun hh => ?_)
    · have hik : i < k := by omega
      have hr := hro i hik
      have hrl : (rnd l i).length = 14 := zbF l i k hv.1 hik
      obtain ⟨qi, qo, qu, qc, qr, ev, q1, q2, q3, q4⟩ := (hv.same (o2.old hs)).get (by omega)
      have hseg := q4 (i * 14) 14 (by omega)
      obtain ⟨xi, xo, xu, xc, xr, y, my, ex, x1, x2, x3, x4⟩ := (hx.same (o2.old hs)).get (j := i) (by omega)
      have hmy := x3.lenK1
      rw [(hfr i hik).1] at hmy
      have hmy := hmy.symm
      subst hmy
      obtain ⟨zi, zo, zu, zc, zr, ez, z1, z2, z3, _⟩ := x3.get (by omega)
      subst ez
      subst ev
      subst ex
      have npi : ¬ pi = H'.next := by have := (o2.rowAt 0 rfl).2.2; omega
      have e3 := (o2.rowAt 0 rfl).1
      obtain ⟨r, er⟩ : ∃ r, r = rnd l i := ⟨_, rfl⟩
      have hq4 : seg qr.cells (qo + i * 14) 14 = ints r := by rw [er]; exact hseg
      have o3 := (o2.push ⟨67, true, ints (List.replicate 14 0)⟩).putRow 1 rfl (cs' := ints r)
      have hr14 : r.length = 14 := by rw [er]; exact hrl
      have hsp : splice (ints (List.replicate 14 0)) 0 (ints r) = ints r := by
        unfold splice
        rw [List.take_zero, List.nil_append, List.drop_eq_nil_of_le (by simp [za1, hr14]), List.append_nil]
      have hik2 : (i : Int) < (k : Int) := hh
      try simp (disch := first | omega | (simp only [L3] <;> omega)) only [Sall,evalOp,init,binA_s,binE,binI,unE,convE,okNil,builtE,gv,TD.isAgg,resV,↓reduceIte,Nat.reduceEqDiff,reduceCtorEq,Nat.reduceAdd,Nat.reduceMul,Nat.reduceLeDiff,za0,za2,Int.reduceEq,Int.reduceLT,Int.reduceLE,Nat.reduceLT,tiA,tiXA, h13, h11, q1, hq4, hr14, hsp, h2, e3, npi, hik2]
      (repeat refine And.intro (by omega) ?_)
      try simp (disch := first | omega | (simp only [L3] <;> omega)) only [Sall,evalOp,init,binA_s,binE,binI,unE,convE,okNil,builtE,gv,TD.isAgg,resV,↓reduceIte,Nat.reduceEqDiff,reduceCtorEq,Nat.reduceAdd,Nat.reduceMul,Nat.reduceLeDiff,za0,za2,Int.reduceEq,Int.reduceLT,Int.reduceLE,Nat.reduceLT,tiA,tiXA, h13, h11, q1, hq4, hr14, hsp, h2, e3, npi, hik2]
      have n2 : ((H'.push ⟨67, true, ints (List.replicate 14 0)⟩).setCells H'.next (ints r)).next = H'.next + 1 := rfl
      have o3 : Ow H ((H'.push ⟨67, true, ints (List.replicate 14 0)⟩).setCells H'.next (ints r)) [.row pi ⟨26, true, [.int .i64 n, .slice (some ⟨qi, qo, qu⟩) k qc]⟩, .row H'.next ⟨67, true, ints r⟩] := o3
      have x1b : ((H'.push ⟨67, true, ints (List.replicate 14 0)⟩).setCells H'.next (ints r)).row xi = some xr := by
        have := o2.sc _ _ x1
        rw [AH.setCells_row, if_neg (by omega), AH.push_row, if_neg (by omega)]; exact x1
      have z1b : ((H'.push ⟨67, true, ints (List.replicate 14 0)⟩).setCells H'.next (ints r)).row zi = some zr := by
        have := o2.sc _ _ z1
        rw [AH.setCells_row, if_neg (by omega), AH.push_row, if_neg (by omega)]; exact z1
      obtain ⟨ri, eri⟩ : ∃ ri, ri = H'.next := ⟨_, rfl⟩
      rw [← eri] at o3 x1b z1b ⊢
      generalize (H'.push ⟨67, true, ints (List.replicate 14 0)⟩).setCells ri (ints r) = H2 at o3 x1b z1b ⊢
      have e5 := (o3.rowAt 1 rfl).1
      have hix : (i : Int) < (ll.length : Int) := by omega
      have hnn : 2 ≤ n ∧ n ≤ 14 := ⟨by omega, by omega⟩
      have hlow := o3.low
      refine za5 (fun m' t Hx => Hx = H2 ∧ ∃ a : Nat, m' = n - a ∧ a ≤ n ∧ t 20 = .int .i64 a ∧ t 19 = .int .i64 n ∧ t 6 = .pointer (some ⟨ri, 0, none⟩) ∧ t 5 = .int .i64 i ∧ t 13 = .int .i64 i ∧ t 12 = .int .i64 k ∧ t 11 = .slice (some ⟨qi, qo, qu⟩) k qc ∧ t 1 = .slice (some ⟨xi, xo, xu⟩) ll.length xc ∧ t 2 = .pointer (some ⟨pi, 0, none⟩) ∧ ∀ b, b < a → areC r (ll.getD i []) b = true) n ?_ ?_
      · refine ⟨rfl, 0, by omega, by omega, ?_⟩
        try simp (disch := first | omega | (simp only [L3] <;> omega)) only [Sall,evalOp,init,binA_s,binE,binI,unE,convE,okNil,builtE,gv,TD.isAgg,resV,↓reduceIte,Nat.reduceEqDiff,reduceCtorEq,Nat.reduceAdd,Nat.reduceMul,Nat.reduceLeDiff,za0,za2,Int.reduceEq,Int.reduceLT,Int.reduceLE,Nat.reduceLT,tiA,tiXA, Int.natCast_zero, Nat.not_lt_zero, false_implies, h13, h12, h11, h1, h2]
      · rintro m' t Hx ⟨rfl, a, hm', ha, h20, h19, h6, h5, h13, h12, h11, h1, h2, hin⟩
        try simp (disch := first | omega | (simp only [L3] <;> omega)) only [Sall,evalOp,init,binA_s,binE,binI,unE,convE,okNil,builtE,gv,TD.isAgg,resV,↓reduceIte,Nat.reduceEqDiff,reduceCtorEq,Nat.reduceAdd,Nat.reduceMul,Nat.reduceLeDiff,za0,za2,Int.reduceEq,Int.reduceLT,Int.reduceLE,Nat.reduceLT,tiA,tiXA, h20, h19]
        refine za4 (fun hh2 => ?_) (fun hh2 => ?_)
        · have han : a < n := by omega
          obtain ⟨_, g1, g2, _⟩ := zbR (n := (n : Int)) (r := r) (by rw [er]; exact hr) (a := a) (by omega)
          obtain ⟨b, eb⟩ : ∃ b : Nat, r.getD a 0 = b := ⟨(r.getD a 0).toNat, by omega⟩
          rw [eb] at g1 g2
          have ka : (ints r)[a]? = some (.int .i64 (b : Int)) := by rw [← eb]; exact ints_get? r a (by omega)
          have z4 := z3 a (by omega)
          have z5 := z3 b (by omega)
          have hv1 := (hfr i hik).2 a han
          have hv2 := (hfr i hik).2 b (by omega)
          generalize hva : (ll.getD i []).getD a 0 = va at z4 hv1
          generalize hvb : (ll.getD i []).getD b 0 = vb at z5 hv2
          try simp (disch := first | omega | (simp only [L3] <;> omega)) only [Sall,evalOp,init,binA_s,binE,binI,unE,convE,okNil,builtE,gv,TD.isAgg,resV,↓reduceIte,Nat.reduceEqDiff,reduceCtorEq,Nat.reduceAdd,Nat.reduceMul,Nat.reduceLeDiff,za0,za2,Int.reduceEq,Int.reduceLT,Int.reduceLE,Nat.reduceLT,tiA,tiXA, h20]
          refine zb2 (by kernel_rfl) (by kernel_rfl) ?_
          try simp (disch := first | omega | (simp only [L3] <;> omega)) only [Sall,evalOp,init,binA_s,binE,binI,unE,convE,okNil,builtE,gv,TD.isAgg,resV,↓reduceIte,Nat.reduceEqDiff,reduceCtorEq,Nat.reduceAdd,Nat.reduceMul,Nat.reduceLeDiff,za0,za2,Int.reduceEq,Int.reduceLT,Int.reduceLE,Nat.reduceLT,tiA,tiXA, h20, h1, h5, h6, x1b, x2, x4, z1b, z4, z5, e5, ka, hr14, hix]
          (repeat refine And.intro (by omega) ?_)
          have bTT : (!((true : Bool) == true)) = false := rfl
          have bTF : (!((true : Bool) == false)) = true := rfl
          have bFT : (!((false : Bool) == true)) = true := rfl
          have bFF : (!((false : Bool) == false)) = false := rfl
          have eC : areC r (ll.getD i []) a = if b = a then va == -1 else decide (0 ≤ va) && (va + vb == 1) := by
            unfold areC
            rw [eb, Int.toNat_natCast, hva, hvb]
            by_cases e : b = a
            · rw [if_pos (by omega), if_pos e]
            · rw [if_neg (by omega), if_neg e]
          have next : areC r (ll.getD i []) a = true → ∀ c, c < a + 1 → areC r (ll.getD i []) c = true := fun h c hc => by
            by_cases e : c = a
            · rw [e]; exact h
            · exact hin c (by omega)
          have wa : IntKind.i64.wrap ((a : Int) + 1) = ((a + 1 : Nat) : Int) := w64 ⟨by omega, by omega⟩
          have bad : areC r (ll.getD i []) a = false → vnB n k l ll = false := fun h => vnB_bad hik han (by rw [← er]; exact h)
          have fin : areC r (ll.getD i []) a = false → ((false : Bool) = vnB n k l ll) ∧ Up pi H Hx := fun h => ⟨(bad h).symm, by rw [epi]; exact o3.up⟩
          by_cases hab : b = a
          · have q1' : ((b : Int) == (a : Int)) = true := by rw [hab]; exact beq_self_eq_true _
            have q2' : ((b : Int) != (a : Int)) = false := by rw [hab]; exact bne_self_eq_false _
            rw [if_pos hab] at eC
            by_cases hv0 : va < 0
            · have q3' : decide (va < 0) = true := decide_eq_true hv0
              have eC1 : areC r (ll.getD i []) a = true := by rw [eC, show va = -1 by omega]; rfl
              try simp (disch := first | omega | (simp only [L3] <;> omega)) only [Sall,evalOp,init,binA_s,binE,binI,unE,convE,okNil,builtE,gv,TD.isAgg,resV,↓reduceIte,Nat.reduceEqDiff,reduceCtorEq,Nat.reduceAdd,Nat.reduceMul,Nat.reduceLeDiff,za0,za2,Int.reduceEq,Int.reduceLT,Int.reduceLE,Nat.reduceLT,tiA,tiXA, h20, h1, h5, h6, x1b, x2, x4, z1b, z4, z5, e5, ka, hr14, hix, q1', q2', q3', bTT, bTF, bFT, bFF]
              exact ⟨⟨by omega, by omega⟩, n - (a + 1), by omega, a + 1, rfl, by omega, wa, h19, h13, h12, h11, h2, next eC1⟩
            · have q3' : decide (va < 0) = false := decide_eq_false hv0
              have eC1 : areC r (ll.getD i []) a = false := by rw [eC]; exact beq_eq_false_iff_ne.2 (by omega)
              try simp (disch := first | omega | (simp only [L3] <;> omega)) only [Sall,evalOp,init,binA_s,binE,binI,unE,convE,okNil,builtE,gv,TD.isAgg,resV,↓reduceIte,Nat.reduceEqDiff,reduceCtorEq,Nat.reduceAdd,Nat.reduceMul,Nat.reduceLeDiff,za0,za2,Int.reduceEq,Int.reduceLT,Int.reduceLE,Nat.reduceLT,tiA,tiXA, h20, h1, h5, h6, x1b, x2, x4, z1b, z4, z5, e5, ka, hr14, hix, q1', q2', q3', bTT, bTF, bFT, bFF]
              exact fin eC1
          · have q1' : ((b : Int) == (a : Int)) = false := beq_eq_false_iff_ne.2 (by omega)
            have q2' : ((b : Int) != (a : Int)) = true := bne_iff_ne.2 (by omega)
            rw [if_neg hab] at eC
            by_cases hv0 : va < 0
            · have q3' : decide (va < 0) = true := decide_eq_true hv0
              have eC1 : areC r (ll.getD i []) a = false := by rw [eC, decide_eq_false (by omega)]; rfl
              try simp (disch := first | omega | (simp only [L3] <;> omega)) only [Sall,evalOp,init,binA_s,binE,binI,unE,convE,okNil,builtE,gv,TD.isAgg,resV,↓reduceIte,Nat.reduceEqDiff,reduceCtorEq,Nat.reduceAdd,Nat.reduceMul,Nat.reduceLeDiff,za0,za2,Int.reduceEq,Int.reduceLT,Int.reduceLE,Nat.reduceLT,tiA,tiXA, h20, h1, h5, h6, x1b, x2, x4, z1b, z4, z5, e5, ka, hr14, hix, q1', q2', q3', bTT, bTF, bFT, bFF]
              exact fin eC1
            · have q3' : decide (va < 0) = false := decide_eq_false hv0
              rw [decide_eq_true (show 0 ≤ va by omega), Bool.true_and] at eC
              by_cases hs1 : va + vb = 1
              · have q4' : ((1 : Int) != 1) = false := rfl
                have eC1 : areC r (ll.getD i []) a = true := by rw [eC, hs1]; rfl
                try simp (disch := first | omega | (simp only [L3] <;> omega)) only [Sall,evalOp,init,binA_s,binE,binI,unE,convE,okNil,builtE,gv,TD.isAgg,resV,↓reduceIte,Nat.reduceEqDiff,reduceCtorEq,Nat.reduceAdd,Nat.reduceMul,Nat.reduceLeDiff,za0,za2,Int.reduceEq,Int.reduceLT,Int.reduceLE,Nat.reduceLT,tiA,tiXA, h20, h1, h5, h6, x1b, x2, x4, z1b, z4, z5, e5, ka, hr14, hix, q1', q2', q3', q4', hs1, bTT, bTF, bFT, bFF, w64]
                exact ⟨⟨by omega, by omega⟩, n - (a + 1), by omega, a + 1, rfl, by omega, by omega, h19, h13, h12, h11, h2, next eC1⟩
              · have q4' : (va + vb != 1) = true := bne_iff_ne.2 hs1
                have eC1 : areC r (ll.getD i []) a = false := by rw [eC]; exact beq_eq_false_iff_ne.2 hs1
                try simp (disch := first | omega | (simp only [L3] <;> omega)) only [Sall,evalOp,init,binA_s,binE,binI,unE,convE,okNil,builtE,gv,TD.isAgg,resV,↓reduceIte,Nat.reduceEqDiff,reduceCtorEq,Nat.reduceAdd,Nat.reduceMul,Nat.reduceLeDiff,za0,za2,Int.reduceEq,Int.reduceLT,Int.reduceLE,Nat.reduceLT,tiA,tiXA, h20, h1, h5, h6, x1b, x2, x4, z1b, z4, z5, e5, ka, hr14, hix, q1', q2', q3', q4', bTT, bTF, bFT, bFF, w64]
                exact ⟨⟨by omega, by omega⟩, fin eC1⟩
        · have hae : a = n := by omega
          subst hae
          have wi : IntKind.i64.wrap ((i : Int) + 1) = ((i + 1 : Nat) : Int) := w64 ⟨by omega, by omega⟩
          try simp (disch := first | omega | (simp only [L3] <;> omega)) only [Sall,evalOp,init,binA_s,binE,binI,unE,convE,okNil,builtE,gv,TD.isAgg,resV,↓reduceIte,Nat.reduceEqDiff,reduceCtorEq,Nat.reduceAdd,Nat.reduceMul,Nat.reduceLeDiff,za0,za2,Int.reduceEq,Int.reduceLT,Int.reduceLE,Nat.reduceLT,tiA,tiXA, h5, h13]
          exact ⟨k - (i + 1), by omega, i + 1, rfl, by omega, wi, h12, h11, h1, h2, o3.left (L := [_]), fun j hj c hc => by
            by_cases e : j = i
            · rw [e, ← er]; exact hin c hc
            · exact hall j (by omega) c hc⟩
    · try simp (disch := first | omega | (simp only [L3] <;> omega)) only [Sall,evalOp,init,binA_s,binE,binI,unE,convE,okNil,builtE,gv,TD.isAgg,resV,↓reduceIte,Nat.reduceEqDiff,reduceCtorEq,Nat.reduceAdd,Nat.reduceMul,Nat.reduceLeDiff,za0,za2,Int.reduceEq,Int.reduceLT,Int.reduceLE,Nat.reduceLT,tiA,tiXA, true_and]
      have hie : i = k := by omega
      subst hie
      rw [zfY hall]
      exact ⟨rfl, by rw [epi]; exact o2.up⟩
end Go.Proofs.YtemgclojolmhbaaGreat.A
end

section
set_option maxRecDepth 100000
set_option maxHeartbeats 2000000
namespace Go.Proofs.YtemgclojolmhbaaGreat.A
open Go Go.Abs Go.RowKit
theorem zhX (q : Int) (v : Value) (k : Nat) (l : List Int) (x : Value) (ll : List (List Int)) (H : AH) (hv : Rd 14 H v k l) (hk : k ≤ 4294967296) (hx : Rd2 1 H x ll) (hl : ll.length ≤ 4194304) (hl2 : ∀ y ∈ ll, y.length ≤ 4194304) :
    ACalls Tryz.prog 95 [.agg #[.int .i64 q, v], x] H (is (.int .i64 (codeS q k l (frmB q.toNat k ll))) H) := by
  refine zaY rfl (ACalls.wf (by kernel_rfl) fun hs => za3 [.tmp 4] Tryz.func95 (by kernel_rfl) rfl rfl (Nat.le_of_ble_eq_true rfl) (by kernel_rfl) ?_)
  have hone := hv.one
  have hlv := hv.len
  have hlx := hx.len
  have o1 := (Ow.refl hs).push ⟨26, true, [.int .i64 q, v]⟩
  try simp (disch := first | omega | (simp only [L3] <;> omega)) only [Sall,evalOp,init,binA_s,binE,binI,unE,convE,okNil,builtE,gv,TD.isAgg,resV,↓reduceIte,Nat.reduceEqDiff,reduceCtorEq,Nat.reduceAdd,Nat.reduceMul,Nat.reduceLeDiff,za0,za2,Int.reduceEq,Int.reduceLT,Int.reduceLE,Nat.reduceLT,tiA,tiXA, hone]
  obtain ⟨pi, epi⟩ : ∃ pi, pi = H.next := ⟨_, rfl⟩
  rw [← epi] at o1 ⊢
  generalize H.push ⟨26, true, [.int .i64 q, v]⟩ = H1 at o1 ⊢
  have up : Up pi H H1 := by rw [epi]; exact o1.up
  have e1 := (o1.rowAt 0 rfl).1
  have hx1 := hx.same (o1.old hs)
  try simp (disch := first | omega | (simp only [L3] <;> omega)) only [Sall,evalOp,init,binA_s,binE,binI,unE,convE,okNil,builtE,gv,TD.isAgg,resV,↓reduceIte,Nat.reduceEqDiff,reduceCtorEq,Nat.reduceAdd,Nat.reduceMul,Nat.reduceLeDiff,za0,za2,Int.reduceEq,Int.reduceLT,Int.reduceLE,Nat.reduceLT,tiA,tiXA, e1, hone]
  refine (zhY q v k l H1 (hv.same (o1.old hs)) hk).to ?_
  refine Holds.mp ?_
  unfold codeS
  cases hb : schedB q k l with
  | false =>
    rw [if_neg (by simp)]
    try simp (disch := first | omega | (simp only [L3] <;> omega)) only [Sall,evalOp,init,binA_s,binE,binI,unE,convE,okNil,builtE,gv,TD.isAgg,resV,↓reduceIte,Nat.reduceEqDiff,reduceCtorEq,Nat.reduceAdd,Nat.reduceMul,Nat.reduceLeDiff,za0,za2,Int.reduceEq,Int.reduceLT,Int.reduceLE,Nat.reduceLT,tiA,tiXA, Bool.not_false]
    exact up
  | true =>
    obtain ⟨⟨hq2, hq14⟩, _, _⟩ := zaT hb
    obtain ⟨n, rfl⟩ : ∃ n : Nat, q = n := ⟨q.toNat, by omega⟩
    rw [if_pos rfl, Int.toNat_natCast]
    by_cases e : ll.length = k
    rotate_left
    · have e2 : ((ll.length : Int) != (k : Int)) = true := bne_iff_ne.2 (by omega)
      have e3 : frmB n k ll = false := by unfold frmB; rw [decide_eq_false e]; rfl
      rw [e3]
      try simp (disch := first | omega | (simp only [L3] <;> omega)) only [Sall,evalOp,init,binA_s,binE,binI,unE,convE,okNil,builtE,gv,TD.isAgg,resV,↓reduceIte,Nat.reduceEqDiff,reduceCtorEq,Nat.reduceAdd,Nat.reduceMul,Nat.reduceLeDiff,za0,za2,Int.reduceEq,Int.reduceLT,Int.reduceLE,Nat.reduceLT,tiA,tiXA, Bool.not_true, builtE, hlx, hlv, e1, e2, hone]
      exact up
    have e2 : ((ll.length : Int) != (k : Int)) = false := by rw [e]; exact bne_self_eq_false _
    try simp (disch := first | omega | (simp only [L3] <;> omega)) only [Sall,evalOp,init,binA_s,binE,binI,unE,convE,okNil,builtE,gv,TD.isAgg,resV,↓reduceIte,Nat.reduceEqDiff,reduceCtorEq,Nat.reduceAdd,Nat.reduceMul,Nat.reduceLeDiff,za0,za2,Int.reduceEq,Int.reduceLT,Int.reduceLE,Nat.reduceLT,tiA,tiXA, Bool.not_true, builtE, hlx, hlv, e1, e2, hone]
    refine za5 (fun m t H' => H' = H1 ∧ ∃ i : Nat, m = ll.length - i ∧ i ≤ ll.length ∧ t 5 = .int .i64 i ∧ t 1 = x ∧ t 2 = .pointer (some ⟨pi, 0, none⟩) ∧ ∀ j, j < i → frmR n (ll.getD j []) = true) ll.length ?_ ?_
    · refine ⟨rfl, 0, by omega, by omega, ?_⟩
      try simp (disch := first | omega | (simp only [L3] <;> omega)) only [Sall,evalOp,init,binA_s,binE,binI,unE,convE,okNil,builtE,gv,TD.isAgg,resV,↓reduceIte,Nat.reduceEqDiff,reduceCtorEq,Nat.reduceAdd,Nat.reduceMul,Nat.reduceLeDiff,za0,za2,Int.reduceEq,Int.reduceLT,Int.reduceLE,Nat.reduceLT,tiA,tiXA, Int.natCast_zero, Nat.not_lt_zero, false_implies]
    · rintro m t H' ⟨rfl, i, hm, hi, h5, h1, h2, hall⟩
      try simp (disch := first | omega | (simp only [L3] <;> omega)) only [Sall,evalOp,init,binA_s,binE,binI,unE,convE,okNil,builtE,gv,TD.isAgg,resV,↓reduceIte,Nat.reduceEqDiff,reduceCtorEq,Nat.reduceAdd,Nat.reduceMul,Nat.reduceLeDiff,za0,za2,Int.reduceEq,Int.reduceLT,Int.reduceLE,Nat.reduceLT,tiA,tiXA, h5, h1, builtE, hlx]
      refine za4 (fun hh => ?_) (fun hh => ?_)
      · have hik : i < ll.length := by omega
        obtain ⟨xi, xo, xu, xc, xr, y, my, ex, x1, x2, x3, x4⟩ := hx1.get (j := i) hik
        have hmy := x3.lenK1
        have hmy := hmy.symm
        subst hmy
        have hyl := x3.len
        have hml := hl2 _ (getD_mem (ll := ll) (a := i) (by omega))
        subst ex
        try simp (disch := first | omega | (simp only [L3] <;> omega)) only [Sall,evalOp,init,binA_s,binE,binI,unE,convE,okNil,builtE,gv,TD.isAgg,resV,↓reduceIte,Nat.reduceEqDiff,reduceCtorEq,Nat.reduceAdd,Nat.reduceMul,Nat.reduceLeDiff,za0,za2,Int.reduceEq,Int.reduceLT,Int.reduceLE,Nat.reduceLT,tiA,tiXA, true_and]
        refine zb2 (by kernel_rfl) (by kernel_rfl) ?_
        try simp (disch := first | omega | (simp only [L3] <;> omega)) only [Sall,evalOp,init,binA_s,binE,binI,unE,convE,okNil,builtE,gv,TD.isAgg,resV,↓reduceIte,Nat.reduceEqDiff,reduceCtorEq,Nat.reduceAdd,Nat.reduceMul,Nat.reduceLeDiff,za0,za2,Int.reduceEq,Int.reduceLT,Int.reduceLE,Nat.reduceLT,tiA,tiXA, h5, h1, h2, x1, x2, x4, e1, builtE, hyl]
        refine ⟨⟨by omega, by omega⟩, ?_⟩
        by_cases el : (ll.getD i []).length = n
        rotate_left
        · have e5 : (((ll.getD i []).length : Int) != (n : Int)) = true := bne_iff_ne.2 (by omega)
          have e6 : frmR n (ll.getD i []) = false := by unfold frmR; rw [decide_eq_false el]; rfl
          rw [e5, zi9 hik e6]
          try simp (disch := first | omega | (simp only [L3] <;> omega)) only [Sall,evalOp,init,binA_s,binE,binI,unE,convE,okNil,builtE,gv,TD.isAgg,resV,↓reduceIte,Nat.reduceEqDiff,reduceCtorEq,Nat.reduceAdd,Nat.reduceMul,Nat.reduceLeDiff,za0,za2,Int.reduceEq,Int.reduceLT,Int.reduceLE,Nat.reduceLT,tiA,tiXA, true_and]
          exact up
        have e5 : (((ll.getD i []).length : Int) != (n : Int)) = false := by rw [el]; exact bne_self_eq_false _
        rw [e5]
        rw [el] at x3 hyl hml
        have hix : (i : Int) < (ll.length : Int) := hh
        try simp (disch := first | omega | (simp only [L3] <;> omega)) only [Sall,evalOp,init,binA_s,binE,binI,unE,convE,okNil,builtE,gv,TD.isAgg,resV,↓reduceIte,Nat.reduceEqDiff,reduceCtorEq,Nat.reduceAdd,Nat.reduceMul,Nat.reduceLeDiff,za0,za2,Int.reduceEq,Int.reduceLT,Int.reduceLE,Nat.reduceLT,tiA,tiXA, true_and]
        refine za5 (fun m' t Hx => Hx = H' ∧ ∃ a : Nat, m' = n - a ∧ a ≤ n ∧ t 6 = .int .i64 a ∧ t 5 = .int .i64 i ∧ t 1 = .slice (some ⟨xi, xo, xu⟩) ll.length xc ∧ t 2 = .pointer (some ⟨pi, 0, none⟩) ∧ ∀ b, b < a → -1 ≤ (ll.getD i []).getD b 0 ∧ (ll.getD i []).getD b 0 ≤ 1) n ?_ ?_
        · refine ⟨rfl, 0, by omega, by omega, ?_⟩
          try simp (disch := first | omega | (simp only [L3] <;> omega)) only [Sall,evalOp,init,binA_s,binE,binI,unE,convE,okNil,builtE,gv,TD.isAgg,resV,↓reduceIte,Nat.reduceEqDiff,reduceCtorEq,Nat.reduceAdd,Nat.reduceMul,Nat.reduceLeDiff,za0,za2,Int.reduceEq,Int.reduceLT,Int.reduceLE,Nat.reduceLT,tiA,tiXA, Int.natCast_zero, Nat.not_lt_zero, false_implies, h5, h1, h2]
        · rintro m' t Hx ⟨rfl, a, hm', ha, h6, h5, h1, h2, hin⟩
          try simp (disch := first | omega | (simp only [L3] <;> omega)) only [Sall,evalOp,init,binA_s,binE,binI,unE,convE,okNil,builtE,gv,TD.isAgg,resV,↓reduceIte,Nat.reduceEqDiff,reduceCtorEq,Nat.reduceAdd,Nat.reduceMul,Nat.reduceLeDiff,za0,za2,Int.reduceEq,Int.reduceLT,Int.reduceLE,Nat.reduceLT,tiA,tiXA, h6, h5, h1, x1, x2, x4, builtE, hyl, hix]
          refine ⟨by omega, za4 (fun hh2 => ?_) (fun hh2 => ?_)⟩
          · have han : a < n := by omega
            obtain ⟨zi, zo, zu, zc, zr, ez, z1, z2, z3, _⟩ := x3.get (by omega)
            have z4 := z3 a (by omega)
            subst ez
            try simp (disch := first | omega | (simp only [L3] <;> omega)) only [Sall,evalOp,init,binA_s,binE,binI,unE,convE,okNil,builtE,gv,TD.isAgg,resV,↓reduceIte,Nat.reduceEqDiff,reduceCtorEq,Nat.reduceAdd,Nat.reduceMul,Nat.reduceLeDiff,za0,za2,Int.reduceEq,Int.reduceLT,Int.reduceLE,Nat.reduceLT,tiA,tiXA, h6, h5, h1, x1, x2, x4, z1, z4, hix]
            (repeat refine And.intro (by omega) ?_)
            refine (ze7 _ _ _ _).to ?_
            refine Holds.mp ?_
            by_cases hv1 : -1 ≤ (ll.getD i []).getD a 0 ∧ (ll.getD i []).getD a 0 ≤ 1
            · rw [decide_eq_true hv1]
              try simp (disch := first | omega | (simp only [L3] <;> omega)) only [Sall,evalOp,init,binA_s,binE,binI,unE,convE,okNil,builtE,gv,TD.isAgg,resV,↓reduceIte,Nat.reduceEqDiff,reduceCtorEq,Nat.reduceAdd,Nat.reduceMul,Nat.reduceLeDiff,za0,za2,Int.reduceEq,Int.reduceLT,Int.reduceLE,Nat.reduceLT,tiA,tiXA, Bool.not_true, h6, w64]
              exact ⟨n - (a + 1), by omega, a + 1, rfl, by omega, by omega, h5, h1, h2, fun b hb => by
                by_cases e : b = a
                · rw [e]; exact hv1
                · exact hin b (by omega)⟩
            · rw [decide_eq_false hv1]
              have e6 : frmR n (ll.getD i []) = false := by
                unfold frmR
                rw [el, zbH (p := fun a => decide (-1 ≤ (ll.getD i []).getD a 0 ∧ (ll.getD i []).getD a 0 ≤ 1)) han (decide_eq_false hv1), Bool.and_false]
              rw [zi9 hik e6]
              try simp (disch := first | omega | (simp only [L3] <;> omega)) only [Sall,evalOp,init,binA_s,binE,binI,unE,convE,okNil,builtE,gv,TD.isAgg,resV,↓reduceIte,Nat.reduceEqDiff,reduceCtorEq,Nat.reduceAdd,Nat.reduceMul,Nat.reduceLeDiff,za0,za2,Int.reduceEq,Int.reduceLT,Int.reduceLE,Nat.reduceLT,tiA,tiXA, Bool.not_false]
              exact up
          · have hae : a = n := by omega
            subst hae
            have e6 : frmR a (ll.getD i []) = true := by
              unfold frmR
              rw [decide_eq_true el, Bool.true_and, el, List.all_eq_true]
              intro b hb
              exact decide_eq_true (hin b (List.mem_range.1 hb))
            try simp (disch := first | omega | (simp only [L3] <;> omega)) only [Sall,evalOp,init,binA_s,binE,binI,unE,convE,okNil,builtE,gv,TD.isAgg,resV,↓reduceIte,Nat.reduceEqDiff,reduceCtorEq,Nat.reduceAdd,Nat.reduceMul,Nat.reduceLeDiff,za0,za2,Int.reduceEq,Int.reduceLT,Int.reduceLE,Nat.reduceLT,tiA,tiXA, h5]
            exact ⟨ll.length - (i + 1), by omega, i + 1, rfl, by omega, w64 ⟨by omega, by omega⟩, h1, h2, fun j hj => by
              by_cases e : j = i
              · rw [e]; exact e6
              · exact hall j (by omega)⟩
      · try simp (disch := first | omega | (simp only [L3] <;> omega)) only [Sall,evalOp,init,binA_s,binE,binI,unE,convE,okNil,builtE,gv,TD.isAgg,resV,↓reduceIte,Nat.reduceEqDiff,reduceCtorEq,Nat.reduceAdd,Nat.reduceMul,Nat.reduceLeDiff,za0,za2,Int.reduceEq,Int.reduceLT,Int.reduceLE,Nat.reduceLT,tiA,tiXA, true_and]
        rw [zfN e fun j hj => hall j (by omega)]
        exact ⟨rfl, up⟩
theorem l05Are_c (n : Nat) (v : Value) (k : Nat) (l : List Int) (x : Value) (ll : List (List Int)) (H : AH) (hb : schedB n k l = true) (hf : frmB n k ll = true) (hv : Rd 14 H v k l) (hx : Rd2 1 H x ll) :
    ACalls Tryz.prog 96 [.agg #[.int .i64 n, v], x] H (is (.bool (vnB n k l ll)) H) := by
  refine zaY rfl (ACalls.wf (by kernel_rfl) fun hs => za3 [.tmp 4] Tryz.func96 (by kernel_rfl) rfl rfl (Nat.le_of_ble_eq_true rfl) (by kernel_rfl) ?_)
  obtain ⟨⟨hn2, hn14⟩, hk40, hro⟩ := zaT hb
  obtain ⟨hll, hfr⟩ := zd9 hf
  have hone := hv.one
  have hlx := hx.len
  have o1 := (Ow.refl hs).push ⟨26, true, [.int .i64 n, v]⟩
  try simp (disch := first | omega | (simp only [L3] <;> omega)) only [Sall,evalOp,init,binA_s,binE,binI,unE,convE,okNil,builtE,gv,TD.isAgg,resV,↓reduceIte,Nat.reduceEqDiff,reduceCtorEq,Nat.reduceAdd,Nat.reduceMul,Nat.reduceLeDiff,za0,za2,Int.reduceEq,Int.reduceLT,Int.reduceLE,Nat.reduceLT,tiA,tiXA, hone]
  obtain ⟨pi, epi⟩ : ∃ pi, pi = H.next := ⟨_, rfl⟩
  rw [← epi] at o1 ⊢
  generalize H.push ⟨26, true, [.int .i64 n, v]⟩ = H1 at o1 ⊢
  have up : Up pi H H1 := by rw [epi]; exact o1.up
  have e1 := (o1.rowAt 0 rfl).1
  have hx1 := hx.same (o1.old hs)
  have hv1 := hv.same (o1.old hs)
  refine za5 (fun m t H' => H' = H1 ∧ ∃ i : Nat, m = k - i ∧ i ≤ k ∧ t 5 = .int .i64 i ∧ t 1 = x ∧ t 2 = .pointer (some ⟨pi, 0, none⟩) ∧ ∀ j, j < i → ∀ a, a < n → areC (rnd l j) (ll.getD j []) a = true) k ?_ ?_
  · refine ⟨rfl, 0, by omega, by omega, ?_⟩
    try simp (disch := first | omega | (simp only [L3] <;> omega)) only [Sall,evalOp,init,binA_s,binE,binI,unE,convE,okNil,builtE,gv,TD.isAgg,resV,↓reduceIte,Nat.reduceEqDiff,reduceCtorEq,Nat.reduceAdd,Nat.reduceMul,Nat.reduceLeDiff,za0,za2,Int.reduceEq,Int.reduceLT,Int.reduceLE,Nat.reduceLT,tiA,tiXA, Int.natCast_zero, Nat.not_lt_zero, false_implies]
  · rintro m t H' ⟨rfl, i, hm, hi, h5, h1, h2, hall⟩
    rw [hll] at hlx
    try simp (disch := first | omega | (simp only [L3] <;> omega)) only [Sall,evalOp,init,binA_s,binE,binI,unE,convE,okNil,builtE,gv,TD.isAgg,resV,↓reduceIte,Nat.reduceEqDiff,reduceCtorEq,Nat.reduceAdd,Nat.reduceMul,Nat.reduceLeDiff,za0,za2,Int.reduceEq,Int.reduceLT,Int.reduceLE,Nat.reduceLT,tiA,tiXA, h5, h1, builtE, hlx]
    refine za4 (fun hh => ?_) (fun hh => ?_)
    · have hik : i < k := by omega
      have hr := hro i hik
      have hrl : (rnd l i).length = 14 := zbF l i k hv.1 hik
      obtain ⟨qi, qo, qu, qc, qr, ev, q1, q2, q3, q4⟩ := hv1.get (by omega)
      obtain ⟨xi, xo, xu, xc, xr, y, my, ex, x1, x2, x3, x4⟩ := hx1.get (j := i) (by omega)
      have hmy := x3.lenK1
      rw [(hfr i hik).1] at hmy
      have hmy := hmy.symm
      subst hmy
      obtain ⟨zi, zo, zu, zc, zr, ez, z1, z2, z3, _⟩ := x3.get (by omega)
      subst ez
      subst ev
      subst ex
      obtain ⟨r, er⟩ : ∃ r, r = rnd l i := ⟨_, rfl⟩
      have hix : (i : Int) < (ll.length : Int) := by omega
      have hik2 : (i : Int) < (k : Int) := hh
      have hnn : 2 ≤ n ∧ n ≤ 14 := ⟨by omega, by omega⟩
      try simp (disch := first | omega | (simp only [L3] <;> omega)) only [Sall,evalOp,init,binA_s,binE,binI,unE,convE,okNil,builtE,gv,TD.isAgg,resV,↓reduceIte,Nat.reduceEqDiff,reduceCtorEq,Nat.reduceAdd,Nat.reduceMul,Nat.reduceLeDiff,za0,za2,Int.reduceEq,Int.reduceLT,Int.reduceLE,Nat.reduceLT,tiA,tiXA, true_and]
      refine za5 (fun m' t Hx => Hx = H' ∧ ∃ a : Nat, m' = n - a ∧ a ≤ n ∧ t 6 = .int .i64 a ∧ t 5 = .int .i64 i ∧ t 1 = .slice (some ⟨xi, xo, xu⟩) ll.length xc ∧ t 2 = .pointer (some ⟨pi, 0, none⟩) ∧ ∀ b, b < a → areC r (ll.getD i []) b = true) n ?_ ?_
      · refine ⟨rfl, 0, by omega, by omega, ?_⟩
        try simp (disch := first | omega | (simp only [L3] <;> omega)) only [Sall,evalOp,init,binA_s,binE,binI,unE,convE,okNil,builtE,gv,TD.isAgg,resV,↓reduceIte,Nat.reduceEqDiff,reduceCtorEq,Nat.reduceAdd,Nat.reduceMul,Nat.reduceLeDiff,za0,za2,Int.reduceEq,Int.reduceLT,Int.reduceLE,Nat.reduceLT,tiA,tiXA, Int.natCast_zero, Nat.not_lt_zero, false_implies, h5, h1, h2]
      · rintro m' t Hx ⟨rfl, a, hm', ha, h6, h5, h1, h2, hin⟩
        try simp (disch := first | omega | (simp only [L3] <;> omega)) only [Sall,evalOp,init,binA_s,binE,binI,unE,convE,okNil,builtE,gv,TD.isAgg,resV,↓reduceIte,Nat.reduceEqDiff,reduceCtorEq,Nat.reduceAdd,Nat.reduceMul,Nat.reduceLeDiff,za0,za2,Int.reduceEq,Int.reduceLT,Int.reduceLE,Nat.reduceLT,tiA,tiXA, h6, h2, e1]
        refine za4 (fun hh2 => ?_) (fun hh2 => ?_)
        · have han : a < n := by omega
          obtain ⟨_, g1, g2, _⟩ := zbR (n := (n : Int)) (r := r) (by rw [er]; exact hr) (a := a) (by omega)
          obtain ⟨b, eb⟩ : ∃ b : Nat, r.getD a 0 = b := ⟨(r.getD a 0).toNat, by omega⟩
          rw [eb] at g1 g2
          have ka : qr.cells[qo + i * 14 + a]? = some (.int .i64 (b : Int)) := by
            have h3 := q3 (i * 14 + a) (by omega)
            rw [Nat.add_assoc, h3, ← eb, er]
            unfold rnd
            rw [List.getD_eq_getElem?_getD (l := List.take _ _), List.getElem?_take, if_pos (by omega), List.getElem?_drop, ← List.getD_eq_getElem?_getD]
          have z4 := z3 a (by omega)
          have z5 := z3 b (by omega)
          have hv1' := (hfr i hik).2 a han
          have hv2' := (hfr i hik).2 b (by omega)
          generalize hva : (ll.getD i []).getD a 0 = va at z4 hv1'
          generalize hvb : (ll.getD i []).getD b 0 = vb at z5 hv2'
          have eC : areC r (ll.getD i []) a = if b = a then va == -1 else decide (0 ≤ va) && (va + vb == 1) := by
            unfold areC
            rw [eb, Int.toNat_natCast, hva, hvb]
            by_cases e : b = a
            · rw [if_pos (by omega), if_pos e]
            · rw [if_neg (by omega), if_neg e]
          have next : areC r (ll.getD i []) a = true → ∀ c, c < a + 1 → areC r (ll.getD i []) c = true := fun h c hc => by
            by_cases e : c = a
            · rw [e]; exact h
            · exact hin c (by omega)
          have bad : areC r (ll.getD i []) a = false → vnB n k l ll = false := fun h => vnB_bad hik han (by rw [← er]; exact h)
          have fin : areC r (ll.getD i []) a = false → ((false : Bool) = vnB n k l ll) ∧ Up pi H Hx := fun h => ⟨(bad h).symm, up⟩
          have wa : IntKind.i64.wrap ((a : Int) + 1) = ((a + 1 : Nat) : Int) := w64 ⟨by omega, by omega⟩
          try simp (disch := first | omega | (simp only [L3] <;> omega)) only [Sall,evalOp,init,binA_s,binE,binI,unE,convE,okNil,builtE,gv,TD.isAgg,resV,↓reduceIte,Nat.reduceEqDiff,reduceCtorEq,Nat.reduceAdd,Nat.reduceMul,Nat.reduceLeDiff,za0,za2,Int.reduceEq,Int.reduceLT,Int.reduceLE,Nat.reduceLT,tiA,tiXA, h2, h5, h6, e1, hik2]
          (repeat refine And.intro (by omega) ?_)
          try simp (disch := first | omega | (simp only [L3] <;> omega)) only [Sall,evalOp,init,binA_s,binE,binI,unE,convE,okNil,builtE,gv,TD.isAgg,resV,↓reduceIte,Nat.reduceEqDiff,reduceCtorEq,Nat.reduceAdd,Nat.reduceMul,Nat.reduceLeDiff,za0,za2,Int.reduceEq,Int.reduceLT,Int.reduceLE,Nat.reduceLT,tiA,tiXA, h2, h5, h6, e1, q1, ka, hik2]
          refine zb2 (by kernel_rfl) (by kernel_rfl) ?_
          have gi : (0 : Int) ≤ (i : Int) := by omega
          have ga1 : (0 : Int) ≤ (a : Int) := by omega
          have ga2 : (a : Int) < (n : Int) := by omega
          have gb1 : (0 : Int) ≤ (b : Int) := by omega
          have gb2 : (b : Int) < (n : Int) := by omega
          by_cases hab : b = a
          · have q1' : ((a : Int) == (b : Int)) = true := by rw [hab]; exact beq_self_eq_true _
            have q2' : ((a : Int) != (b : Int)) = false := by rw [hab]; exact bne_self_eq_false _
            rw [if_pos hab] at eC
            by_cases hv0 : va = -1
            · have q3' : (va != -1) = false := by rw [hv0]; rfl
              have eC1 : areC r (ll.getD i []) a = true := by rw [eC, hv0]; rfl
              try simp (disch := first | omega | (simp only [L3] <;> omega)) only [Sall,evalOp,init,binA_s,binE,binI,unE,convE,okNil,builtE,gv,TD.isAgg,resV,↓reduceIte,Nat.reduceEqDiff,reduceCtorEq,Nat.reduceAdd,Nat.reduceMul,Nat.reduceLeDiff,za0,za2,Int.reduceEq,Int.reduceLT,Int.reduceLE,Nat.reduceLT,tiA,tiXA, h5, h6, h1, x1, x2, x4, z1, z4, z5, hix, gi, ga1, ga2, gb1, gb2, q1', q2', q3']
              exact ⟨n - (a + 1), by omega, a + 1, rfl, by omega, wa, h2, next eC1⟩
            · have q3' : (va != -1) = true := bne_iff_ne.2 hv0
              have eC1 : areC r (ll.getD i []) a = false := by rw [eC]; exact beq_eq_false_iff_ne.2 hv0
              try simp (disch := first | omega | (simp only [L3] <;> omega)) only [Sall,evalOp,init,binA_s,binE,binI,unE,convE,okNil,builtE,gv,TD.isAgg,resV,↓reduceIte,Nat.reduceEqDiff,reduceCtorEq,Nat.reduceAdd,Nat.reduceMul,Nat.reduceLeDiff,za0,za2,Int.reduceEq,Int.reduceLT,Int.reduceLE,Nat.reduceLT,tiA,tiXA, h5, h6, h1, x1, x2, x4, z1, z4, z5, hix, gi, ga1, ga2, gb1, gb2, q1', q2', q3']
              exact fin eC1
          · have q1' : ((a : Int) == (b : Int)) = false := beq_eq_false_iff_ne.2 (by omega)
            have q2' : ((a : Int) != (b : Int)) = true := bne_iff_ne.2 (by omega)
            rw [if_neg hab] at eC
            by_cases hv0 : va < 0
            · have q3' : decide (va < 0) = true := decide_eq_true hv0
              have eC1 : areC r (ll.getD i []) a = false := by rw [eC, decide_eq_false (by omega)]; rfl
              try simp (disch := first | omega | (simp only [L3] <;> omega)) only [Sall,evalOp,init,binA_s,binE,binI,unE,convE,okNil,builtE,gv,TD.isAgg,resV,↓reduceIte,Nat.reduceEqDiff,reduceCtorEq,Nat.reduceAdd,Nat.reduceMul,Nat.reduceLeDiff,za0,za2,Int.reduceEq,Int.reduceLT,Int.reduceLE,Nat.reduceLT,tiA,tiXA, h5, h6, h1, x1, x2, x4, z1, z4, z5, hix, gi, ga1, ga2, gb1, gb2, q1', q2', q3']
              exact fin eC1
            · have q3' : decide (va < 0) = false := decide_eq_false hv0
              have wab : IntKind.i64.wrap (va + vb) = va + vb := w64 ⟨by omega, by omega⟩
              by_cases hs1 : va + vb = 1
              · have q4' : (va + vb != 1) = false := by rw [hs1]; rfl
                have eC1 : areC r (ll.getD i []) a = true := by rw [eC, decide_eq_true (by omega), hs1]; rfl
                try simp (disch := first | omega | (simp only [L3] <;> omega)) only [Sall,evalOp,init,binA_s,binE,binI,unE,convE,okNil,builtE,gv,TD.isAgg,resV,↓reduceIte,Nat.reduceEqDiff,reduceCtorEq,Nat.reduceAdd,Nat.reduceMul,Nat.reduceLeDiff,za0,za2,Int.reduceEq,Int.reduceLT,Int.reduceLE,Nat.reduceLT,tiA,tiXA, h5, h6, h1, x1, x2, x4, z1, z4, z5, hix, gi, ga1, ga2, gb1, gb2, q1', q2', q3', wab, q4']
                exact ⟨n - (a + 1), by omega, a + 1, rfl, by omega, wa, h2, next eC1⟩
              · have q4' : (va + vb != 1) = true := bne_iff_ne.2 hs1
                have eC1 : areC r (ll.getD i []) a = false := by rw [eC, beq_eq_false_iff_ne.2 hs1, Bool.and_false]
                try simp (disch := first | omega | (simp only [L3] <;> omega)) only [Sall,evalOp,init,binA_s,binE,binI,unE,convE,okNil,builtE,gv,TD.isAgg,resV,↓reduceIte,Nat.reduceEqDiff,reduceCtorEq,Nat.reduceAdd,Nat.reduceMul,Nat.reduceLeDiff,za0,za2,Int.reduceEq,Int.reduceLT,Int.reduceLE,Nat.reduceLT,tiA,tiXA, h5, h6, h1, x1, x2, x4, z1, z4, z5, hix, gi, ga1, ga2, gb1, gb2, q1', q2', q3', wab, q4']
                exact fin eC1
        · have hae : a = n := by omega
          subst hae
          try simp (disch := first | omega | (simp only [L3] <;> omega)) only [Sall,evalOp,init,binA_s,binE,binI,unE,convE,okNil,builtE,gv,TD.isAgg,resV,↓reduceIte,Nat.reduceEqDiff,reduceCtorEq,Nat.reduceAdd,Nat.reduceMul,Nat.reduceLeDiff,za0,za2,Int.reduceEq,Int.reduceLT,Int.reduceLE,Nat.reduceLT,tiA,tiXA, h5]
          exact ⟨k - (i + 1), by omega, i + 1, rfl, by omega, w64 ⟨by omega, by omega⟩, h1, h2, fun j hj c hc => by
            by_cases e : j = i
            · rw [e, ← er]; exact hin c hc
            · exact hall j (by omega) c hc⟩
    · try simp (disch := first | omega | (simp only [L3] <;> omega)) only [Sall,evalOp,init,binA_s,binE,binI,unE,convE,okNil,builtE,gv,TD.isAgg,resV,↓reduceIte,Nat.reduceEqDiff,reduceCtorEq,Nat.reduceAdd,Nat.reduceMul,Nat.reduceLeDiff,za0,za2,Int.reduceEq,Int.reduceLT,Int.reduceLE,Nat.reduceLT,tiA,tiXA, true_and]
      rw [zfY fun j hj => hall j (by omega)]
      exact ⟨rfl, up⟩
end Go.Proofs.YtemgclojolmhbaaGreat.A
end

section
set_option maxRecDepth 100000
set_option maxHeartbeats 2000000
namespace Go.Proofs.YtemgclojolmhbaaGreat.A
open Go Go.Abs Go.RowKit
def codeV (q : Int) (k : Nat) (l : List Int) (ll : List (List Int)) (b : Bool) : Int :=
  if schedB q k l = true then if (frmB q.toNat k ll && b) = true then if vnB q.toNat k l ll = true then 0 else 5 else 2 else 1
theorem l05Code_c (q : Int) (v : Value) (k : Nat) (l : List Int) (x : Value) (ll : List (List Int)) (H : AH) (hv : Rd 14 H v k l) (hk : k ≤ 4294967296) (hx : Rd2 1 H x ll) (hl : ll.length ≤ 4194304) (hl2 : ∀ y ∈ ll, y.length ≤ 4194304) :
    ACalls Tryz.prog 71 [.agg #[.int .i64 q, v], x] H (is (.int .i64 (codeV q k l ll true)) H) := by
  refine zaY rfl (ACalls.wf (by kernel_rfl) fun hs => za3 [.tmp 4] Tryz.func71 (by kernel_rfl) rfl rfl (Nat.le_of_ble_eq_true rfl) (by kernel_rfl) ?_)
  have hone := hv.one
  have up : Up H.next H (H.push ⟨26, true, [.int .i64 q, v]⟩) := (Up.refl _ H).push (Nat.le_refl _) _
  have e1 : (H.push ⟨26, true, [.int .i64 q, v]⟩).row H.next = some ⟨26, true, [.int .i64 q, v]⟩ := by rw [AH.push_row, if_pos rfl]
  try simp (disch := first | omega | (simp only [L3] <;> omega)) only [Sall,evalOp,init,binA_s,binE,binI,unE,convE,okNil,builtE,gv,TD.isAgg,resV,↓reduceIte,Nat.reduceEqDiff,reduceCtorEq,Nat.reduceAdd,Nat.reduceMul,Nat.reduceLeDiff,za0,za2,Int.reduceEq,Int.reduceLT,Int.reduceLE,Nat.reduceLT,tiA,tiXA, hone]
  revert up e1
  generalize H.push ⟨26, true, [.int .i64 q, v]⟩ = H1
  intro up e1
  have hv1 := hv.same (up.le hs).row
  have hx1 := hx.same (up.le hs).row
  try simp (disch := first | omega | (simp only [L3] <;> omega)) only [Sall,evalOp,init,binA_s,binE,binI,unE,convE,okNil,builtE,gv,TD.isAgg,resV,↓reduceIte,Nat.reduceEqDiff,reduceCtorEq,Nat.reduceAdd,Nat.reduceMul,Nat.reduceLeDiff,za0,za2,Int.reduceEq,Int.reduceLT,Int.reduceLE,Nat.reduceLT,tiA,tiXA, e1, hone]
  refine (zhX q v k l x ll H1 hv1 hk hx1 hl hl2).to ?_
  refine Holds.mp ?_
  have f1 : ((1 : Int) == 0) = false := rfl
  have f2 : ((2 : Int) == 0) = false := rfl
  have f3 : ((0 : Int) == 0) = true := rfl
  unfold codeS codeV
  cases hb : schedB q k l with
  | false =>
    rw [if_neg (by simp), if_neg (by simp)]
    try simp (disch := first | omega | (simp only [L3] <;> omega)) only [Sall,evalOp,init,binA_s,binE,binI,unE,convE,okNil,builtE,gv,TD.isAgg,resV,↓reduceIte,Nat.reduceEqDiff,reduceCtorEq,Nat.reduceAdd,Nat.reduceMul,Nat.reduceLeDiff,za0,za2,Int.reduceEq,Int.reduceLT,Int.reduceLE,Nat.reduceLT,tiA,tiXA, f1]
    exact up
  | true =>
    rw [if_pos rfl, if_pos rfl, Bool.and_true]
    cases hf : frmB q.toNat k ll with
    | false =>
      rw [if_neg (by simp), if_neg (by simp)]
      try simp (disch := first | omega | (simp only [L3] <;> omega)) only [Sall,evalOp,init,binA_s,binE,binI,unE,convE,okNil,builtE,gv,TD.isAgg,resV,↓reduceIte,Nat.reduceEqDiff,reduceCtorEq,Nat.reduceAdd,Nat.reduceMul,Nat.reduceLeDiff,za0,za2,Int.reduceEq,Int.reduceLT,Int.reduceLE,Nat.reduceLT,tiA,tiXA, f2]
      exact up
    | true =>
      rw [if_pos rfl, if_pos rfl]
      obtain ⟨⟨hq2, hq14⟩, _, _⟩ := zaT hb
      obtain ⟨n, rfl⟩ : ∃ n : Nat, q = n := ⟨q.toNat, by omega⟩
      rw [Int.toNat_natCast] at hf ⊢
      try simp (disch := first | omega | (simp only [L3] <;> omega)) only [Sall,evalOp,init,binA_s,binE,binI,unE,convE,okNil,builtE,gv,TD.isAgg,resV,↓reduceIte,Nat.reduceEqDiff,reduceCtorEq,Nat.reduceAdd,Nat.reduceMul,Nat.reduceLeDiff,za0,za2,Int.reduceEq,Int.reduceLT,Int.reduceLE,Nat.reduceLT,tiA,tiXA, f3, e1, hone]
      refine (l05Are_c n v k l x ll H1 hb hf hv1 hx1).to ?_
      refine Holds.mp ?_
      cases hvn : vnB n k l ll with
      | false =>
        try simp (disch := first | omega | (simp only [L3] <;> omega)) only [Sall,evalOp,init,binA_s,binE,binI,unE,convE,okNil,builtE,gv,TD.isAgg,resV,↓reduceIte,Nat.reduceEqDiff,reduceCtorEq,Nat.reduceAdd,Nat.reduceMul,Nat.reduceLeDiff,za0,za2,Int.reduceEq,Int.reduceLT,Int.reduceLE,Nat.reduceLT,tiA,tiXA, Bool.not_false]
        exact up
      | true =>
        try simp (disch := first | omega | (simp only [L3] <;> omega)) only [Sall,evalOp,init,binA_s,binE,binI,unE,convE,okNil,builtE,gv,TD.isAgg,resV,↓reduceIte,Nat.reduceEqDiff,reduceCtorEq,Nat.reduceAdd,Nat.reduceMul,Nat.reduceLeDiff,za0,za2,Int.reduceEq,Int.reduceLT,Int.reduceLE,Nat.reduceLT,tiA,tiXA, Bool.not_true]
        exact up
theorem venuesCode1_c (q : Int) (v : Value) (k : Nat) (l : List Int) (x : Value) (ll : List (List Int)) (g : FuncId) (cap : List Value) (b : Bool) (a0 a1 a2 : Nat) (H : AH) (hb : schedB q k l = true)
    (h0 : H.row a0 = some ⟨26, true, [.int .i64 q, v]⟩) (h1 : H.row a1 = some ⟨30, true, [x]⟩) (h2 : H.row a2 = some ⟨64, true, [.func (.func g) #[] cap.toArray]⟩)
    (hv : Rd 14 H v k l) (hk : k ≤ 4294967296) (hx : Rd2 1 H x ll) (hl : ll.length ≤ 4194304) (hl2 : ∀ y ∈ ll, y.length ≤ 4194304)
    (hg : frmB q.toNat k ll = true → ACalls Tryz.prog g cap H (is (.bool b) H)) :
    ACalls Tryz.prog 80 [.pointer (some ⟨a0, 0, none⟩), .pointer (some ⟨a1, 0, none⟩), .pointer (some ⟨a2, 0, none⟩)] H (is (.bool (frmB q.toNat k ll && b)) H) := by
  refine za3 [.tmp 3] Tryz.func80 (by kernel_rfl) rfl rfl (Nat.le_of_ble_eq_true rfl) (by kernel_rfl) ?_
  have hone := hv.one
  have hx1 := hx.one
  obtain ⟨hn, _, _⟩ := zaT hb
  obtain ⟨n, rfl⟩ : ∃ n : Nat, q = n := ⟨q.toNat, by omega⟩
  rw [Int.toNat_natCast] at hg ⊢
  try simp (disch := first | omega | (simp only [L3] <;> omega)) only [Sall,evalOp,init,binA_s,binE,binI,unE,convE,okNil,builtE,gv,TD.isAgg,resV,↓reduceIte,Nat.reduceEqDiff,reduceCtorEq,Nat.reduceAdd,Nat.reduceMul,Nat.reduceLeDiff,za0,za2,Int.reduceEq,Int.reduceLT,Int.reduceLE,Nat.reduceLT,tiA, h0, h1]
  refine (zg8 n v k l x ll H hv hk hx hl hl2).to ?_
  cases hr : frmB n k ll with
  | true =>
    have hg' := hg hr
    try simp (disch := first | omega | (simp only [L3] <;> omega)) only [Sall,evalOp,init,binA_s,binE,binI,unE,convE,okNil,builtE,gv,TD.isAgg,resV,↓reduceIte,Nat.reduceEqDiff,reduceCtorEq,Nat.reduceAdd,Nat.reduceMul,Nat.reduceLeDiff,za0,za2,Int.reduceEq,Int.reduceLT,Int.reduceLE,Nat.reduceLT,tiA, h2]
    refine hg'.to ?_
    try simp (disch := first | omega | (simp only [L3] <;> omega)) only [Sall,evalOp,init,binA_s,binE,binI,unE,convE,okNil,builtE,gv,TD.isAgg,resV,↓reduceIte,Nat.reduceEqDiff,reduceCtorEq,Nat.reduceAdd,Nat.reduceMul,Nat.reduceLeDiff,za0,za2,Int.reduceEq,Int.reduceLT,Int.reduceLE,Nat.reduceLT,tiA, is, Bool.true_and]
  | false =>
    try simp (disch := first | omega | (simp only [L3] <;> omega)) only [Sall,evalOp,init,binA_s,binE,binI,unE,convE,okNil,builtE,gv,TD.isAgg,resV,↓reduceIte,Nat.reduceEqDiff,reduceCtorEq,Nat.reduceAdd,Nat.reduceMul,Nat.reduceLeDiff,za0,za2,Int.reduceEq,Int.reduceLT,Int.reduceLE,Nat.reduceLT,tiA, is, Bool.false_and]
theorem zeT (q : Int) (v : Value) (k : Nat) (l : List Int) (x : Value) (ll : List (List Int)) (g : FuncId) (cap : List Value) (b : Bool) (H : AH)
    (hv : Rd 14 H v k l) (hk : k ≤ 4294967296) (hx : Rd2 1 H x ll) (hl : ll.length ≤ 4194304) (hl2 : ∀ y ∈ ll, y.length ≤ 4194304)
    (hg : ∀ H', Up H.next H H' → schedB q k l = true → frmB q.toNat k ll = true → ACalls Tryz.prog g cap H' (is (.bool b) H')) :
    ACalls Tryz.prog 46 [.agg #[.int .i64 q, v], x, .func (.func g) #[] cap.toArray] H (is (.int .i64 (codeV q k l ll b)) H) := by
  refine ACalls.wf (by kernel_rfl) fun hs => zaY rfl (za3 [.tmp 6] Tryz.func46 (by kernel_rfl) rfl rfl (Nat.le_of_ble_eq_true rfl) (by kernel_rfl) ?_)
  have hone := hv.one
  have hx1 := hx.one
  have ne : ¬ H.next = H.next + 2 := by omega
  have ne1 : ¬ H.next = H.next + 1 + 1 := by omega
  try simp (disch := first | omega | (simp only [L3] <;> omega)) only [Sall,evalOp,init,binA_s,binE,binI,unE,convE,okNil,builtE,gv,TD.isAgg,resV,↓reduceIte,Nat.reduceEqDiff,reduceCtorEq,Nat.reduceAdd,Nat.reduceMul,Nat.reduceLeDiff,za0,za2,Int.reduceEq,Int.reduceLT,Int.reduceLE,Nat.reduceLT,tiA, hone, zb9 hx1, ne, ne1, List.mem_cons, List.not_mem_nil, or_false, forall_eq_or_imp, forall_eq, Array.size_empty]
  obtain ⟨Hg, eg⟩ : ∃ Hg, Hg = ((H.push ⟨26, true, [.int .i64 q, v]⟩).push ⟨30, true, [x]⟩).push ⟨64, true, [.func (.func g) #[] cap.toArray]⟩ := ⟨_, rfl⟩
  have up0 : Up H.next H Hg := by rw [eg]; exact (((Up.refl _ H).push (by omega) _).push (by simp only [AH.push_next]; omega) _).push (by simp only [AH.push_next]; omega) _
  have g0 : Hg.row H.next = some ⟨26, true, [.int .i64 q, v]⟩ := by rw [eg]; (simp [AH.setCells_row, AH.push_row, AH.push_next] <;> (try omega) <;> (repeat rw [if_neg (by omega)]))
  have g1 : Hg.row (H.next + 1) = some ⟨30, true, [x]⟩ := by rw [eg]; (simp [AH.setCells_row, AH.push_row, AH.push_next] <;> (try omega) <;> (repeat rw [if_neg (by omega)]))
  have g2 : Hg.row (H.next + 2) = some ⟨64, true, [.func (.func g) #[] cap.toArray]⟩ := by rw [eg]; (simp [AH.setCells_row, AH.push_row, AH.push_next] <;> (try omega) <;> (repeat rw [if_neg (by omega)]))
  have ng : Hg.next = H.next + 3 := by rw [eg]; rfl
  rw [← eg]
  clear eg
  have hvg := hv.same (up0.le hs).row
  have hxg := hx.same (up0.le hs).row
  refine (zbQ q v k l 80 [.pointer (some ⟨H.next, 0, none⟩), .pointer (some ⟨H.next + 1, 0, none⟩), .pointer (some ⟨H.next + 2, 0, none⟩)] (frmB q.toNat k ll && b) Hg hvg hk ?_).to ?_
  · intro H' up' hb'
    have u' : Up H.next H H' := up0.trans up' (by omega)
    exact venuesCode1_c q v k l x ll g cap b _ _ _ H' hb' (by rw [up'.row _ (by omega), g0]) (by rw [up'.row _ (by omega), g1]) (by rw [up'.row _ (by omega), g2]) (hv.same (u'.le hs).row) hk (hx.same (u'.le hs).row) hl hl2 (hg H' u' hb')
  refine Holds.mp ?_
  have f1 : ((1 : Int) == 0) = false := rfl
  have f2 : ((2 : Int) == 0) = false := rfl
  have f3 : ((0 : Int) == 0) = true := rfl
  unfold codeS codeV
  cases hb : schedB q k l with
  | false =>
    rw [if_neg (by simp), if_neg (by simp)]
    try simp (disch := first | omega | (simp only [L3] <;> omega)) only [Sall,evalOp,init,binA_s,binE,binI,unE,convE,okNil,builtE,gv,TD.isAgg,resV,↓reduceIte,Nat.reduceEqDiff,reduceCtorEq,Nat.reduceAdd,Nat.reduceMul,Nat.reduceLeDiff,za0,za2,Int.reduceEq,Int.reduceLT,Int.reduceLE,Nat.reduceLT,tiA,tiXA, f1]
    exact up0
  | true =>
    rw [if_pos rfl, if_pos rfl]
    cases hfb : (frmB q.toNat k ll && b) with
    | false =>
      rw [if_neg (by simp), if_neg (by simp)]
      try simp (disch := first | omega | (simp only [L3] <;> omega)) only [Sall,evalOp,init,binA_s,binE,binI,unE,convE,okNil,builtE,gv,TD.isAgg,resV,↓reduceIte,Nat.reduceEqDiff,reduceCtorEq,Nat.reduceAdd,Nat.reduceMul,Nat.reduceLeDiff,za0,za2,Int.reduceEq,Int.reduceLT,Int.reduceLE,Nat.reduceLT,tiA,tiXA, f2]
      exact up0
    | true =>
      rw [if_pos rfl, if_pos rfl]
      have hf := hfb
      rw [Bool.and_eq_true] at hf
      have hf := hf.1
      obtain ⟨⟨hq2, hq14⟩, _, _⟩ := zaT hb
      obtain ⟨n, rfl⟩ : ∃ n : Nat, q = n := ⟨q.toNat, by omega⟩
      rw [Int.toNat_natCast] at hf ⊢
      try simp (disch := first | omega | (simp only [L3] <;> omega)) only [Sall,evalOp,init,binA_s,binE,binI,unE,convE,okNil,builtE,gv,TD.isAgg,resV,↓reduceIte,Nat.reduceEqDiff,reduceCtorEq,Nat.reduceAdd,Nat.reduceMul,Nat.reduceLeDiff,za0,za2,Int.reduceEq,Int.reduceLT,Int.reduceLE,Nat.reduceLT,tiA,tiXA, f3, g0, g1, hone, hx1]
      refine (zf2 n v k l x ll Hg hb hf hvg hxg).to ?_
      refine Holds.mp ?_
      cases hvn : vnB n k l ll with
      | false =>
        try simp (disch := first | omega | (simp only [L3] <;> omega)) only [Sall,evalOp,init,binA_s,binE,binI,unE,convE,okNil,builtE,gv,TD.isAgg,resV,↓reduceIte,Nat.reduceEqDiff,reduceCtorEq,Nat.reduceAdd,Nat.reduceMul,Nat.reduceLeDiff,za0,za2,Int.reduceEq,Int.reduceLT,Int.reduceLE,Nat.reduceLT,tiA,tiXA, Bool.not_false]
        exact up0
      | true =>
        try simp (disch := first | omega | (simp only [L3] <;> omega)) only [Sall,evalOp,init,binA_s,binE,binI,unE,convE,okNil,builtE,gv,TD.isAgg,resV,↓reduceIte,Nat.reduceEqDiff,reduceCtorEq,Nat.reduceAdd,Nat.reduceMul,Nat.reduceLeDiff,za0,za2,Int.reduceEq,Int.reduceLT,Int.reduceLE,Nat.reduceLT,tiA,tiXA, Bool.not_true]
        exact up0
theorem AreVenues1_c (q : Int) (v : Value) (k : Nat) (l : List Int) (x : Value) (ll : List (List Int)) (a0 a1 : Nat) (H : AH) (hb : schedB q k l = true)
    (h0 : H.row a0 = some ⟨26, true, [.int .i64 q, v]⟩) (h1 : H.row a1 = some ⟨30, true, [x]⟩)
    (hv : Rd 14 H v k l) (hk : k ≤ 4294967296) (hx : Rd2 1 H x ll) (hl : ll.length ≤ 4194304) (hl2 : ∀ y ∈ ll, y.length ≤ 4194304) :
    ACalls Tryz.prog 65 [.pointer (some ⟨a0, 0, none⟩), .pointer (some ⟨a1, 0, none⟩)] H (is (.bool (frmB q.toNat k ll)) H) := by
  refine za3 [.tmp 2] Tryz.func65 (by kernel_rfl) rfl rfl (Nat.le_of_ble_eq_true rfl) (by kernel_rfl) ?_
  have hone := hv.one
  have hx1 := hx.one
  obtain ⟨hn, _, _⟩ := zaT hb
  obtain ⟨n, rfl⟩ : ∃ n : Nat, q = n := ⟨q.toNat, by omega⟩
  rw [Int.toNat_natCast]
  try simp (disch := first | omega | (simp only [L3] <;> omega)) only [Sall,evalOp,init,binA_s,binE,binI,unE,convE,okNil,builtE,gv,TD.isAgg,resV,↓reduceIte,Nat.reduceEqDiff,reduceCtorEq,Nat.reduceAdd,Nat.reduceMul,Nat.reduceLeDiff,za0,za2,Int.reduceEq,Int.reduceLT,Int.reduceLE,Nat.reduceLT,tiA, h0, h1]
  refine (zg8 n v k l x ll H hv hk hx hl hl2).to ?_
  try simp (disch := first | omega | (simp only [L3] <;> omega)) only [Sall,evalOp,init,binA_s,binE,binI,unE,convE,okNil,builtE,gv,TD.isAgg,resV,↓reduceIte,Nat.reduceEqDiff,reduceCtorEq,Nat.reduceAdd,Nat.reduceMul,Nat.reduceLeDiff,za0,za2,Int.reduceEq,Int.reduceLT,Int.reduceLE,Nat.reduceLT,tiA, is]
theorem AreVenues_c (q : Int) (v : Value) (k : Nat) (l : List Int) (x : Value) (ll : List (List Int)) (H : AH)
    (hv : Rd 14 H v k l) (hk : k ≤ 4294967296) (hx : Rd2 1 H x ll) (hl : ll.length ≤ 4194304) (hl2 : ∀ y ∈ ll, y.length ≤ 4194304) :
    ACalls Tryz.prog 21 [.agg #[.int .i64 q, v], x] H (is (.tuple #[.bool (decide (codeS q k l (frmB q.toNat k ll) = 0) && vnB q.toNat k l ll), .int .i64 (codeS q k l (frmB q.toNat k ll))]) H) := by
  refine zaY (by simp [flat, Abs.scal]) (ACalls.wf (by kernel_rfl) fun hs => za3 [.tmp 4, .tmp 5] Tryz.func21 (by kernel_rfl) rfl rfl (Nat.le_of_ble_eq_true rfl) (by kernel_rfl) ?_)
  have hone := hv.one
  have hx1 := hx.one
  try simp (disch := first | omega | (simp only [L3] <;> omega)) only [Sall,evalOp,init,binA_s,binE,binI,unE,convE,okNil,builtE,gv,TD.isAgg,resV,↓reduceIte,Nat.reduceEqDiff,reduceCtorEq,Nat.reduceAdd,Nat.reduceMul,Nat.reduceLeDiff,za0,za2,Int.reduceEq,Int.reduceLT,Int.reduceLE,Nat.reduceLT,tiA, hone, zb9 hx1, List.mem_cons, List.not_mem_nil, or_false, forall_eq_or_imp, forall_eq, Array.size_empty]
  obtain ⟨Hg, eg⟩ : ∃ Hg, Hg = (H.push ⟨26, true, [.int .i64 q, v]⟩).push ⟨30, true, [x]⟩ := ⟨_, rfl⟩
  have up0 : Up H.next H Hg := by rw [eg]; exact ((Up.refl _ H).push (by omega) _).push (by simp only [AH.push_next]; omega) _
  have g0 : Hg.row H.next = some ⟨26, true, [.int .i64 q, v]⟩ := by rw [eg]; (simp [AH.setCells_row, AH.push_row, AH.push_next] <;> (try omega) <;> (repeat rw [if_neg (by omega)]))
  have g1 : Hg.row (H.next + 1) = some ⟨30, true, [x]⟩ := by rw [eg]; (simp [AH.setCells_row, AH.push_row, AH.push_next] <;> (try omega) <;> (repeat rw [if_neg (by omega)]))
  have ng : Hg.next = H.next + 2 := by rw [eg]; rfl
  rw [← eg]
  clear eg
  have hvg := hv.same (up0.le hs).row
  have hxg := hx.same (up0.le hs).row
  refine (zbQ q v k l 65 [.pointer (some ⟨H.next, 0, none⟩), .pointer (some ⟨H.next + 1, 0, none⟩)] (frmB q.toNat k ll) Hg hvg hk ?_).to ?_
  · intro H' up' hb'
    have u' : Up H.next H H' := up0.trans up' (by omega)
    exact AreVenues1_c q v k l x ll _ _ H' hb' (by rw [up'.row _ (by omega), g0]) (by rw [up'.row _ (by omega), g1]) (hv.same (u'.le hs).row) hk (hx.same (u'.le hs).row) hl hl2
  refine Holds.mp ?_
  have f1 : ((1 : Int) != 0) = true := rfl
  have f2 : ((2 : Int) != 0) = true := rfl
  have f3 : ((0 : Int) != 0) = false := rfl
  unfold codeS
  cases hb : schedB q k l with
  | false =>
    rw [if_neg (by simp)]
    try simp (disch := first | omega | (simp only [L3] <;> omega)) only [Sall,evalOp,init,binA_s,binE,binI,unE,convE,okNil,builtE,gv,TD.isAgg,resV,↓reduceIte,Nat.reduceEqDiff,reduceCtorEq,Nat.reduceAdd,Nat.reduceMul,Nat.reduceLeDiff,za0,za2,Int.reduceEq,Int.reduceLT,Int.reduceLE,Nat.reduceLT,tiA,tiXA, f1]
    exact ⟨rfl, up0⟩
  | true =>
    rw [if_pos rfl]
    cases hf : frmB q.toNat k ll with
    | false =>
      rw [if_neg (by simp)]
      try simp (disch := first | omega | (simp only [L3] <;> omega)) only [Sall,evalOp,init,binA_s,binE,binI,unE,convE,okNil,builtE,gv,TD.isAgg,resV,↓reduceIte,Nat.reduceEqDiff,reduceCtorEq,Nat.reduceAdd,Nat.reduceMul,Nat.reduceLeDiff,za0,za2,Int.reduceEq,Int.reduceLT,Int.reduceLE,Nat.reduceLT,tiA,tiXA, f2]
      exact ⟨rfl, up0⟩
    | true =>
      rw [if_pos rfl]
      obtain ⟨⟨hq2, hq14⟩, _, _⟩ := zaT hb
      obtain ⟨n, rfl⟩ : ∃ n : Nat, q = n := ⟨q.toNat, by omega⟩
      rw [Int.toNat_natCast] at hf ⊢
      try simp (disch := first | omega | (simp only [L3] <;> omega)) only [Sall,evalOp,init,binA_s,binE,binI,unE,convE,okNil,builtE,gv,TD.isAgg,resV,↓reduceIte,Nat.reduceEqDiff,reduceCtorEq,Nat.reduceAdd,Nat.reduceMul,Nat.reduceLeDiff,za0,za2,Int.reduceEq,Int.reduceLT,Int.reduceLE,Nat.reduceLT,tiA,tiXA, f3, g0, g1, hone, hx1]
      refine (zf2 n v k l x ll Hg hb hf hvg hxg).to ?_
      refine Holds.mp ?_
      try simp (disch := first | omega | (simp only [L3] <;> omega)) only [Sall,evalOp,init,binA_s,binE,binI,unE,convE,okNil,builtE,gv,TD.isAgg,resV,↓reduceIte,Nat.reduceEqDiff,reduceCtorEq,Nat.reduceAdd,Nat.reduceMul,Nat.reduceLeDiff,za0,za2,Int.reduceEq,Int.reduceLT,Int.reduceLE,Nat.reduceLT,tiA,tiXA, true_and]
      exact ⟨by simp, up0⟩
end Go.Proofs.YtemgclojolmhbaaGreat.A
end

section
namespace Go.Abs
open Go Go.RowKit
def Pt (lo hi i : Nat) (H : AH) (x : Value) (y : List Int) : Prop := ∀ H', (∀ z r, lo ≤ z → z < hi → ¬ z = i → H.row z = some r → H'.row z = some r) → Rd 1 H' x y.length y
def FrV (ty lo hi : Nat) (H : AH) (v : Value) (ll : List (List Int)) : Prop :=
  (ll = [] ∧ v = .slice none 0 0) ∨ ∃ i vs, lo ≤ i ∧ i < hi ∧ v = .slice (some ⟨i, 0, some 1⟩) ll.length ll.length ∧ H.row i = some ⟨ty, true, vs⟩ ∧ vs.length = ll.length ∧ ∀ j, j < ll.length → ∃ x, vs[j]? = some x ∧ Pt lo hi i H x (ll.getD j [])
theorem FrV.same {ty lo hi : Nat} {H H' : AH} {v : Value} {ll : List (List Int)} (h : FrV ty lo hi H v ll) (hs : ∀ i, lo ≤ i → i < hi → H'.row i = H.row i) : FrV ty lo hi H' v ll := by
  rcases h with h | ⟨i, vs, h1, h2, hv, hr, hl, hj⟩
  · exact .inl h
  · refine .inr ⟨i, vs, h1, h2, hv, by rw [hs i h1 h2]; exact hr, hl, fun j hjl => ?_⟩
    obtain ⟨x, hx, hp⟩ := hj j hjl
    exact ⟨x, hx, fun H2 h2 => hp H2 fun z r z1 z2 z3 hz => h2 z r z1 z2 z3 (by rw [hs z z1 z2]; exact hz)⟩
theorem FrV.wide {ty lo hi lo' hi' : Nat} {H : AH} {v : Value} {ll : List (List Int)} (h : FrV ty lo hi H v ll) (a : lo' ≤ lo) (c : hi ≤ hi') : FrV ty lo' hi' H v ll := by
  rcases h with h | ⟨i, vs, h1, h2, hv, hr, hl, hj⟩
  · exact .inl h
  · refine .inr ⟨i, vs, by omega, by omega, hv, hr, hl, fun j hjl => ?_⟩
    obtain ⟨x, hx, hp⟩ := hj j hjl
    exact ⟨x, hx, fun H2 h2 => hp H2 fun z r z1 z2 z3 hz => h2 z r (by omega) (by omega) z3 hz⟩
theorem FrV.rd {ty lo hi : Nat} {H : AH} {v : Value} {ll : List (List Int)} (h : FrV ty lo hi H v ll) : Rd2 1 H v ll := by
  rcases h with ⟨h1, h2⟩ | ⟨i, vs, h1, h2, rfl, hr, hl, hj⟩
  · exact .inl ⟨h1, none, 0, h2, fun _ => rfl⟩
  · refine .inr ⟨i, 0, some 1, _, _, rfl, hr, fun j hjl => ?_⟩
    obtain ⟨x, hx, hp⟩ := hj j hjl
    exact ⟨x, _, by simpa using hx, hp H fun _ _ _ _ _ h => h⟩
theorem zbB {v : Value} (h : v.oneCell' = true) : v.cells = #[v] := by
  cases v <;> first | rfl | (simp [Value.oneCell'] at h)
theorem zb0 {v : Value} (h : v.oneCell' = true) : zcV v = true := by
  cases v <;> first | rfl | (simp [Value.oneCell'] at h)
end Go.Abs
end

section
set_option maxRecDepth 100000
set_option maxHeartbeats 2000000
namespace Go.Proofs.YtemgclojolmhbaaGreat.A
open Go Go.Abs Go.RowKit
def fstE (r : List Int) (a : Nat) : Int := if r.getD a 0 = (a : Int) then -1 else if (a : Int) < r.getD a 0 then 1 else 0
def fstP (n : Nat) (r : List Int) (a : Nat) : List Int := (List.range n).map fun b => if b < a then fstE r b else 0
theorem za7 (n : Nat) (r : List Int) (a : Nat) : (fstP n r a).length = n := by simp [fstP]
theorem fstP_zero (n : Nat) (r : List Int) : fstP n r 0 = List.replicate n 0 := by
  unfold fstP
  rw [List.eq_replicate_iff]
  simp
theorem fstP_full (n : Nat) (r : List Int) : fstP n r n = fstR n r := by
  unfold fstP fstR
  refine List.map_congr_left fun a ha => ?_
  rw [if_pos (List.mem_range.1 ha)]
  rfl
theorem zh7 (n : Nat) (r : List Int) (a b : Nat) (h : b < n) : (fstP n r a).getD b 0 = if b < a then fstE r b else 0 := by
  unfold fstP
  rw [List.getD_eq_getElem?_getD, List.getElem?_map, List.getElem?_range h]
  rfl
theorem zh6 {n : Nat} {r : List Int} {a : Nat} (h : a < n) : (fstP n r a).set a (fstE r a) = fstP n r (a + 1) := by
  refine zcP (n := n) (by rw [List.length_set, za7]) (za7 _ _ _) fun b hb => ?_
  rw [zcO _ _ _ _ (by rw [za7]; omega), zh7 _ _ _ _ hb, zh7 _ _ _ _ hb]
  by_cases e : b = a
  · rw [if_pos e, if_pos (by omega), e]
  · rw [if_neg e]
    by_cases e2 : b < a
    · rw [if_pos e2, if_pos (by omega)]
    · rw [if_neg e2, if_neg (by omega)]
theorem fstP_zero' {n : Nat} {r : List Int} {a : Nat} (h : a < n) (h0 : fstE r a = 0) : fstP n r (a + 1) = fstP n r a := by
  refine zcP (n := n) (za7 _ _ _) (za7 _ _ _) fun b hb => ?_
  rw [zh7 _ _ _ _ hb, zh7 _ _ _ _ hb]
  by_cases e : b = a
  · rw [if_pos (by omega), if_neg (by omega), e, h0]
  · by_cases e2 : b < a
    · rw [if_pos e2, if_pos (by omega)]
    · rw [if_neg e2, if_neg (by omega)]
theorem zhW (n i : Nat) (l : List Int) : fstV n (i + 1) l = fstV n i l ++ [fstR n (rnd l i)] := by
  unfold fstV
  rw [List.range_succ, List.map_append]
  rfl
theorem zf4 (n i : Nat) (l : List Int) : (fstV n i l).length = i := by simp [fstV]
theorem zdT (n : Nat) (v : Value) (k : Nat) (l : List Int) (H : AH) (hb : schedB n k l = true) (hv : Rd 14 H v k l) :
    ACalls Tryz.prog 39 [.agg #[.int .i64 n, v]] H (fun w H' => Ow H H' [.sl2 (Value.int .i64) 33 2 w (fstV n k l)]) := by
  refine ACalls.wf (by kernel_rfl) fun hs => za3 [.tmp 2] Tryz.func39 (by kernel_rfl) rfl rfl (Nat.le_of_ble_eq_true rfl) (by kernel_rfl) ?_
  obtain ⟨⟨hn2, hn14⟩, hk40, hro⟩ := zaT hb
  have hone := hv.one
  have hlv := hv.len
  have o1 := ((Ow.refl hs).push ⟨26, true, [.int .i64 n, v]⟩).pushSl2 (Value.int .i64) 33 2
  have e1 := (o1.rowAt 0 rfl).1
  have np : ¬ H.next = H.next + 1 := by omega
  have zz : zeros 0 [.slice none 0 0] = [] := rfl
  try simp (disch := first | omega | (simp only [za1, List.length_replicate, List.length_set, za7] <;> omega)) only [Sall,evalOp,init,binA_s,binE,binI,unE,convE,okNil,builtE,gv,TD.isAgg,resV,↓reduceIte,Nat.reduceEqDiff,reduceCtorEq,Nat.reduceAdd,Nat.reduceMul,Nat.reduceLeDiff,za0,za2,Int.reduceEq,Int.reduceLT,Int.reduceLE,Nat.reduceLT,tiA,tiXA, hone, zz, np, builtE, hlv]
  (repeat refine And.intro (by omega) ?_)
  refine za5 (fun m t H' => ∃ (i : Nat) (w : Value), m = k - i ∧ i ≤ k ∧ t 12 = .int .i64 i ∧ t 11 = .int .i64 k ∧ t 10 = v ∧ t 3 = w ∧ t 1 = .pointer (some ⟨H.next, 0, none⟩) ∧ Ow H H' [.row H.next ⟨26, true, [.int .i64 n, v]⟩, .sl2 (Value.int .i64) 33 2 w (fstV n i l)]) k ?_ ?_
  · refine ⟨0, .slice (some ⟨H.next + 1, 0, some 1⟩) 0 0, by omega, by omega, ?_⟩
    try simp (disch := first | omega | (simp only [za1, List.length_replicate, List.length_set, za7] <;> omega)) only [Sall,evalOp,init,binA_s,binE,binI,unE,convE,okNil,builtE,gv,TD.isAgg,resV,↓reduceIte,Nat.reduceEqDiff,reduceCtorEq,Nat.reduceAdd,Nat.reduceMul,Nat.reduceLeDiff,za0,za2,Int.reduceEq,Int.reduceLT,Int.reduceLE,Nat.reduceLT,tiA,tiXA, Int.natCast_zero]
    exact o1
  · rintro m t H' ⟨i, w, hm, hi, h12, h11, h10, h3, h1, o2⟩
    have hw := (o2.rd2 1 rfl).one
    try simp (disch := first | omega | (simp only [za1, List.length_replicate, List.length_set, za7] <;> omega)) only [Sall,evalOp,init,binA_s,binE,binI,unE,convE,okNil,builtE,gv,TD.isAgg,resV,↓reduceIte,Nat.reduceEqDiff,reduceCtorEq,Nat.reduceAdd,Nat.reduceMul,Nat.reduceLeDiff,za0,za2,Int.reduceEq,Int.reduceLT,Int.reduceLE,Nat.reduceLT,tiA,tiXA, h12, h11]
    refine za4 (fun hh => ?_) (fun hh => ?_)
    · have hik : i < k := by omega
      have hr := hro i hik
      have hrl : (rnd l i).length = 14 := zbF l i k hv.1 hik
      obtain ⟨qi, qo, qu, qc, qr, ev, q1, q2, q3, q4⟩ := (hv.same (o2.old hs)).get (by omega)
      have hseg := q4 (i * 14) 14 (by omega)
      subst ev
      have npi : ¬ H.next = H'.next := by have := (o2.rowAt 0 rfl).2.2; omega
      have npi1 : ¬ H.next = H'.next + 1 := by have := (o2.rowAt 0 rfl).2.2; omega
      have npi2 : ¬ H'.next = H'.next + 1 := by omega
      have e3 := (o2.rowAt 0 rfl).1
      obtain ⟨r, er⟩ : ∃ r, r = rnd l i := ⟨_, rfl⟩
      have hq4 : seg qr.cells (qo + i * 14) 14 = ints r := by rw [er]; exact hseg
      have o3 := ((o2.push ⟨67, true, ints (List.replicate 14 0)⟩).putRow 2 rfl (cs' := ints r)).pushSl (k := 1) (n := n) (ty := 2) (vs := ints (List.replicate n 0)) (by simp [ints])
      have hr14 : r.length = 14 := by rw [er]; exact hrl
      have hsp : splice (ints (List.replicate 14 0)) 0 (ints r) = ints r := by
        unfold splice
        rw [List.take_zero, List.nil_append, List.drop_eq_nil_of_le (by simp [za1, hr14]), List.append_nil]
      have hik2 : (i : Int) < (k : Int) := hh
      have zn : zeros n [.int .i64 0] = ints (List.replicate n 0) := by simp [zeros, ints]
      try simp (disch := first | omega | (simp only [za1, List.length_replicate, List.length_set, za7] <;> omega)) only [Sall,evalOp,init,binA_s,binE,binI,unE,convE,okNil,builtE,gv,TD.isAgg,resV,↓reduceIte,Nat.reduceEqDiff,reduceCtorEq,Nat.reduceAdd,Nat.reduceMul,Nat.reduceLeDiff,za0,za2,Int.reduceEq,Int.reduceLT,Int.reduceLE,Nat.reduceLT,tiA,tiXA, h12, h11, h10, q1, hq4, hr14, hsp, h1, h3, e3, npi, npi1, npi2, hik2, zn, hone]
      (repeat refine And.intro (by omega) ?_)
      try simp (disch := first | omega | (simp only [za1, List.length_replicate, List.length_set, za7] <;> omega)) only [Sall,evalOp,init,binA_s,binE,binI,unE,convE,okNil,builtE,gv,TD.isAgg,resV,↓reduceIte,Nat.reduceEqDiff,reduceCtorEq,Nat.reduceAdd,Nat.reduceMul,Nat.reduceLeDiff,za0,za2,Int.reduceEq,Int.reduceLT,Int.reduceLE,Nat.reduceLT,tiA,tiXA, h12, h11, h10, q1, hq4, hr14, hsp, h1, h3, e3, npi, npi1, npi2, hik2, zn, hone]
      (repeat refine And.intro (by omega) ?_)
      obtain ⟨ri, eri⟩ : ∃ ri, ri = H'.next := ⟨_, rfl⟩
      rw [← eri] at o3 ⊢
      obtain ⟨H2, eH2⟩ : ∃ H2, H2 = ((H'.push ⟨67, true, ints (List.replicate 14 0)⟩).setCells ri (ints r)).push ⟨2, true, ints (List.replicate n 0)⟩ := ⟨_, rfl⟩
      have o3 : Ow H H2 [.row H.next ⟨26, true, [.int .i64 n, .slice (some ⟨qi, qo, qu⟩) k qc]⟩, .sl2 (Value.int .i64) 33 2 w (fstV n i l), .row ri ⟨67, true, ints r⟩, .sl 1 2 (.slice (some ⟨ri + 1, 0, some 1⟩) n n) n (ints (List.replicate n 0))] := by rw [eH2, eri]; rw [eri] at o3; exact o3
      rw [← eH2]
      clear eH2
      have hcv : ∀ a, fstE r a = if r.getD a 0 = (a : Int) then -1 else if (a : Int) < r.getD a 0 then 1 else 0 := fun a => rfl
      rw [← fstP_zero n r] at o3
      refine za5 (fun m' t Hx => ∃ a : Nat, m' = n - a ∧ a ≤ n ∧ t 21 = .int .i64 a ∧ t 20 = .int .i64 n ∧ t 6 = .slice (some ⟨ri + 1, 0, some 1⟩) n n ∧ t 5 = .pointer (some ⟨ri, 0, none⟩) ∧ t 12 = .int .i64 i ∧ t 11 = .int .i64 k ∧ t 10 = .slice (some ⟨qi, qo, qu⟩) k qc ∧ t 3 = w ∧ t 1 = .pointer (some ⟨H.next, 0, none⟩) ∧ Ow H Hx [.row H.next ⟨26, true, [.int .i64 n, .slice (some ⟨qi, qo, qu⟩) k qc]⟩, .sl2 (Value.int .i64) 33 2 w (fstV n i l), .row ri ⟨67, true, ints r⟩, .sl 1 2 (.slice (some ⟨ri + 1, 0, some 1⟩) n n) n (ints (fstP n r a))]) n ?_ ?_
      · refine ⟨0, by omega, by omega, ?_⟩
        try simp (disch := first | omega | (simp only [za1, List.length_replicate, List.length_set, za7] <;> omega)) only [Sall,evalOp,init,binA_s,binE,binI,unE,convE,okNil,builtE,gv,TD.isAgg,resV,↓reduceIte,Nat.reduceEqDiff,reduceCtorEq,Nat.reduceAdd,Nat.reduceMul,Nat.reduceLeDiff,za0,za2,Int.reduceEq,Int.reduceLT,Int.reduceLE,Nat.reduceLT,tiA,tiXA, Int.natCast_zero, h12, h11, h10, h3, h1]
        exact o3
      · rintro m' t Hx ⟨a, hm', ha, h21, h20, h6, h5, h12, h11, h10, h3, h1, o4⟩
        try simp (disch := first | omega | (simp only [za1, List.length_replicate, List.length_set, za7] <;> omega)) only [Sall,evalOp,init,binA_s,binE,binI,unE,convE,okNil,builtE,gv,TD.isAgg,resV,↓reduceIte,Nat.reduceEqDiff,reduceCtorEq,Nat.reduceAdd,Nat.reduceMul,Nat.reduceLeDiff,za0,za2,Int.reduceEq,Int.reduceLT,Int.reduceLE,Nat.reduceLT,tiA,tiXA, h21, h20]
        refine za4 (fun hh2 => ?_) (fun hh2 => ?_)
        · have han : a < n := by omega
          obtain ⟨_, g1, g2, _⟩ := zbR (n := (n : Int)) (r := r) (by rw [er]; exact hr) (a := a) (by omega)
          obtain ⟨b, eb⟩ : ∃ b : Nat, r.getD a 0 = b := ⟨(r.getD a 0).toNat, by omega⟩
          rw [eb] at g1 g2
          have ka : (ints r)[a]? = some (.int .i64 (b : Int)) := by rw [← eb]; exact ints_get? r a (by omega)
          have e5 := (o4.rowAt 2 rfl).1
          have e6 := (o4.getV 3 rfl).2.2
          have hcva := hcv a
          rw [eb] at hcva
          have wa : IntKind.i64.wrap ((a : Int) + 1) = ((a + 1 : Nat) : Int) := w64 ⟨by omega, by omega⟩
          try simp (disch := first | omega | (simp only [za1, List.length_replicate, List.length_set, za7] <;> omega)) only [Sall,evalOp,init,binA_s,binE,binI,unE,convE,okNil,builtE,gv,TD.isAgg,resV,↓reduceIte,Nat.reduceEqDiff,reduceCtorEq,Nat.reduceAdd,Nat.reduceMul,Nat.reduceLeDiff,za0,za2,Int.reduceEq,Int.reduceLT,Int.reduceLE,Nat.reduceLT,tiA,tiXA, h21, h5, h6, e5, ka, hr14]
          (repeat refine And.intro (by omega) ?_)
          by_cases hab : b = a
          · have q1' : ((b : Int) == (a : Int)) = true := by rw [hab]; exact beq_self_eq_true _
            rw [if_pos (by omega)] at hcva
            have op := o4.put 3 rfl (vs' := (ints (fstP n r a)).set a (.int .i64 (-1))) (by simp)
            try simp (disch := first | omega | (simp only [za1, List.length_replicate, List.length_set, za7] <;> omega)) only [Sall,evalOp,init,binA_s,binE,binI,unE,convE,okNil,builtE,gv,TD.isAgg,resV,↓reduceIte,Nat.reduceEqDiff,reduceCtorEq,Nat.reduceAdd,Nat.reduceMul,Nat.reduceLeDiff,za0,za2,Int.reduceEq,Int.reduceLT,Int.reduceLE,Nat.reduceLT,tiA,tiXA, h21, h20, h5, h6, e5, e6, ka, hr14, q1', h12, h11, h10, h3, h1, wa]
            refine ⟨⟨by omega, by omega⟩, by rw [za7]; omega, n - (a + 1), by omega, a + 1, rfl, by omega, rfl, ?_⟩
            rw [← zh6 han, hcva, ← zaR]
            exact op
          · have q1' : ((b : Int) == (a : Int)) = false := beq_eq_false_iff_ne.2 (by omega)
            rw [if_neg (by omega)] at hcva
            by_cases hlt : a < b
            · have q2' : decide ((a : Int) < (b : Int)) = true := decide_eq_true (by omega)
              rw [if_pos (by omega)] at hcva
              have op := o4.put 3 rfl (vs' := (ints (fstP n r a)).set a (.int .i64 1)) (by simp)
              try simp (disch := first | omega | (simp only [za1, List.length_replicate, List.length_set, za7] <;> omega)) only [Sall,evalOp,init,binA_s,binE,binI,unE,convE,okNil,builtE,gv,TD.isAgg,resV,↓reduceIte,Nat.reduceEqDiff,reduceCtorEq,Nat.reduceAdd,Nat.reduceMul,Nat.reduceLeDiff,za0,za2,Int.reduceEq,Int.reduceLT,Int.reduceLE,Nat.reduceLT,tiA,tiXA, h21, h20, h5, h6, e5, e6, ka, hr14, q1', q2', h12, h11, h10, h3, h1, wa]
              refine ⟨⟨by omega, by omega⟩, ⟨by omega, by omega⟩, by rw [za7]; omega, n - (a + 1), by omega, a + 1, rfl, by omega, rfl, ?_⟩
              rw [← zh6 han, hcva, ← zaR]
              exact op
            · have q2' : decide ((a : Int) < (b : Int)) = false := decide_eq_false (by omega)
              rw [if_neg (by omega)] at hcva
              try simp (disch := first | omega | (simp only [za1, List.length_replicate, List.length_set, za7] <;> omega)) only [Sall,evalOp,init,binA_s,binE,binI,unE,convE,okNil,builtE,gv,TD.isAgg,resV,↓reduceIte,Nat.reduceEqDiff,reduceCtorEq,Nat.reduceAdd,Nat.reduceMul,Nat.reduceLeDiff,za0,za2,Int.reduceEq,Int.reduceLT,Int.reduceLE,Nat.reduceLT,tiA,tiXA, h21, h20, h5, h6, e5, e6, ka, hr14, q1', q2', h12, h11, h10, h3, h1, wa]
              refine ⟨⟨by omega, by omega⟩, n - (a + 1), by omega, a + 1, rfl, by omega, rfl, ?_⟩
              rw [fstP_zero' han hcva]
              exact o4
        · have hae : a = n := by omega
          rw [hae, fstP_full] at o4
          have hu := o4.one 3 rfl
          have hw4 := (o4.rd2 1 rfl).one
          have z1 : zeros 1 [.slice none 0 0] = [.slice none 0 0] := rfl
          try simp (disch := first | omega | (simp only [za1, List.length_replicate, List.length_set, za7] <;> omega)) only [Sall,evalOp,init,binA_s,binE,binI,unE,convE,okNil,builtE,gv,TD.isAgg,resV,↓reduceIte,Nat.reduceEqDiff,reduceCtorEq,Nat.reduceAdd,Nat.reduceMul,Nat.reduceLeDiff,za0,za2,Int.reduceEq,Int.reduceLT,Int.reduceLE,Nat.reduceLT,tiA,tiXA, h6, h12, h11, h10, h3, h1, z1, zaL, hw4]
          (repeat refine And.intro (by omega) ?_)
          refine (o4.tmp ⟨33, true, [.slice (some ⟨ri + 1, 0, some 1⟩) n n]⟩).app2 (l := fstR n r) 1 3 rfl rfl (by omega) rfl (by decide) (by rw [zf4]; omega) ?_
          intro v' H5 n5 o5
          have wi : IntKind.i64.wrap ((i : Int) + 1) = ((i + 1 : Nat) : Int) := w64 ⟨by omega, by omega⟩
          try simp (disch := first | omega | (simp only [za1, List.length_replicate, List.length_set, za7] <;> omega)) only [Sall,evalOp,init,binA_s,binE,binI,unE,convE,okNil,builtE,gv,TD.isAgg,resV,↓reduceIte,Nat.reduceEqDiff,reduceCtorEq,Nat.reduceAdd,Nat.reduceMul,Nat.reduceLeDiff,za0,za2,Int.reduceEq,Int.reduceLT,Int.reduceLE,Nat.reduceLT,tiA,tiXA, h12, h11, h10, h3, h1, wi]
          refine ⟨k - (i + 1), by omega, i + 1, v', rfl, by omega, rfl, rfl, ?_⟩
          rw [zhW, ← er]
          exact o5.pick2 0 1 rfl rfl (by decide)
    · have hie : i = k := by omega
      rw [hie] at o2
      try simp (disch := first | omega | (simp only [za1, List.length_replicate, List.length_set, za7] <;> omega)) only [Sall,evalOp,init,binA_s,binE,binI,unE,convE,okNil,builtE,gv,TD.isAgg,resV,↓reduceIte,Nat.reduceEqDiff,reduceCtorEq,Nat.reduceAdd,Nat.reduceMul,Nat.reduceLeDiff,za0,za2,Int.reduceEq,Int.reduceLT,Int.reduceLE,Nat.reduceLT,tiA,tiXA, h3]
      exact o2.only 1 rfl
theorem FirstVenues_c (q : Int) (v : Value) (k : Nat) (l : List Int) (H : AH) (hv : Rd 14 H v k l) (hk : k ≤ 4294967296) (hb : schedB q k l = true) :
    ACalls Tryz.prog 8 [.agg #[.int .i64 q, v]] H (fun r H' => ∃ w, r = .tuple #[w, .int .i64 0] ∧ Ow H H' [.sl2 (Value.int .i64) 33 2 w (fstV q.toNat k l)]) := by
  refine ACalls.wf (by kernel_rfl) fun hs => za3 [.tmp 2, .tmp 3] Tryz.func8 (by kernel_rfl) rfl rfl (Nat.le_of_ble_eq_true rfl) (by kernel_rfl) ?_
  obtain ⟨⟨hq2, hq14⟩, _, _⟩ := zaT hb
  obtain ⟨n, rfl⟩ : ∃ n : Nat, q = n := ⟨q.toNat, by omega⟩
  rw [Int.toNat_natCast]
  have hone := hv.one
  have o1 := (Ow.refl hs).push ⟨26, true, [.int .i64 n, v]⟩
  try simp (disch := first | omega | (simp only [za1, List.length_replicate, List.length_set, za7] <;> omega)) only [Sall,evalOp,init,binA_s,binE,binI,unE,convE,okNil,builtE,gv,TD.isAgg,resV,↓reduceIte,Nat.reduceEqDiff,reduceCtorEq,Nat.reduceAdd,Nat.reduceMul,Nat.reduceLeDiff,za0,za2,Int.reduceEq,Int.reduceLT,Int.reduceLE,Nat.reduceLT,tiA,tiXA, hone]
  have e1 := (o1.rowAt 0 rfl).1
  have hv1 := hv.same (o1.old hs)
  revert o1 e1 hv1
  generalize H.push ⟨26, true, [.int .i64 n, v]⟩ = H1
  intro o1 e1 hv1
  refine (zbQ n v k l 37 [] true H1 hv1 hk fun H' _ _ => zfT H').to ?_
  refine Holds.mp ?_
  have hC : codeS n k l true = 0 := by unfold codeS; rw [if_pos hb]; rfl
  have c0 : ((0 : Int) != 0) = false := rfl
  try simp (disch := first | omega | (simp only [za1, List.length_replicate, List.length_set, za7] <;> omega)) only [Sall,evalOp,init,binA_s,binE,binI,unE,convE,okNil,builtE,gv,TD.isAgg,resV,↓reduceIte,Nat.reduceEqDiff,reduceCtorEq,Nat.reduceAdd,Nat.reduceMul,Nat.reduceLeDiff,za0,za2,Int.reduceEq,Int.reduceLT,Int.reduceLE,Nat.reduceLT,tiA,tiXA, hC, c0, e1, hone]
  refine ACalls.mono (zdT n v k l H1 hb hv1) ?_
  intro w H2 o2
  have hw := (o2.rd2 0 rfl).one
  refine Holds.mp ?_
  try simp (disch := first | omega | (simp only [za1, List.length_replicate, List.length_set, za7] <;> omega)) only [Sall,evalOp,init,binA_s,binE,binI,unE,convE,okNil,builtE,gv,TD.isAgg,resV,↓reduceIte,Nat.reduceEqDiff,reduceCtorEq,Nat.reduceAdd,Nat.reduceMul,Nat.reduceLeDiff,za0,za2,Int.reduceEq,Int.reduceLT,Int.reduceLE,Nat.reduceLT,tiA,tiXA, hw]
  exact ⟨w, rfl, (o1.call o2).only 1 rfl⟩
theorem l05FirstV_c (n : Nat) (v : Value) (k : Nat) (l : List Int) (H : AH) (hn14 : n ≤ 14) (hk40 : k ≤ 4294967290) (hro : ∀ i, i < k → ∀ a, a < n → 0 ≤ (rnd l i).getD a 0 ∧ (rnd l i).getD a 0 ≤ 14) (hv : Rd 14 H v k l) :
    ACalls Tryz.prog 83 [.agg #[.int .i64 n, v]] H (fun w H' => Ow H H' [.sl2 (Value.int .i64) 33 2 w (fstV n k l)]) := by
  refine ACalls.wf (by kernel_rfl) fun hs => za3 [.tmp 2] Tryz.func83 (by kernel_rfl) rfl rfl (Nat.le_of_ble_eq_true rfl) (by kernel_rfl) ?_
  have hone := hv.one
  have hlv := hv.len
  have o1 := ((Ow.refl hs).push ⟨26, true, [.int .i64 n, v]⟩).pushSl2 (Value.int .i64) 33 2
  have zz : zeros 0 [.slice none 0 0] = [] := rfl
  try simp (disch := first | omega | (simp only [za1, List.length_replicate, List.length_set, za7] <;> omega)) only [Sall,evalOp,init,binA_s,binE,binI,unE,convE,okNil,builtE,gv,TD.isAgg,resV,↓reduceIte,Nat.reduceEqDiff,reduceCtorEq,Nat.reduceAdd,Nat.reduceMul,Nat.reduceLeDiff,za0,za2,Int.reduceEq,Int.reduceLT,Int.reduceLE,Nat.reduceLT,tiA,tiXA, hone, zz]
  (repeat refine And.intro (by omega) ?_)
  refine za5 (fun m t H' => ∃ (i : Nat) (w : Value), m = k - i ∧ i ≤ k ∧ t 4 = .int .i64 i ∧ t 3 = w ∧ t 1 = .pointer (some ⟨H.next, 0, none⟩) ∧ Ow H H' [.row H.next ⟨26, true, [.int .i64 n, v]⟩, .sl2 (Value.int .i64) 33 2 w (fstV n i l)]) k ?_ ?_
  · refine ⟨0, .slice (some ⟨H.next + 1, 0, some 1⟩) 0 0, by omega, by omega, ?_⟩
    try simp (disch := first | omega | (simp only [za1, List.length_replicate, List.length_set, za7] <;> omega)) only [Sall,evalOp,init,binA_s,binE,binI,unE,convE,okNil,builtE,gv,TD.isAgg,resV,↓reduceIte,Nat.reduceEqDiff,reduceCtorEq,Nat.reduceAdd,Nat.reduceMul,Nat.reduceLeDiff,za0,za2,Int.reduceEq,Int.reduceLT,Int.reduceLE,Nat.reduceLT,tiA,tiXA, Int.natCast_zero]
    exact o1
  · rintro m t H' ⟨i, w, hm, hi, h4, h3, h1, o2⟩
    have hw := (o2.rd2 1 rfl).one
    have e1 := (o2.rowAt 0 rfl).1
    try simp (disch := first | omega | (simp only [za1, List.length_replicate, List.length_set, za7] <;> omega)) only [Sall,evalOp,init,binA_s,binE,binI,unE,convE,okNil,builtE,gv,TD.isAgg,resV,↓reduceIte,Nat.reduceEqDiff,reduceCtorEq,Nat.reduceAdd,Nat.reduceMul,Nat.reduceLeDiff,za0,za2,Int.reduceEq,Int.reduceLT,Int.reduceLE,Nat.reduceLT,tiA,tiXA, h4, h3, h1, e1, builtE, hlv]
    refine za4 (fun hh => ?_) (fun hh => ?_)
    · have hik : i < k := by omega
      have hr := hro i hik
      have hrl : (rnd l i).length = 14 := zbF l i k hv.1 hik
      have zz : zeros 0 [.int .i64 0] = ints [] := rfl
      have o3 := o2.pushSl (k := 1) (n := 0) (ty := 2) (vs := ints []) rfl
      obtain ⟨r, er⟩ : ∃ r, r = rnd l i := ⟨_, rfl⟩
      try simp (disch := first | omega | (simp only [za1, List.length_replicate, List.length_set, za7] <;> omega)) only [Sall,evalOp,init,binA_s,binE,binI,unE,convE,okNil,builtE,gv,TD.isAgg,resV,↓reduceIte,Nat.reduceEqDiff,reduceCtorEq,Nat.reduceAdd,Nat.reduceMul,Nat.reduceLeDiff,za0,za2,Int.reduceEq,Int.reduceLT,Int.reduceLE,Nat.reduceLT,tiA,tiXA, h4, h3, h1, zz]
      (repeat refine And.intro (by omega) ?_)
      refine za5 (fun m' t Hx => ∃ (a : Nat) (u : Value), m' = n - a ∧ a ≤ n ∧ t 6 = .int .i64 a ∧ t 5 = u ∧ t 4 = .int .i64 i ∧ t 3 = w ∧ t 1 = .pointer (some ⟨H.next, 0, none⟩) ∧ Ow H Hx [.row H.next ⟨26, true, [.int .i64 n, v]⟩, .sl2 (Value.int .i64) 33 2 w (fstV n i l), .sl 1 2 u a (ints ((List.range a).map (fstE r)))]) n ?_ ?_
      · refine ⟨0, .slice (some ⟨H'.next, 0, some 1⟩) 0 0, by omega, by omega, ?_⟩
        try simp (disch := first | omega | (simp only [za1, List.length_replicate, List.length_set, za7] <;> omega)) only [Sall,evalOp,init,binA_s,binE,binI,unE,convE,okNil,builtE,gv,TD.isAgg,resV,↓reduceIte,Nat.reduceEqDiff,reduceCtorEq,Nat.reduceAdd,Nat.reduceMul,Nat.reduceLeDiff,za0,za2,Int.reduceEq,Int.reduceLT,Int.reduceLE,Nat.reduceLT,tiA,tiXA, Int.natCast_zero, h4, h3, h1]
        exact o3
      · rintro m' t Hx ⟨a, u, hm', ha, h6, h5, h4, h3, h1, o4⟩
        have e1 := (o4.rowAt 0 rfl).1
        have hu := o4.one 2 rfl
        try simp (disch := first | omega | (simp only [za1, List.length_replicate, List.length_set, za7] <;> omega)) only [Sall,evalOp,init,binA_s,binE,binI,unE,convE,okNil,builtE,gv,TD.isAgg,resV,↓reduceIte,Nat.reduceEqDiff,reduceCtorEq,Nat.reduceAdd,Nat.reduceMul,Nat.reduceLeDiff,za0,za2,Int.reduceEq,Int.reduceLT,Int.reduceLE,Nat.reduceLT,tiA,tiXA, h6, h1, e1]
        refine za4 (fun hh2 => ?_) (fun hh2 => ?_)
        · have han : a < n := by omega
          obtain ⟨g1, g2⟩ := hr a han
          rw [← er] at g1 g2
          obtain ⟨b, eb⟩ : ∃ b : Nat, r.getD a 0 = b := ⟨(r.getD a 0).toNat, by omega⟩
          rw [eb] at g1 g2
          obtain ⟨qi, qo, qu, qc, qr, ev, q1, q2, q3, q4⟩ := (hv.same (o4.old hs)).get (by omega)
          subst ev
          have ka : qr.cells[qo + i * 14 + a]? = some (.int .i64 (b : Int)) := by
            have h3 := q3 (i * 14 + a) (by omega)
            rw [Nat.add_assoc, h3, ← eb, er]
            unfold rnd
            rw [List.getD_eq_getElem?_getD (l := List.take _ _), List.getElem?_take, if_pos (by omega), List.getElem?_drop, ← List.getD_eq_getElem?_getD]
          have hik2 : (i : Int) < (k : Int) := by omega
          have hcva : fstE r a = if (b : Int) = (a : Int) then -1 else if (a : Int) < (b : Int) then 1 else 0 := by unfold fstE; rw [eb]
          have wa : IntKind.i64.wrap ((a : Int) + 1) = ((a + 1 : Nat) : Int) := w64 ⟨by omega, by omega⟩
          have z1 : zeros 1 [.int .i64 0] = [.int .i64 0] := rfl
          have hsuc : (List.range (a + 1)).map (fstE r) = (List.range a).map (fstE r) ++ [fstE r a] := by rw [List.range_succ, List.map_append]; rfl
          try simp (disch := first | omega | (simp only [za1, List.length_replicate, List.length_set, za7] <;> omega)) only [Sall,evalOp,init,binA_s,binE,binI,unE,convE,okNil,builtE,gv,TD.isAgg,resV,↓reduceIte,Nat.reduceEqDiff,reduceCtorEq,Nat.reduceAdd,Nat.reduceMul,Nat.reduceLeDiff,za0,za2,Int.reduceEq,Int.reduceLT,Int.reduceLE,Nat.reduceLT,tiA,tiXA, h6, h5, h4, h3, h1, e1, q1, ka, hik2]
          (repeat refine And.intro (by omega) ?_)
          try simp (disch := first | omega | (simp only [za1, List.length_replicate, List.length_set, za7] <;> omega)) only [Sall,evalOp,init,binA_s,binE,binI,unE,convE,okNil,builtE,gv,TD.isAgg,resV,↓reduceIte,Nat.reduceEqDiff,reduceCtorEq,Nat.reduceAdd,Nat.reduceMul,Nat.reduceLeDiff,za0,za2,Int.reduceEq,Int.reduceLT,Int.reduceLE,Nat.reduceLT,tiA,tiXA, h6, h5, h4, h3, h1, e1, q1, ka, hik2]
          by_cases hab : b = a
          · have q1' : ((a : Int) == (b : Int)) = true := by rw [hab]; exact beq_self_eq_true _
            rw [if_pos (by omega)] at hcva
            try simp (disch := first | omega | (simp only [za1, List.length_replicate, List.length_set, za7] <;> omega)) only [Sall,evalOp,init,binA_s,binE,binI,unE,convE,okNil,builtE,gv,TD.isAgg,resV,↓reduceIte,Nat.reduceEqDiff,reduceCtorEq,Nat.reduceAdd,Nat.reduceMul,Nat.reduceLeDiff,za0,za2,Int.reduceEq,Int.reduceLT,Int.reduceLE,Nat.reduceLT,tiA,tiXA, h6, h5, h4, h3, h1, q1', z1, hu, zaL]
            (repeat refine And.intro (by omega) ?_)
            refine (o4.tmp ⟨2, true, [.int .i64 (-1)]⟩).app 2 (c := 1) (ms := ints [-1]) rfl rfl (by omega) rfl (by omega) (by decide) (by omega) ?_
            intro v' H3 n3 o6
            try simp (disch := first | omega | (simp only [za1, List.length_replicate, List.length_set, za7] <;> omega)) only [Sall,evalOp,init,binA_s,binE,binI,unE,convE,okNil,builtE,gv,TD.isAgg,resV,↓reduceIte,Nat.reduceEqDiff,reduceCtorEq,Nat.reduceAdd,Nat.reduceMul,Nat.reduceLeDiff,za0,za2,Int.reduceEq,Int.reduceLT,Int.reduceLE,Nat.reduceLT,tiA,tiXA, h6, h4, h3, h1, wa]
            refine ⟨n - (a + 1), by omega, a + 1, v', rfl, by omega, rfl, rfl, ?_⟩
            rw [hsuc, hcva]
            rw [zaK] at o6
            exact o6
          · have q1' : ((a : Int) == (b : Int)) = false := beq_eq_false_iff_ne.2 (by omega)
            rw [if_neg (by omega)] at hcva
            by_cases hlt : a < b
            · have q2' : decide ((a : Int) < (b : Int)) = true := decide_eq_true (by omega)
              rw [if_pos (by omega)] at hcva
              try simp (disch := first | omega | (simp only [za1, List.length_replicate, List.length_set, za7] <;> omega)) only [Sall,evalOp,init,binA_s,binE,binI,unE,convE,okNil,builtE,gv,TD.isAgg,resV,↓reduceIte,Nat.reduceEqDiff,reduceCtorEq,Nat.reduceAdd,Nat.reduceMul,Nat.reduceLeDiff,za0,za2,Int.reduceEq,Int.reduceLT,Int.reduceLE,Nat.reduceLT,tiA,tiXA, h6, h5, h4, h3, h1, q1', q2', z1, hu, zaL]
              (repeat refine And.intro (by omega) ?_)
              refine (o4.tmp ⟨2, true, [.int .i64 1]⟩).app 2 (c := 1) (ms := ints [1]) rfl rfl (by omega) rfl (by omega) (by decide) (by omega) ?_
              intro v' H3 n3 o6
              try simp (disch := first | omega | (simp only [za1, List.length_replicate, List.length_set, za7] <;> omega)) only [Sall,evalOp,init,binA_s,binE,binI,unE,convE,okNil,builtE,gv,TD.isAgg,resV,↓reduceIte,Nat.reduceEqDiff,reduceCtorEq,Nat.reduceAdd,Nat.reduceMul,Nat.reduceLeDiff,za0,za2,Int.reduceEq,Int.reduceLT,Int.reduceLE,Nat.reduceLT,tiA,tiXA, h6, h4, h3, h1, wa]
              refine ⟨n - (a + 1), by omega, a + 1, v', rfl, by omega, rfl, rfl, ?_⟩
              rw [hsuc, hcva]
              rw [zaK] at o6
              exact o6
            · have q2' : decide ((a : Int) < (b : Int)) = false := decide_eq_false (by omega)
              rw [if_neg (by omega)] at hcva
              try simp (disch := first | omega | (simp only [za1, List.length_replicate, List.length_set, za7] <;> omega)) only [Sall,evalOp,init,binA_s,binE,binI,unE,convE,okNil,builtE,gv,TD.isAgg,resV,↓reduceIte,Nat.reduceEqDiff,reduceCtorEq,Nat.reduceAdd,Nat.reduceMul,Nat.reduceLeDiff,za0,za2,Int.reduceEq,Int.reduceLT,Int.reduceLE,Nat.reduceLT,tiA,tiXA, h6, h5, h4, h3, h1, q1', q2', z1, hu, zaL]
              (repeat refine And.intro (by omega) ?_)
              refine (o4.tmp ⟨2, true, [.int .i64 0]⟩).app 2 (c := 1) (ms := ints [0]) rfl rfl (by omega) rfl (by omega) (by decide) (by omega) ?_
              intro v' H3 n3 o6
              try simp (disch := first | omega | (simp only [za1, List.length_replicate, List.length_set, za7] <;> omega)) only [Sall,evalOp,init,binA_s,binE,binI,unE,convE,okNil,builtE,gv,TD.isAgg,resV,↓reduceIte,Nat.reduceEqDiff,reduceCtorEq,Nat.reduceAdd,Nat.reduceMul,Nat.reduceLeDiff,za0,za2,Int.reduceEq,Int.reduceLT,Int.reduceLE,Nat.reduceLT,tiA,tiXA, h6, h4, h3, h1, wa]
              refine ⟨n - (a + 1), by omega, a + 1, v', rfl, by omega, rfl, rfl, ?_⟩
              rw [hsuc, hcva]
              rw [zaK] at o6
              exact o6
        · have hae : a = n := by omega
          rw [hae] at o4
          have hw4 := (o4.rd2 1 rfl).one
          have z1 : zeros 1 [.slice none 0 0] = [.slice none 0 0] := rfl
          have hu := o4.one 2 rfl
          have hq1 := zbB hu
          have hq2 := zb0 hu
          have hq3 := fun r => ok_one (r := r) hu
          try simp (disch := first | omega | (simp only [za1, List.length_replicate, List.length_set, za7] <;> omega)) only [Sall,evalOp,init,binA_s,binE,binI,unE,convE,okNil,builtE,gv,TD.isAgg,resV,↓reduceIte,Nat.reduceEqDiff,reduceCtorEq,Nat.reduceAdd,Nat.reduceMul,Nat.reduceLeDiff,za0,za2,Int.reduceEq,Int.reduceLT,Int.reduceLE,Nat.reduceLT,tiA,tiXA, h5, h4, h3, h1, z1, hw4, hu, hq1, hq2, hq3, zaL]
          (repeat refine And.intro (by omega) ?_)
          refine (o4.tmp ⟨33, true, [u]⟩).app2 (l := fstR n r) 1 2 rfl rfl (by omega) rfl (by decide) (by rw [zf4]; omega) ?_
          intro v' H5 n5 o5
          have wi : IntKind.i64.wrap ((i : Int) + 1) = ((i + 1 : Nat) : Int) := w64 ⟨by omega, by omega⟩
          try simp (disch := first | omega | (simp only [za1, List.length_replicate, List.length_set, za7] <;> omega)) only [Sall,evalOp,init,binA_s,binE,binI,unE,convE,okNil,builtE,gv,TD.isAgg,resV,↓reduceIte,Nat.reduceEqDiff,reduceCtorEq,Nat.reduceAdd,Nat.reduceMul,Nat.reduceLeDiff,za0,za2,Int.reduceEq,Int.reduceLT,Int.reduceLE,Nat.reduceLT,tiA,tiXA, h4, h3, h1, wi]
          refine ⟨k - (i + 1), by omega, i + 1, v', rfl, by omega, rfl, rfl, ?_⟩
          rw [zhW, ← er]
          exact o5.pick2 0 1 rfl rfl (by decide)
    · have hie : i = k := by omega
      rw [hie] at o2
      try simp (disch := first | omega | (simp only [za1, List.length_replicate, List.length_set, za7] <;> omega)) only [Sall,evalOp,init,binA_s,binE,binI,unE,convE,okNil,builtE,gv,TD.isAgg,resV,↓reduceIte,Nat.reduceEqDiff,reduceCtorEq,Nat.reduceAdd,Nat.reduceMul,Nat.reduceLeDiff,za0,za2,Int.reduceEq,Int.reduceLT,Int.reduceLE,Nat.reduceLT,tiA,tiXA, h3]
      exact o2.only 1 rfl
end Go.Proofs.YtemgclojolmhbaaGreat.A
end

section
set_option maxRecDepth 100000
namespace Go.Proofs.YtemgclojolmhbaaGreat.A
open Go Go.Abs Go.RowKit
end Go.Proofs.YtemgclojolmhbaaGreat.A
end

section
set_option maxRecDepth 100000
namespace Go.Proofs.YtemgclojolmhbaaGreat.A
open Go Go.Abs Go.RowKit
end Go.Proofs.YtemgclojolmhbaaGreat.A
end

section
set_option maxRecDepth 100000
namespace Go.Proofs.YtemgclojolmhbaaGreat.A
open Go Go.Abs Go.RowKit
end Go.Proofs.YtemgclojolmhbaaGreat.A
end

section
set_option maxRecDepth 100000
set_option maxHeartbeats 2000000
namespace Go.Proofs.YtemgclojolmhbaaGreat.A
open Go Go.Abs Go.RowKit
end Go.Proofs.YtemgclojolmhbaaGreat.A
end

section
set_option maxRecDepth 100000
set_option maxHeartbeats 2000000
namespace Go.Proofs.YtemgclojolmhbaaGreat.A
open Go Go.Abs Go.RowKit
theorem zhC {q : Int} {k : Nat} {l : List Int} {b : Bool} (h : schedB q k l = true) (hb : b = true) : codeS q k l b = 0 := by unfold codeS; rw [if_pos h, if_pos hb]
theorem fr_nil (ty lo hi : Nat) (H : AH) : Fr 1 ty lo hi H (.slice none 0 0) 0 [] := ⟨rfl, .inl ⟨rfl, rfl⟩⟩
end Go.Proofs.YtemgclojolmhbaaGreat.A
end

section
set_option maxRecDepth 100000
set_option maxHeartbeats 2000000
namespace Go.Proofs.YtemgclojolmhbaaGreat.A
open Go Go.Abs Go.RowKit
theorem hasTeam_c (q : Int) (v : Value) (a : Int) (H : AH) (hq : 2 ≤ q ∧ q ≤ 14) (hone : v.oneCell' = true) : ACalls Tryz.prog 69 [.agg #[.int .i64 q, v], .int .i64 a] H (is (.bool (decide (0 ≤ a ∧ a ≤ q - 1))) H) := by
  refine zaY rfl (za3 [.tmp 4] Tryz.func69 (by kernel_rfl) rfl rfl (Nat.le_of_ble_eq_true rfl) (by kernel_rfl) ?_)
  have up : Up H.next H (H.push ⟨26, true, [.int .i64 q, v]⟩) := (Up.refl _ H).push (Nat.le_refl _) _
  try simp (disch := first | omega | (simp only [L3] <;> omega)) only [Sall,evalOp,init,binA_s,binE,binI,unE,convE,okNil,builtE,gv,TD.isAgg,resV,↓reduceIte,Nat.reduceEqDiff,reduceCtorEq,Nat.reduceAdd,Nat.reduceMul,Nat.reduceLeDiff,za0,za2,Int.reduceEq,Int.reduceLT,Int.reduceLE,Nat.reduceLT,tiA, hone, w64]
  refine (zc2 _ _ _ _).to ?_
  try simp (disch := first | omega | (simp only [L3] <;> omega)) only [Sall,evalOp,init,binA_s,binE,binI,unE,convE,okNil,builtE,gv,TD.isAgg,resV,↓reduceIte,Nat.reduceEqDiff,reduceCtorEq,Nat.reduceAdd,Nat.reduceMul,Nat.reduceLeDiff,za0,za2,Int.reduceEq,Int.reduceLT,Int.reduceLE,Nat.reduceLT,tiA, true_and]
  exact up
end Go.Proofs.YtemgclojolmhbaaGreat.A
end
